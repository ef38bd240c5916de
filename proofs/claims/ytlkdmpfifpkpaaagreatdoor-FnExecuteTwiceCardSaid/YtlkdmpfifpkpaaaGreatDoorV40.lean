/-
  Parts of the proof: Zx. No condition.
-/
import Derived.Test.YtlkdmpfifpkpaaaGreatDoorV39
namespace Go.Proofs.YtlkdmpfifpkpaaaGreatDoor
open Go.RowKit
def eoX (t : ByteArray) (j : Nat) : ByteArray := ⟨(exO (ouX t) j).toArray⟩
theorem eo_succ (t : ByteArray) (j : Nat) : eoX t (j + 1) = eoX t j ++ (ouX t j ++ ⟨#[10]⟩) := ba_ext (by simp [eoX, exO])
theorem ou_size (t : ByteArray) (j : Nat) : (ouX t j).size ≤ 1000000 := tell_size (it_ok t j) _
theorem eo_size (t : ByteArray) (j : Nat) : (eoX t j).size ≤ 1000001 * j := by
 have := exO_len (ou_size t) j
 show (exO (ouX t) j).toArray.size ≤ _
 simpa using this
structure XeI (w wr : World) (b5 bl : Nat) (t : ByteArray) (j : Nat) : Prop where
  ex : ∃ g1 c1 g2 c2 gm cm gt ct ao c0, Bx wr b5 68 #[.slice (some ⟨g1, 0, none⟩) (itX t j).1.x.n c1, .slice (some ⟨g2, 0, none⟩) (itX t j).1.x.m c2, .slice (some ⟨gm, 0, none⟩) (itX t j).1.ms.length cm, .slice (some ⟨gt, 0, none⟩) (itX t j).1.ts.length ct, .int .i64 (itX t j).1.tm, .slice ao (itX t j).2.length c0] ∧ SpM wr g1 g2 gm gt ao (itX t j).1 (itX t j).2 ∧ AvP wr ao (itX t j).2 b5
  be : Below w.heap.size w wr
  ln : ∀ i, i < (lnT t).length → wr.cell? ⟨bl, i, none⟩ = some (.string (lnI t i))
  zb : w.heap.size ≤ b5
  hl : bl < wr.heap.size
  nb : bl ≠ b5
structure XeE (w wE : World) (b5 b9 bl : Nat) (t : ByteArray) (j : Nat) (old new : Array Value) : Prop where
  x5 : Bx wE b5 68 old
  x9 : Bx wE b9 68 new
  be : Below w.heap.size w wE
  ln : ∀ i, i < (lnT t).length → wE.cell? ⟨bl, i, none⟩ = some (.string (lnI t i))
  zb : w.heap.size ≤ b5
  hl : bl < wE.heap.size
  nb : bl ≠ b5
  n9 : b5 ≠ b9
theorem XeE.step {w wE wr : World} {b5 b9 bl : Nat} {t : ByteArray} {j g1 c1 g2 c2 gm cm gt ct c0 : Nat} {ao a : Option Addr} {n c : Nat} {u1 u2 u3 u4 u5 : Value} (h : XeE w wE b5 b9 bl t j #[.slice a n c, u1, u2, u3, u4, u5] #[.slice (some ⟨g1, 0, none⟩) (itX t (j + 1)).1.x.n c1, .slice (some ⟨g2, 0, none⟩) (itX t (j + 1)).1.x.m c2, .slice (some ⟨gm, 0, none⟩) (itX t (j + 1)).1.ms.length cm, .slice (some ⟨gt, 0, none⟩) (itX t (j + 1)).1.ts.length ct, .int .i64 (itX t (j + 1)).1.tm, .slice ao (itX t (j + 1)).2.length c0]) (hM : SpM wE g1 g2 gm gt ao (itX t (j + 1)).1 (itX t (j + 1)).2) (hA : AvP wE ao (itX t (j + 1)).2 b5) (hb : Bx wr b5 68 #[.slice (some ⟨g1, 0, none⟩) (itX t (j + 1)).1.x.n c1, .slice (some ⟨g2, 0, none⟩) (itX t (j + 1)).1.x.m c2, .slice (some ⟨gm, 0, none⟩) (itX t (j + 1)).1.ms.length cm, .slice (some ⟨gt, 0, none⟩) (itX t (j + 1)).1.ts.length ct, .int .i64 (itX t (j + 1)).1.tm, .slice ao (itX t (j + 1)).2.length c0]) (hf : Fr (fun q => q = b5) wE wr) : XeI w wr b5 bl t (j + 1) := by
 obtain ⟨q1, q2⟩ := hM.st5 (h.x5.cell 0) hA (it_ok t (j + 1)).p hf
 refine ⟨⟨g1, c1, g2, c2, gm, cm, gt, ct, ao, c0, hb, q1, q2⟩, h.be.trans (hf.below (fun k hk => by have : k = b5 := hk; have := h.zb; omega) h.be.size), fun i hi => ?_, h.zb, Nat.lt_of_lt_of_le h.hl hf.size, h.nb⟩
 rw [hf.cellN h.hl h.nb]
 exact h.ln i hi
theorem xe_start {w wA wr : World} {g1 c1 g2 c2 gm cm gt ct gp c0 b5 bl cl : Nat} {t : ByteArray} (o1 : Own wA g1 c1 (newL 1 0).n 3 76 (bkF (newL 1 0).N (newL 1 0).I (newL 1 0).O)) (o2 : Own wA g2 c2 (newL 1 0).m 1 3 (fun i => .int .i64 ((newL 1 0).T i)))
    (x5 : Bx wA b5 68 #[.slice (some ⟨g1, 0, none⟩) (newL 1 0).n c1, .slice (some ⟨g2, 0, none⟩) (newL 1 0).m c2, .slice (some ⟨gm, 0, none⟩) 0 cm, .slice (some ⟨gt, 0, none⟩) 0 ct, .int .i64 0, .slice (some ⟨gp, 0, none⟩) 0 c0])
    (hgm : gm < wA.heap.size) (hgt : gt < wA.heap.size) (hz : w.heap.size ≤ b5) (hb : Below w.heap.size w wA) (hb6 : Below wA.heap.size wA wr) (how : Own wr bl cl (lnT t).length 1 9 (fun i => .string (tF (lnT t) i))) (hbl : wA.heap.size ≤ bl) : XeI w wr b5 bl t 0 := by
  have hz6 := hb6.size
  have h5 := x5.lt
  have q1 := o1.below hb6 o1.lt
  have q2 := o2.below hb6 o2.lt
  exact ⟨⟨g1, c1, g2, c2, gm, cm, gt, ct, some ⟨gp, 0, none⟩, c0, x5.below hb6 h5, ⟨BkC.of_own q1, IC.of_own q2, fun k hk => absurd hk (Nat.not_lt_zero k), fun k hk => absurd hk (Nat.not_lt_zero k), fun k hk => absurd hk (Nat.not_lt_zero k), q1.lt, q2.lt, by omega, by omega⟩, fun k hk => absurd hk (Nat.not_lt_zero k)⟩, hb.trans (hb6.mono hb.size), fun i hi => Own.cell1 how hi, hz, how.lt, by omega⟩
theorem XeI.end9 {w wr wE : World} {b5 b9 bl : Nat} {t : ByteArray} {j : Nat} {old new : Array Value} (h : XeI w wr b5 bl t j) (h5 : Bx wr b5 68 old) (hb : Below wr.heap.size wr wE) (h9 : Bx wE b9 68 new) (hz : wr.heap.size ≤ b9) : XeE w wE b5 b9 bl t j old new :=
 ⟨h5.below hb h5.lt, h9, h.be.trans (hb.mono h.be.size), fun i hi => by rw [hb.cell (p := ⟨bl, i, none⟩) h.hl]; exact h.ln i hi, h.zb, Nat.lt_of_lt_of_le h.hl hb.size, h.nb, by have := h5.lt; omega⟩
set_option linter.unusedSimpArgs false in
set_option maxRecDepth 100000 in
set_option maxHeartbeats 4000000 in
theorem specExecute_X (t : ByteArray) (w : World) :
    Calls Tryz.prog 12 #[.string t] w fun e w' => e = .returned (.string (EX t)) ∧ Below w.heap.size w w' := by
  by_cases hsz : t.size ≤ 500
  ·have HL0 := Lib.hid (specLineNew_any 1 0 w)
   have HCL : Hid (∀ W, Calls Tryz.prog 40 #[.string t, .int .u8 10] W fun e w' => (∃ g cap, e = .returned (.slice (some ⟨g, 0, none⟩) (lnT t).length cap) ∧ Own w' g cap (lnT t).length 1 9 (fun i => .string (tF (lnT t) i)) ∧ W.heap.size ≤ g) ∧ Below W.heap.size W w') := fun W => l9Cut_any 10 t (lnT t) W (by omega) (lnT_spB t)
   have hLn : (lnT t).length ≤ 501 := by have := lnT_len t; have := Lib.countB_le ⟨#[10]⟩ (by decide) t.size t (Nat.le_refl _); omega
   have hL1 : 1 ≤ (lnT t).length := by have := lnT_len t; omega
   have h1 : ¬ (500 : Int) < (t.size : Int) := by omega
   go_enter Tryz.func12, Tryz.ntmps12
   go_wp2_with fail
   refine HL0.out.mono ?_
   rintro e w2 ⟨hb2, h2⟩
   have hnw : nwO 1 0 = some (newL 1 0) := rfl
   rw [hnw] at h2
   rcases h2 with ⟨ho, rfl⟩ | ⟨y, v, ho, rfl, hl⟩
   ·cases ho
   obtain rfl : newL 1 0 = y := by simpa using ho
   obtain ⟨g1, c1, g2, c2, rfl, o1, o2, _, b1, b2⟩ := hl
   have HO1 := Lib.hid o1
   have HO2 := Lib.hid o2
   have HB2 := Lib.hid hb2
   have hz2 := hb2.size
   clear o1 o2 hb2 ho hnw
   go_wp2_with fail
   have HBA : Hid (Below w.heap.size w (((((w2.alloc (.cells #[.slice (some ⟨g1, 0, none⟩) (newL 1 0).n c1, .slice (some ⟨g2, 0, none⟩) (newL 1 0).m c2] 31)).alloc (.cells #[] 94)).alloc (.cells #[] 3)).alloc (.cells #[] 41)).alloc (.cells #[.slice (some ⟨g1, 0, none⟩) (newL 1 0).n c1, .slice (some ⟨g2, 0, none⟩) (newL 1 0).m c2, .slice (some ⟨w2.heap.size + 1, 0, none⟩) 0 0, .slice (some ⟨w2.heap.size + 1 + 1, 0, none⟩) 0 0, .int .i64 0, .slice (some ⟨w2.heap.size + 1 + 1 + 1, 0, none⟩) 0 0] 68))) := ((((HB2.out.alloc hz2 _).alloc (by simp; omega) _).alloc (by simp; omega) _).alloc (by simp; omega) _).alloc (by simp; omega) _
   have HX0 : Hid (Bx (((((w2.alloc (.cells #[.slice (some ⟨g1, 0, none⟩) (newL 1 0).n c1, .slice (some ⟨g2, 0, none⟩) (newL 1 0).m c2] 31)).alloc (.cells #[] 94)).alloc (.cells #[] 3)).alloc (.cells #[] 41)).alloc (.cells #[.slice (some ⟨g1, 0, none⟩) (newL 1 0).n c1, .slice (some ⟨g2, 0, none⟩) (newL 1 0).m c2, .slice (some ⟨w2.heap.size + 1, 0, none⟩) 0 0, .slice (some ⟨w2.heap.size + 1 + 1, 0, none⟩) 0 0, .int .i64 0, .slice (some ⟨w2.heap.size + 1 + 1 + 1, 0, none⟩) 0 0] 68)) (w2.heap.size + 1 + 1 + 1 + 1) 68 #[.slice (some ⟨g1, 0, none⟩) (newL 1 0).n c1, .slice (some ⟨g2, 0, none⟩) (newL 1 0).m c2, .slice (some ⟨w2.heap.size + 1, 0, none⟩) 0 0, .slice (some ⟨w2.heap.size + 1 + 1, 0, none⟩) 0 0, .int .i64 0, .slice (some ⟨w2.heap.size + 1 + 1 + 1, 0, none⟩) 0 0]) := Bx.newAt (by simp)
   have HOA1 : Hid (Own (((((w2.alloc (.cells #[.slice (some ⟨g1, 0, none⟩) (newL 1 0).n c1, .slice (some ⟨g2, 0, none⟩) (newL 1 0).m c2] 31)).alloc (.cells #[] 94)).alloc (.cells #[] 3)).alloc (.cells #[] 41)).alloc (.cells #[.slice (some ⟨g1, 0, none⟩) (newL 1 0).n c1, .slice (some ⟨g2, 0, none⟩) (newL 1 0).m c2, .slice (some ⟨w2.heap.size + 1, 0, none⟩) 0 0, .slice (some ⟨w2.heap.size + 1 + 1, 0, none⟩) 0 0, .int .i64 0, .slice (some ⟨w2.heap.size + 1 + 1 + 1, 0, none⟩) 0 0] 68)) g1 c1 (newL 1 0).n 3 76 (bkF (newL 1 0).N (newL 1 0).I (newL 1 0).O)) := ((((HO1.out.alloc _).alloc _).alloc _).alloc _).alloc _
   have HOA2 : Hid (Own (((((w2.alloc (.cells #[.slice (some ⟨g1, 0, none⟩) (newL 1 0).n c1, .slice (some ⟨g2, 0, none⟩) (newL 1 0).m c2] 31)).alloc (.cells #[] 94)).alloc (.cells #[] 3)).alloc (.cells #[] 41)).alloc (.cells #[.slice (some ⟨g1, 0, none⟩) (newL 1 0).n c1, .slice (some ⟨g2, 0, none⟩) (newL 1 0).m c2, .slice (some ⟨w2.heap.size + 1, 0, none⟩) 0 0, .slice (some ⟨w2.heap.size + 1 + 1, 0, none⟩) 0 0, .int .i64 0, .slice (some ⟨w2.heap.size + 1 + 1 + 1, 0, none⟩) 0 0] 68)) g2 c2 (newL 1 0).m 1 3 (fun i => .int .i64 ((newL 1 0).T i))) := ((((HO2.out.alloc _).alloc _).alloc _).alloc _).alloc _
   have hzA : (((((w2.alloc (.cells #[.slice (some ⟨g1, 0, none⟩) (newL 1 0).n c1, .slice (some ⟨g2, 0, none⟩) (newL 1 0).m c2] 31)).alloc (.cells #[] 94)).alloc (.cells #[] 3)).alloc (.cells #[] 41)).alloc (.cells #[.slice (some ⟨g1, 0, none⟩) (newL 1 0).n c1, .slice (some ⟨g2, 0, none⟩) (newL 1 0).m c2, .slice (some ⟨w2.heap.size + 1, 0, none⟩) 0 0, .slice (some ⟨w2.heap.size + 1 + 1, 0, none⟩) 0 0, .int .i64 0, .slice (some ⟨w2.heap.size + 1 + 1 + 1, 0, none⟩) 0 0] 68)).heap.size = w2.heap.size + 5 := by simp
   generalize (((((w2.alloc (.cells #[.slice (some ⟨g1, 0, none⟩) (newL 1 0).n c1, .slice (some ⟨g2, 0, none⟩) (newL 1 0).m c2] 31)).alloc (.cells #[] 94)).alloc (.cells #[] 3)).alloc (.cells #[] 41)).alloc (.cells #[.slice (some ⟨g1, 0, none⟩) (newL 1 0).n c1, .slice (some ⟨g2, 0, none⟩) (newL 1 0).m c2, .slice (some ⟨w2.heap.size + 1, 0, none⟩) 0 0, .slice (some ⟨w2.heap.size + 1 + 1, 0, none⟩) 0 0, .int .i64 0, .slice (some ⟨w2.heap.size + 1 + 1 + 1, 0, none⟩) 0 0] 68)) = wA at *
   obtain ⟨b5, hb5⟩ : ∃ b5, b5 = w2.heap.size + 1 + 1 + 1 + 1 := ⟨_, rfl⟩
   rw [← hb5] at HX0 ⊢
   clear HO1 HO2 HB2
   refine (HCL.out _).mono ?_
   rintro e w6 ⟨⟨bl, cl, rfl, how, hbl⟩, hb6⟩
   have HI0 : Hid (XeI w w6 b5 bl t 0) := xe_start HOA1.out HOA2.out HX0.out (by omega) (by omega) (by omega) HBA.out hb6 how hbl
   clear how hbl hb6 HOA1 HOA2 HX0 hb5 hzA hz2 HBA
   go_wp2_with fail
   go_loopw [6, 8, 9, 10] (fun o i _ _ wr => ∃ j : Nat, j + 1 ≤ (lnT t).length ∧ i = .int .i64 j ∧ o = .string (eoX t j) ∧ Hid (XeI w wr b5 bl t j)) (fun _ i _ _ _ => (lnT t).length - (intOf i).toNat)
   case atStart => exact ⟨0, hL1, rfl, rfl, HI0⟩
   case round =>
    obtain ⟨j, hj, rfl, rfl, HI⟩ := hrel
    obtain ⟨g1, c1, g2, c2, gm, cm, gt, ct, ao, c0, hx5, hM, hA⟩ := HI.out.ex
    have HX5 := Lib.hid hx5
    have HM := Lib.hid hM
    have HA := Lib.hid hA
    clear hx5 hM hA
    have hwj : IntKind.i64.wrap ((j : Int) + 1) = (j : Int) + 1 := IntWalk.i64_in _ (by omega)
    by_cases hlt : j + 1 < (lnT t).length
    ·have hlti : (j : Int) + 1 < ((lnT t).length : Int) := by omega
     have hji : (j : Int) < ((lnT t).length : Int) := by omega
     have hjn : j < (lnT t).length := by omega
     obtain ⟨q, hq⟩ : ∃ q, (wdL (lnI t j)).length = q + 1 := ⟨_, wdL_len _⟩
     have hls := lnI_size t j
     have hqs : q < 1000000 := by have := wdL_le (lnI t j); omega
     have HCU : Hid (∀ W, Calls Tryz.prog 40 #[.string (lnI t j), .int .u8 32] W fun e w' => (∃ g cap, e = .returned (.slice (some ⟨g, 0, none⟩) (q + 1) cap) ∧ Own w' g cap (q + 1) 1 9 (fun i => .string (wdI (lnI t j) i)) ∧ W.heap.size ≤ g) ∧ Below W.heap.size W w') := fun W => by
      have h := l9Cut_any 32 (lnI t j) (wdL (lnI t j)) W (by omega) (wdL_spB _)
      rw [hq] at h
      exact h
     have HLN : Hid (∀ W gw cw, Below wr.heap.size wr W → (∀ i, i < q + 1 → W.cell? ⟨gw, i, none⟩ = some (.string (wdI (lnI t j) i))) → Calls Tryz.prog 41 #[.agg #[.slice (some ⟨g1, 0, none⟩) (itX t j).1.x.n c1, .slice (some ⟨g2, 0, none⟩) (itX t j).1.x.m c2, .slice (some ⟨gm, 0, none⟩) (itX t j).1.ms.length cm, .slice (some ⟨gt, 0, none⟩) (itX t j).1.ts.length ct, .int .i64 (itX t j).1.tm, .slice ao (itX t j).2.length c0], .slice (some ⟨gw, 0, none⟩) (q + 1) cw] W fun e w' => Below W.heap.size W w' ∧ ∃ G1 C1 G2 C2 GM CM GT CT AO C0, e = .returned (.tuple #[.agg #[.slice (some ⟨G1, 0, none⟩) (itX t (j + 1)).1.x.n C1, .slice (some ⟨G2, 0, none⟩) (itX t (j + 1)).1.x.m C2, .slice (some ⟨GM, 0, none⟩) (itX t (j + 1)).1.ms.length CM, .slice (some ⟨GT, 0, none⟩) (itX t (j + 1)).1.ts.length CT, .int .i64 (itX t (j + 1)).1.tm, .slice AO (itX t (j + 1)).2.length C0], .string (ouX t j ++ ⟨#[10]⟩)]) ∧ SpM w' G1 G2 GM GT AO (itX t (j + 1)).1 (itX t (j + 1)).2 ∧ ∀ b5, b5 < W.heap.size → AvP W ao (itX t j).2 b5 → AvP w' AO (itX t (j + 1)).2 b5) := fun W gw cw hb hw => l9Line_step g1 c1 g2 c2 gm cm gt ct c0 gw cw q j ao t W (HM.out.keep hb) hq hqs hw
     have HWr : Hid (Below wr.heap.size wr wr.drew) := (Below.refl _ _).drew
     have HWz : Hid (wr.heap.size ≤ wr.drew.heap.size) := HWr.out.size
     have HCC : Hid (∀ V, Below wr.drew.heap.size wr.drew V → (V.cell? ⟨b5, 0, none⟩ = some (.slice (some ⟨g1, 0, none⟩) (itX t j).1.x.n c1) ∧ V.cell? ⟨b5, 1, none⟩ = some (.slice (some ⟨g2, 0, none⟩) (itX t j).1.x.m c2) ∧ V.cell? ⟨b5, 2, none⟩ = some (.slice (some ⟨gm, 0, none⟩) (itX t j).1.ms.length cm) ∧ V.cell? ⟨b5, 3, none⟩ = some (.slice (some ⟨gt, 0, none⟩) (itX t j).1.ts.length ct) ∧ V.cell? ⟨b5, 4, none⟩ = some (.int .i64 (itX t j).1.tm) ∧ V.cell? ⟨b5, 5, none⟩ = some (.slice ao (itX t j).2.length c0) ∧ V.cell? ⟨bl, j, none⟩ = some (.string (lnI t j)))) := fun V h => by
      have hb := HWr.out.trans (h.mono HWz.out)
      have x := (HX5.out.below hb HX5.out.lt).cell
      exact ⟨x 0, x 1, x 2, x 3, x 4, x 5, by rw [hb.cell (p := ⟨bl, j, none⟩) HI.out.hl]; exact HI.out.ln j hjn⟩
     have h5l : b5 < wr.drew.heap.size := Nat.lt_of_lt_of_le HX5.out.lt HWz.out
     have HAV : Hid (AvP wr.drew ao (itX t j).2 b5) := HA.out.keep HWr.out
     clear hls
     go_wp2_with fail
     refine wp_region_held_drew (S := fun W => (W.cell? ⟨b5, 0, none⟩ = some (.slice (some ⟨g1, 0, none⟩) (itX t j).1.x.n c1) ∧ W.cell? ⟨b5, 1, none⟩ = some (.slice (some ⟨g2, 0, none⟩) (itX t j).1.x.m c2) ∧ W.cell? ⟨b5, 2, none⟩ = some (.slice (some ⟨gm, 0, none⟩) (itX t j).1.ms.length cm) ∧ W.cell? ⟨b5, 3, none⟩ = some (.slice (some ⟨gt, 0, none⟩) (itX t j).1.ts.length ct) ∧ W.cell? ⟨b5, 4, none⟩ = some (.int .i64 (itX t j).1.tm) ∧ W.cell? ⟨b5, 5, none⟩ = some (.slice ao (itX t j).2.length c0) ∧ W.cell? ⟨bl, j, none⟩ = some (.string (lnI t j)))) (by kernel_rfl) (HCC.out _ (Below.refl _ _)) (fun hHeld => ?_)
     generalize wr.drew = W at *
     refine tkR 0 ?_
     refine tkR 1 ?_
     refine tkR 2 ?_
     refine tkR 3 ?_
     refine tkR 4 ?_
     refine wpAnyH_ready (rs := [5, 10]) (by kernel_rfl) (by simp) ?_
     refine c1R (fun K hK => ?_) ?_
     ·go_simp
      go_at_call 40
      go_must (refine Calls.mono (HCU.out _) ?_)
      rintro e w4 ⟨⟨gw, cw, rfl, how, hgw⟩, hb4⟩
      have HOW := Lib.hid how
      have HB4 : Hid (Below W.heap.size W w4) := (Below.refl W.heap.size W).trans (hb4.mono (Below.refl W.heap.size W).size)
      refine oR hK ?_ (fun hHeld => ?_)
      ·try dsimp only
       exact HCC.out _ HB4.out
      clear hK K
      refine wpAnyH_ready (rs := [6, 10]) (by kernel_rfl) (by simp) ?_
      refine c1R (fun K hK => ?_) ?_
      ·go_simp
       go_at_call 41
       go_must (refine Calls.mono (HLN.out w4 gw cw (HWr.out.trans ((HB4.out).mono HWz.out)) (fun i hi => Own.cell1 (HOW.out) hi)) ?_)
       rintro e w5 ⟨hb5, G1, C1, G2, C2, GM, CM, GT, CT, AO, C0, rfl, hm5, ha5⟩
       have HM5 := Lib.hid hm5
       have HA5 := Lib.hid ha5
       have HB5 : Hid (Below W.heap.size W w5) := (HB4.out).trans (hb5.mono (HB4.out).size)
       clear hm5 ha5
       refine oR hK ?_ (fun hHeld => ?_)
       ·try dsimp only
        exact HCC.out _ HB5.out
       clear hK K
       have HA6l := Lib.hid (HA5.out b5 (by have := HB4.out.size; omega) (HAV.out.keep HB4.out))
       refine tkR 7 ?_
       refine tkR 8 ?_
       refine tkR 9 ?_
       refine r1R 10 (fun K hK => ?_)
       go_simp
       skip
       refine oR hK ?_ (fun hHeld => ?_)
       ·try dsimp only
        exact HCC.out _ (HB5.out.alloc HB5.out.size _)
       clear hK K
       refine r1R 11 (fun K hK => ?_)
       go_simp
       skip
       refine oR hK ?_ (fun hHeld => ?_)
       ·try dsimp only
        exact HCC.out _ (HB5.out.alloc HB5.out.size _)
       clear hK K
       refine tkR 12 ?_
       refine wpAnyH_done (by kernel_rfl) ?_ _
       have HE : Hid (XeE w (w5.alloc (.cells #[.slice (some ⟨G1, 0, none⟩) (itX t (j + 1)).1.x.n C1, .slice (some ⟨G2, 0, none⟩) (itX t (j + 1)).1.x.m C2, .slice (some ⟨GM, 0, none⟩) (itX t (j + 1)).1.ms.length CM, .slice (some ⟨GT, 0, none⟩) (itX t (j + 1)).1.ts.length CT, .int .i64 (itX t (j + 1)).1.tm, .slice AO (itX t (j + 1)).2.length C0] 68)) b5 w5.heap.size bl t j #[.slice (some ⟨g1, 0, none⟩) (itX t j).1.x.n c1, .slice (some ⟨g2, 0, none⟩) (itX t j).1.x.m c2, .slice (some ⟨gm, 0, none⟩) (itX t j).1.ms.length cm, .slice (some ⟨gt, 0, none⟩) (itX t j).1.ts.length ct, .int .i64 (itX t j).1.tm, .slice ao (itX t j).2.length c0] #[.slice (some ⟨G1, 0, none⟩) (itX t (j + 1)).1.x.n C1, .slice (some ⟨G2, 0, none⟩) (itX t (j + 1)).1.x.m C2, .slice (some ⟨GM, 0, none⟩) (itX t (j + 1)).1.ms.length CM, .slice (some ⟨GT, 0, none⟩) (itX t (j + 1)).1.ts.length CT, .int .i64 (itX t (j + 1)).1.tm, .slice AO (itX t (j + 1)).2.length C0]) := HI.out.end9 HX5.out (HWr.out.trans ((HB5.out.alloc HB5.out.size _).mono HWz.out)) (Bx.new _ _ _) (Nat.le_trans HWz.out HB5.out.size)
       have HM6 : Hid (SpM (w5.alloc (.cells #[.slice (some ⟨G1, 0, none⟩) (itX t (j + 1)).1.x.n C1, .slice (some ⟨G2, 0, none⟩) (itX t (j + 1)).1.x.m C2, .slice (some ⟨GM, 0, none⟩) (itX t (j + 1)).1.ms.length CM, .slice (some ⟨GT, 0, none⟩) (itX t (j + 1)).1.ts.length CT, .int .i64 (itX t (j + 1)).1.tm, .slice AO (itX t (j + 1)).2.length C0] 68)) G1 G2 GM GT AO (itX t (j + 1)).1 (itX t (j + 1)).2) := HM5.out.keep (below_all _ _)
       have HA6 : Hid (AvP (w5.alloc (.cells #[.slice (some ⟨G1, 0, none⟩) (itX t (j + 1)).1.x.n C1, .slice (some ⟨G2, 0, none⟩) (itX t (j + 1)).1.x.m C2, .slice (some ⟨GM, 0, none⟩) (itX t (j + 1)).1.ms.length CM, .slice (some ⟨GT, 0, none⟩) (itX t (j + 1)).1.ts.length CT, .int .i64 (itX t (j + 1)).1.tm, .slice AO (itX t (j + 1)).2.length C0] 68)) AO (itX t (j + 1)).2 b5) := HA6l.out.keep (below_all _ _)
       clear hHeld
       generalize (w5.alloc (.cells #[.slice (some ⟨G1, 0, none⟩) (itX t (j + 1)).1.x.n C1, .slice (some ⟨G2, 0, none⟩) (itX t (j + 1)).1.x.m C2, .slice (some ⟨GM, 0, none⟩) (itX t (j + 1)).1.ms.length CM, .slice (some ⟨GT, 0, none⟩) (itX t (j + 1)).1.ts.length CT, .int .i64 (itX t (j + 1)).1.tm, .slice AO (itX t (j + 1)).2.length C0] 68)) = wE at *
       obtain ⟨b9, hb9⟩ : ∃ b9, b9 = w5.heap.size := ⟨_, rfl⟩
       rw [← hb9] at HE ⊢
       clear hb9
       have hcs := HE.out.x9.cell
       have hxs := HE.out.x5.free
       have hxc := HE.out.x5.cell
       have hxl := HE.out.x5.lt
       have hos := ou_size t j
       have hes := eo_size t j
       have HES := Lib.hid (eo_succ t j)
       obtain ⟨HS5, HF5⟩ := st6_both HE.out.x5 (.slice (some ⟨G1, 0, none⟩) (itX t (j + 1)).1.x.n C1) (.slice (some ⟨G2, 0, none⟩) (itX t (j + 1)).1.x.m C2) (.slice (some ⟨GM, 0, none⟩) (itX t (j + 1)).1.ms.length CM) (.slice (some ⟨GT, 0, none⟩) (itX t (j + 1)).1.ts.length CT) (.int .i64 (itX t (j + 1)).1.tm) (.slice AO (itX t (j + 1)).2.length C0)
       have HN := Lib.hid (HE.out.step HM6.out HA6.out HS5 HF5)
       have hj5 : 1000001 * j ≤ 1000001 * 501 := Nat.mul_le_mul_left _ (by omega)
       clear HS5 HF5 HI
       generalize itX t (j + 1) = sz at *
       generalize ouX t j = ou at *
       generalize eoX t j = ej at *
       have hsum : ¬ 9223372036854775807 < ej.size + (ou.size + 1) := by omega
       go_wp2_with fail
       go_roundw
       case rel => exact ⟨j + 1, by omega, by go_num, by rw [HES.out], HN⟩
       case measure => simp [intOf]; omega
      ·refine c1R (fun K hK => ?_) ?_
       ·have HX4 : Hid (Bx (w4.alloc (.cells #[.slice none 0 0, .slice none 0 0, .slice none 0 0, .slice none 0 0, .int .i64 0, .slice none 0 0] 68)) w4.heap.size 68 #[.slice none 0 0, .slice none 0 0, .slice none 0 0, .slice none 0 0, .int .i64 0, .slice none 0 0]) := Bx.new _ _ _
        have HB4z : Hid (Below W.heap.size W (w4.alloc (.cells #[.slice none 0 0, .slice none 0 0, .slice none 0 0, .slice none 0 0, .int .i64 0, .slice none 0 0] 68))) := HB4.out.alloc HB4.out.size _
        have hz4 := HB4.out.size
        go_simp
        skip
        refine oR hK ?_ (fun hHeld => ?_)
        ·try dsimp only
         exact HCC.out _ HB4z.out
        clear hK K
        refine r1R 6 (fun K hK => ?_)
        go_simp
        go_at_call 41
        go_must (refine Calls.mono (HLN.out (w4.alloc (.cells #[.slice none 0 0, .slice none 0 0, .slice none 0 0, .slice none 0 0, .int .i64 0, .slice none 0 0] 68)) gw cw (HWr.out.trans ((HB4z.out).mono HWz.out)) (fun i hi => Own.cell1 (HOW.out.alloc _) hi)) ?_)
        rintro e w5 ⟨hb5, G1, C1, G2, C2, GM, CM, GT, CT, AO, C0, rfl, hm5, ha5⟩
        have HM5 := Lib.hid hm5
        have HA5 := Lib.hid ha5
        have HB5 : Hid (Below W.heap.size W w5) := (HB4z.out).trans (hb5.mono (HB4z.out).size)
        clear hm5 ha5
        have HX9 := Lib.hid (HX4.out.below hb5 HX4.out.lt)
        refine oR hK ?_ (fun hHeld => ?_)
        ·try dsimp only
         exact HCC.out _ HB5.out
        clear hK K
        have HA6l := Lib.hid (HA5.out b5 (by have := HB4z.out.size; omega) (HAV.out.keep HB4z.out))
        have HA59 := Lib.hid (HA5.out w4.heap.size HX4.out.lt (HAV.out.new (it_ok t j).p HB4z.out hz4))
        refine tkR 7 ?_
        refine tkR 8 ?_
        refine tkR 9 ?_
        have hx9c := HX9.out.cell
        have hx9f := HX9.out.free
        have hx9l := HX9.out.lt
        obtain ⟨HS9, HF9⟩ := st6_both HX9.out (.slice (some ⟨G1, 0, none⟩) (itX t (j + 1)).1.x.n C1) (.slice (some ⟨G2, 0, none⟩) (itX t (j + 1)).1.x.m C2) (.slice (some ⟨GM, 0, none⟩) (itX t (j + 1)).1.ms.length CM) (.slice (some ⟨GT, 0, none⟩) (itX t (j + 1)).1.ts.length CT) (.int .i64 (itX t (j + 1)).1.tm) (.slice AO (itX t (j + 1)).2.length C0)
        have HBE : Hid (Below W.heap.size W ((((((w5.setCell ⟨w4.heap.size, 0, none⟩ (.slice (some ⟨G1, 0, none⟩) (itX t (j + 1)).1.x.n C1)).setCell ⟨w4.heap.size, 1, none⟩ (.slice (some ⟨G2, 0, none⟩) (itX t (j + 1)).1.x.m C2)).setCell ⟨w4.heap.size, 2, none⟩ (.slice (some ⟨GM, 0, none⟩) (itX t (j + 1)).1.ms.length CM)).setCell ⟨w4.heap.size, 3, none⟩ (.slice (some ⟨GT, 0, none⟩) (itX t (j + 1)).1.ts.length CT)).setCell ⟨w4.heap.size, 4, none⟩ (.int .i64 (itX t (j + 1)).1.tm)).setCell ⟨w4.heap.size, 5, none⟩ (.slice AO (itX t (j + 1)).2.length C0))) := HB5.out.trans (HF9.below (B := W.heap.size) (fun k hk => by have : k = w4.heap.size := hk; omega) HB5.out.size)
        have HME := Lib.hid (HM5.out.st5 (HX9.out.cell 0) HA59.out (it_ok t (j + 1)).p HF9)
        have HAE := Lib.hid (HA6l.out.fr HA59.out (it_ok t (j + 1)).p HF9)
        have HS9 := Lib.hid HS9
        clear HF9
        refine r1R 11 (fun K hK => ?_)
        go_simp
        skip
        refine oR hK ?_ (fun hHeld => ?_)
        ·try dsimp only
         exact HCC.out _ HBE.out
        clear hK K
        refine tkR 12 ?_
        refine wpAnyH_done (by kernel_rfl) ?_ _
        clear hx9c hx9f hx9l
        have HE : Hid (XeE w ((((((w5.setCell ⟨w4.heap.size, 0, none⟩ (.slice (some ⟨G1, 0, none⟩) (itX t (j + 1)).1.x.n C1)).setCell ⟨w4.heap.size, 1, none⟩ (.slice (some ⟨G2, 0, none⟩) (itX t (j + 1)).1.x.m C2)).setCell ⟨w4.heap.size, 2, none⟩ (.slice (some ⟨GM, 0, none⟩) (itX t (j + 1)).1.ms.length CM)).setCell ⟨w4.heap.size, 3, none⟩ (.slice (some ⟨GT, 0, none⟩) (itX t (j + 1)).1.ts.length CT)).setCell ⟨w4.heap.size, 4, none⟩ (.int .i64 (itX t (j + 1)).1.tm)).setCell ⟨w4.heap.size, 5, none⟩ (.slice AO (itX t (j + 1)).2.length C0)) b5 w4.heap.size bl t j #[.slice (some ⟨g1, 0, none⟩) (itX t j).1.x.n c1, .slice (some ⟨g2, 0, none⟩) (itX t j).1.x.m c2, .slice (some ⟨gm, 0, none⟩) (itX t j).1.ms.length cm, .slice (some ⟨gt, 0, none⟩) (itX t j).1.ts.length ct, .int .i64 (itX t j).1.tm, .slice ao (itX t j).2.length c0] #[.slice (some ⟨G1, 0, none⟩) (itX t (j + 1)).1.x.n C1, .slice (some ⟨G2, 0, none⟩) (itX t (j + 1)).1.x.m C2, .slice (some ⟨GM, 0, none⟩) (itX t (j + 1)).1.ms.length CM, .slice (some ⟨GT, 0, none⟩) (itX t (j + 1)).1.ts.length CT, .int .i64 (itX t (j + 1)).1.tm, .slice AO (itX t (j + 1)).2.length C0]) := HI.out.end9 HX5.out (HWr.out.trans ((HBE.out).mono HWz.out)) (HS9.out) (Nat.le_trans HWz.out hz4)
        have HM6 : Hid (SpM ((((((w5.setCell ⟨w4.heap.size, 0, none⟩ (.slice (some ⟨G1, 0, none⟩) (itX t (j + 1)).1.x.n C1)).setCell ⟨w4.heap.size, 1, none⟩ (.slice (some ⟨G2, 0, none⟩) (itX t (j + 1)).1.x.m C2)).setCell ⟨w4.heap.size, 2, none⟩ (.slice (some ⟨GM, 0, none⟩) (itX t (j + 1)).1.ms.length CM)).setCell ⟨w4.heap.size, 3, none⟩ (.slice (some ⟨GT, 0, none⟩) (itX t (j + 1)).1.ts.length CT)).setCell ⟨w4.heap.size, 4, none⟩ (.int .i64 (itX t (j + 1)).1.tm)).setCell ⟨w4.heap.size, 5, none⟩ (.slice AO (itX t (j + 1)).2.length C0)) G1 G2 GM GT AO (itX t (j + 1)).1 (itX t (j + 1)).2) := HME.out.1
        have HA6 : Hid (AvP ((((((w5.setCell ⟨w4.heap.size, 0, none⟩ (.slice (some ⟨G1, 0, none⟩) (itX t (j + 1)).1.x.n C1)).setCell ⟨w4.heap.size, 1, none⟩ (.slice (some ⟨G2, 0, none⟩) (itX t (j + 1)).1.x.m C2)).setCell ⟨w4.heap.size, 2, none⟩ (.slice (some ⟨GM, 0, none⟩) (itX t (j + 1)).1.ms.length CM)).setCell ⟨w4.heap.size, 3, none⟩ (.slice (some ⟨GT, 0, none⟩) (itX t (j + 1)).1.ts.length CT)).setCell ⟨w4.heap.size, 4, none⟩ (.int .i64 (itX t (j + 1)).1.tm)).setCell ⟨w4.heap.size, 5, none⟩ (.slice AO (itX t (j + 1)).2.length C0)) AO (itX t (j + 1)).2 b5) := HAE.out
        clear hHeld
        generalize ((((((w5.setCell ⟨w4.heap.size, 0, none⟩ (.slice (some ⟨G1, 0, none⟩) (itX t (j + 1)).1.x.n C1)).setCell ⟨w4.heap.size, 1, none⟩ (.slice (some ⟨G2, 0, none⟩) (itX t (j + 1)).1.x.m C2)).setCell ⟨w4.heap.size, 2, none⟩ (.slice (some ⟨GM, 0, none⟩) (itX t (j + 1)).1.ms.length CM)).setCell ⟨w4.heap.size, 3, none⟩ (.slice (some ⟨GT, 0, none⟩) (itX t (j + 1)).1.ts.length CT)).setCell ⟨w4.heap.size, 4, none⟩ (.int .i64 (itX t (j + 1)).1.tm)).setCell ⟨w4.heap.size, 5, none⟩ (.slice AO (itX t (j + 1)).2.length C0)) = wE at *
        obtain ⟨b9, hb9⟩ : ∃ b9, b9 = w4.heap.size := ⟨_, rfl⟩
        rw [← hb9] at HE ⊢
        clear hb9
        have hcs := HE.out.x9.cell
        have hxs := HE.out.x5.free
        have hxc := HE.out.x5.cell
        have hxl := HE.out.x5.lt
        have hos := ou_size t j
        have hes := eo_size t j
        have HES := Lib.hid (eo_succ t j)
        obtain ⟨HS5, HF5⟩ := st6_both HE.out.x5 (.slice (some ⟨G1, 0, none⟩) (itX t (j + 1)).1.x.n C1) (.slice (some ⟨G2, 0, none⟩) (itX t (j + 1)).1.x.m C2) (.slice (some ⟨GM, 0, none⟩) (itX t (j + 1)).1.ms.length CM) (.slice (some ⟨GT, 0, none⟩) (itX t (j + 1)).1.ts.length CT) (.int .i64 (itX t (j + 1)).1.tm) (.slice AO (itX t (j + 1)).2.length C0)
        have HN := Lib.hid (HE.out.step HM6.out HA6.out HS5 HF5)
        have hj5 : 1000001 * j ≤ 1000001 * 501 := Nat.mul_le_mul_left _ (by omega)
        clear HS5 HF5 HI
        generalize itX t (j + 1) = sz at *
        generalize ouX t j = ou at *
        generalize eoX t j = ej at *
        have hsum : ¬ 9223372036854775807 < ej.size + (ou.size + 1) := by omega
        go_wp2_with fail
        go_roundw
        case rel => exact ⟨j + 1, by omega, by go_num, by rw [HES.out], HN⟩
        case measure => simp [intOf]; omega
       ·exact AllReadyH.nil
     ·refine c1R (fun K hK => ?_) ?_
      ·have HXA : Hid (Bx (W.alloc (.cells #[.slice none 0 0, .slice none 0 0, .slice none 0 0, .slice none 0 0, .int .i64 0, .slice none 0 0] 68)) W.heap.size 68 #[.slice none 0 0, .slice none 0 0, .slice none 0 0, .slice none 0 0, .int .i64 0, .slice none 0 0]) := Bx.new _ _ _
       have HBA : Hid (Below W.heap.size W (W.alloc (.cells #[.slice none 0 0, .slice none 0 0, .slice none 0 0, .slice none 0 0, .int .i64 0, .slice none 0 0] 68))) := below_all _ _
       go_simp
       skip
       refine oR hK ?_ (fun hHeld => ?_)
       ·try dsimp only
        exact HCC.out _ HBA.out
       clear hK K
       refine r1R 5 (fun K hK => ?_)
       go_simp
       go_at_call 40
       go_must (refine Calls.mono (HCU.out _) ?_)
       rintro e w4 ⟨⟨gw, cw, rfl, how, hgw⟩, hb4⟩
       have HOW := Lib.hid how
       have HB4 : Hid (Below W.heap.size W w4) := (HBA.out).trans (hb4.mono (HBA.out).size)
       have HX4 := Lib.hid (HXA.out.below hb4 HXA.out.lt)
       refine oR hK ?_ (fun hHeld => ?_)
       ·try dsimp only
        exact HCC.out _ HB4.out
       clear hK K
       refine r1R 6 (fun K hK => ?_)
       go_simp
       go_at_call 41
       go_must (refine Calls.mono (HLN.out w4 gw cw (HWr.out.trans ((HB4.out).mono HWz.out)) (fun i hi => Own.cell1 (HOW.out) hi)) ?_)
       rintro e w5 ⟨hb5, G1, C1, G2, C2, GM, CM, GT, CT, AO, C0, rfl, hm5, ha5⟩
       have HM5 := Lib.hid hm5
       have HA5 := Lib.hid ha5
       have HB5 : Hid (Below W.heap.size W w5) := (HB4.out).trans (hb5.mono (HB4.out).size)
       clear hm5 ha5
       have HX9 := Lib.hid (HX4.out.below hb5 HX4.out.lt)
       refine oR hK ?_ (fun hHeld => ?_)
       ·try dsimp only
        exact HCC.out _ HB5.out
       clear hK K
       have HA6l := Lib.hid (HA5.out b5 (by have := HB4.out.size; omega) (HAV.out.keep HB4.out))
       have HA59 := Lib.hid (HA5.out W.heap.size HX4.out.lt (HAV.out.new (it_ok t j).p HB4.out (Nat.le_refl _)))
       refine tkR 7 ?_
       refine tkR 8 ?_
       refine tkR 9 ?_
       have hx9c := HX9.out.cell
       have hx9f := HX9.out.free
       have hx9l := HX9.out.lt
       obtain ⟨HS9, HF9⟩ := st6_both HX9.out (.slice (some ⟨G1, 0, none⟩) (itX t (j + 1)).1.x.n C1) (.slice (some ⟨G2, 0, none⟩) (itX t (j + 1)).1.x.m C2) (.slice (some ⟨GM, 0, none⟩) (itX t (j + 1)).1.ms.length CM) (.slice (some ⟨GT, 0, none⟩) (itX t (j + 1)).1.ts.length CT) (.int .i64 (itX t (j + 1)).1.tm) (.slice AO (itX t (j + 1)).2.length C0)
       have HBE : Hid (Below W.heap.size W ((((((w5.setCell ⟨W.heap.size, 0, none⟩ (.slice (some ⟨G1, 0, none⟩) (itX t (j + 1)).1.x.n C1)).setCell ⟨W.heap.size, 1, none⟩ (.slice (some ⟨G2, 0, none⟩) (itX t (j + 1)).1.x.m C2)).setCell ⟨W.heap.size, 2, none⟩ (.slice (some ⟨GM, 0, none⟩) (itX t (j + 1)).1.ms.length CM)).setCell ⟨W.heap.size, 3, none⟩ (.slice (some ⟨GT, 0, none⟩) (itX t (j + 1)).1.ts.length CT)).setCell ⟨W.heap.size, 4, none⟩ (.int .i64 (itX t (j + 1)).1.tm)).setCell ⟨W.heap.size, 5, none⟩ (.slice AO (itX t (j + 1)).2.length C0))) := HB5.out.trans (HF9.below (B := W.heap.size) (fun k hk => by have : k = W.heap.size := hk; omega) HB5.out.size)
       have HME := Lib.hid (HM5.out.st5 (HX9.out.cell 0) HA59.out (it_ok t (j + 1)).p HF9)
       have HAE := Lib.hid (HA6l.out.fr HA59.out (it_ok t (j + 1)).p HF9)
       have HS9 := Lib.hid HS9
       clear HF9
       refine r1R 11 (fun K hK => ?_)
       go_simp
       skip
       refine oR hK ?_ (fun hHeld => ?_)
       ·try dsimp only
        exact HCC.out _ HBE.out
       clear hK K
       refine tkR 12 ?_
       refine wpAnyH_done (by kernel_rfl) ?_ _
       clear hx9c hx9f hx9l
       have HE : Hid (XeE w ((((((w5.setCell ⟨W.heap.size, 0, none⟩ (.slice (some ⟨G1, 0, none⟩) (itX t (j + 1)).1.x.n C1)).setCell ⟨W.heap.size, 1, none⟩ (.slice (some ⟨G2, 0, none⟩) (itX t (j + 1)).1.x.m C2)).setCell ⟨W.heap.size, 2, none⟩ (.slice (some ⟨GM, 0, none⟩) (itX t (j + 1)).1.ms.length CM)).setCell ⟨W.heap.size, 3, none⟩ (.slice (some ⟨GT, 0, none⟩) (itX t (j + 1)).1.ts.length CT)).setCell ⟨W.heap.size, 4, none⟩ (.int .i64 (itX t (j + 1)).1.tm)).setCell ⟨W.heap.size, 5, none⟩ (.slice AO (itX t (j + 1)).2.length C0)) b5 W.heap.size bl t j #[.slice (some ⟨g1, 0, none⟩) (itX t j).1.x.n c1, .slice (some ⟨g2, 0, none⟩) (itX t j).1.x.m c2, .slice (some ⟨gm, 0, none⟩) (itX t j).1.ms.length cm, .slice (some ⟨gt, 0, none⟩) (itX t j).1.ts.length ct, .int .i64 (itX t j).1.tm, .slice ao (itX t j).2.length c0] #[.slice (some ⟨G1, 0, none⟩) (itX t (j + 1)).1.x.n C1, .slice (some ⟨G2, 0, none⟩) (itX t (j + 1)).1.x.m C2, .slice (some ⟨GM, 0, none⟩) (itX t (j + 1)).1.ms.length CM, .slice (some ⟨GT, 0, none⟩) (itX t (j + 1)).1.ts.length CT, .int .i64 (itX t (j + 1)).1.tm, .slice AO (itX t (j + 1)).2.length C0]) := HI.out.end9 HX5.out (HWr.out.trans ((HBE.out).mono HWz.out)) (HS9.out) (HWz.out)
       have HM6 : Hid (SpM ((((((w5.setCell ⟨W.heap.size, 0, none⟩ (.slice (some ⟨G1, 0, none⟩) (itX t (j + 1)).1.x.n C1)).setCell ⟨W.heap.size, 1, none⟩ (.slice (some ⟨G2, 0, none⟩) (itX t (j + 1)).1.x.m C2)).setCell ⟨W.heap.size, 2, none⟩ (.slice (some ⟨GM, 0, none⟩) (itX t (j + 1)).1.ms.length CM)).setCell ⟨W.heap.size, 3, none⟩ (.slice (some ⟨GT, 0, none⟩) (itX t (j + 1)).1.ts.length CT)).setCell ⟨W.heap.size, 4, none⟩ (.int .i64 (itX t (j + 1)).1.tm)).setCell ⟨W.heap.size, 5, none⟩ (.slice AO (itX t (j + 1)).2.length C0)) G1 G2 GM GT AO (itX t (j + 1)).1 (itX t (j + 1)).2) := HME.out.1
       have HA6 : Hid (AvP ((((((w5.setCell ⟨W.heap.size, 0, none⟩ (.slice (some ⟨G1, 0, none⟩) (itX t (j + 1)).1.x.n C1)).setCell ⟨W.heap.size, 1, none⟩ (.slice (some ⟨G2, 0, none⟩) (itX t (j + 1)).1.x.m C2)).setCell ⟨W.heap.size, 2, none⟩ (.slice (some ⟨GM, 0, none⟩) (itX t (j + 1)).1.ms.length CM)).setCell ⟨W.heap.size, 3, none⟩ (.slice (some ⟨GT, 0, none⟩) (itX t (j + 1)).1.ts.length CT)).setCell ⟨W.heap.size, 4, none⟩ (.int .i64 (itX t (j + 1)).1.tm)).setCell ⟨W.heap.size, 5, none⟩ (.slice AO (itX t (j + 1)).2.length C0)) AO (itX t (j + 1)).2 b5) := HAE.out
       clear hHeld
       generalize ((((((w5.setCell ⟨W.heap.size, 0, none⟩ (.slice (some ⟨G1, 0, none⟩) (itX t (j + 1)).1.x.n C1)).setCell ⟨W.heap.size, 1, none⟩ (.slice (some ⟨G2, 0, none⟩) (itX t (j + 1)).1.x.m C2)).setCell ⟨W.heap.size, 2, none⟩ (.slice (some ⟨GM, 0, none⟩) (itX t (j + 1)).1.ms.length CM)).setCell ⟨W.heap.size, 3, none⟩ (.slice (some ⟨GT, 0, none⟩) (itX t (j + 1)).1.ts.length CT)).setCell ⟨W.heap.size, 4, none⟩ (.int .i64 (itX t (j + 1)).1.tm)).setCell ⟨W.heap.size, 5, none⟩ (.slice AO (itX t (j + 1)).2.length C0)) = wE at *
       obtain ⟨b9, hb9⟩ : ∃ b9, b9 = W.heap.size := ⟨_, rfl⟩
       rw [← hb9] at HE ⊢
       clear hb9
       have hcs := HE.out.x9.cell
       have hxs := HE.out.x5.free
       have hxc := HE.out.x5.cell
       have hxl := HE.out.x5.lt
       have hos := ou_size t j
       have hes := eo_size t j
       have HES := Lib.hid (eo_succ t j)
       obtain ⟨HS5, HF5⟩ := st6_both HE.out.x5 (.slice (some ⟨G1, 0, none⟩) (itX t (j + 1)).1.x.n C1) (.slice (some ⟨G2, 0, none⟩) (itX t (j + 1)).1.x.m C2) (.slice (some ⟨GM, 0, none⟩) (itX t (j + 1)).1.ms.length CM) (.slice (some ⟨GT, 0, none⟩) (itX t (j + 1)).1.ts.length CT) (.int .i64 (itX t (j + 1)).1.tm) (.slice AO (itX t (j + 1)).2.length C0)
       have HN := Lib.hid (HE.out.step HM6.out HA6.out HS5 HF5)
       have hj5 : 1000001 * j ≤ 1000001 * 501 := Nat.mul_le_mul_left _ (by omega)
       clear HS5 HF5 HI
       generalize itX t (j + 1) = sz at *
       generalize ouX t j = ou at *
       generalize eoX t j = ej at *
       have hsum : ¬ 9223372036854775807 < ej.size + (ou.size + 1) := by omega
       go_wp2_with fail
       go_roundw
       case rel => exact ⟨j + 1, by omega, by go_num, by rw [HES.out], HN⟩
       case measure => simp [intOf]; omega
      ·exact AllReadyH.nil
    ·have hL : (lnT t).length = j + 1 := by omega
     have hlti : ¬ (j : Int) + 1 < ((lnT t).length : Int) := by omega
     have hes := eo_size t j
     have hj5 : 1000001 * j ≤ 1000001 * 500 := Nat.mul_le_mul_left _ (by omega)
     have hok := it_ok t j
     have hm5 := (vldL_true hok.k.xv).2.2.1
     have hp8 := hok.p.len
     have HEX : Hid (EX t = eoX t j ++ ⟨#[116, 114, 97, 105, 110, 115, 32]⟩ ++ itT ((itX t j).1.x.m : Int) ++ ⟨#[32, 112, 97, 116, 104, 115, 32]⟩ ++ itT ((itX t j).2.length : Int) ++ ⟨#[10]⟩) := by
      show _ = _
      have e : (lnT t).length - 1 = j := by omega
      have hE : EX t = eoX t j ++ exT (itX t j).1.x.m (itX t j).2.length := by
       unfold EX fnX
       rw [if_pos hsz, e]
       exact ba_ext (by simp [eoX])
      rw [hE, exT_it]
      exact ba_ext (by simp)
     have HDM : Hid (∀ W, Calls Tryz.prog 32 #[.int .i64 ((itX t j).1.x.m : Int)] W fun e w' => e = .returned (.string (itT ((itX t j).1.x.m : Int))) ∧ Below W.heap.size W w') := fun W => dec_val _ W (by omega) (by omega)
     have HDP : Hid (∀ W, Calls Tryz.prog 32 #[.int .i64 ((itX t j).2.length : Int)] W fun e w' => e = .returned (.string (itT ((itX t j).2.length : Int))) ∧ Below W.heap.size W w') := fun W => dec_val _ W (by omega) (by omega)
     have hzm := itT_size ((itX t j).1.x.m : Int) (by omega) (by omega)
     have hzp := itT_size ((itX t j).2.length : Int) (by omega) (by omega)
     have HBd : Hid (Below wr.heap.size wr wr.drew) := (Below.refl _ _).drew
     have HCC : Hid (∀ V, Below wr.heap.size wr V → V.cell? ⟨b5, 1, none⟩ = some (.slice (some ⟨g2, 0, none⟩) (itX t j).1.x.m c2) ∧ V.cell? ⟨b5, 5, none⟩ = some (.slice ao (itX t j).2.length c0)) := fun V h => by
      have x := (HX5.out.below h HX5.out.lt).cell
      exact ⟨x 1, x 5⟩
     have HBE := HI.out.be
     have HBE := Lib.hid HBE
     generalize itT ((itX t j).1.x.m : Int) = tm at *
     generalize itT ((itX t j).2.length : Int) = tp at *
     generalize eoX t j = ej at *
     have hy1 : ¬ 9223372036854775807 < ej.size + 7 := by omega
     have hy2 : ¬ 9223372036854775807 < ej.size + 7 + tm.size := by omega
     have hy3 : ¬ 9223372036854775807 < ej.size + 7 + tm.size + 7 := by omega
     have hy4 : ¬ 9223372036854775807 < ej.size + 7 + tm.size + 7 + tp.size := by omega
     have hy5 : ¬ 9223372036854775807 < ej.size + 7 + tm.size + 7 + tp.size + 1 := by omega
     clear hok hL HM HA HI
     go_wp2_with fail
     refine wp_region_held_drew (S := fun W => W.cell? ⟨b5, 1, none⟩ = some (.slice (some ⟨g2, 0, none⟩) (itX t j).1.x.m c2) ∧ W.cell? ⟨b5, 5, none⟩ = some (.slice ao (itX t j).2.length c0)) (by kernel_rfl) (HCC.out _ HBd.out) (fun hHeld => ?_)
     refine tkR 0 ?_
     refine tkR 1 ?_
     refine tkR 2 ?_
     refine tkR 3 ?_
     refine tkR 4 ?_
     refine tkR 5 ?_
     refine tkR 9 ?_
     refine tkR 10 ?_
     refine tkR 11 ?_
     refine r1R 6 (fun K hK => ?_)
     go_simp
     go_at_call 32
     go_must (refine Calls.mono (HDM.out _) ?_)
     rintro e w7 ⟨rfl, hb7⟩
     have HB7 := Lib.hid (HBd.out.trans (hb7.mono HBd.out.size))
     clear hb7
     refine oR hK ?_ (fun hHeld => ?_)
     ·try dsimp only
      exact HCC.out _ HB7.out
     clear hK K
     refine tkR 7 ?_
     refine tkR 8 ?_
     refine r1R 12 (fun K hK => ?_)
     go_simp
     go_at_call 32
     go_must (refine Calls.mono (HDP.out _) ?_)
     rintro e w8 ⟨rfl, hb8⟩
     have HB8 := Lib.hid (HB7.out.trans (hb8.mono HB7.out.size))
     clear hb8
     refine oR hK ?_ (fun hHeld => ?_)
     ·try dsimp only
      exact HCC.out _ HB8.out
     clear hK K
     refine tkR 13 ?_
     refine tkR 14 ?_
     refine tkR 15 ?_
     refine wpAnyH_done (by kernel_rfl) ?_ _
     clear hHeld
     go_wp2_with fail
     go_ret
     exact ⟨by rw [HEX.out]; rfl, HBE.out.trans (HB8.out.mono HBE.out.size)⟩
  ·have hE : Hid (EX t = tooT) := if_neg hsz
   have h1 : (500 : Int) < (t.size : Int) := by omega
   clear hsz
   go_enter Tryz.func12, Tryz.ntmps12
   go_wp2_with fail
   go_ret
   exact ⟨by rw [hE.out]; rfl, Below.refl _ _⟩
end Go.Proofs.YtlkdmpfifpkpaaaGreatDoor

