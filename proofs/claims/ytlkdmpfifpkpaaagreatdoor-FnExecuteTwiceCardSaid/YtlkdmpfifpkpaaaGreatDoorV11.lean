/-
  Parts of the proof: Ra Rb Rc. No condition.
-/
import Derived.Test.YtlkdmpfifpkpaaaGreatDoorV10
namespace Go.Proofs.YtlkdmpfifpkpaaaGreatDoor
open Go.RowKit
structure RwC (w : World) (r gb cb gt ct : Nat) (x : Ln) : Prop where
  box : Bx w r 195 #[.slice (some ⟨gb, 0, none⟩) x.n cb, .slice (some ⟨gt, 0, none⟩) x.m ct]
  bs : Own w gb cb x.n 3 76 (bkF x.N x.I x.O)
  ts : Own w gt ct x.m 1 3 (fun i => .int .i64 (x.T i))
  d1 : gb ≠ gt
  d2 : r ≠ gb
  d3 : r ≠ gt
theorem RwC.below {w w' : World} {r gb cb gt ct B : Nat} {x : Ln} (h : RwC w r gb cb gt ct x) (hb : Below B w w') (hB : w.heap.size ≤ B) : RwC w' r gb cb gt ct x :=
 ⟨h.box.below hb (Nat.lt_of_lt_of_le h.box.lt hB), h.bs.below hb (Nat.lt_of_lt_of_le h.bs.lt hB), h.ts.below hb (Nat.lt_of_lt_of_le h.ts.lt hB), h.d1, h.d2, h.d3⟩
theorem RwC.bk {w : World} {r gb cb gt ct : Nat} {x : Ln} (h : RwC w r gb cb gt ct x) : BkC w gb 0 x.n x.N x.I x.O := BkC.of_own h.bs
theorem RwC.ic {w : World} {r gb cb gt ct : Nat} {x : Ln} (h : RwC w r gb cb gt ct x) : IC w gt 0 x.m x.T := IC.of_own h.ts
theorem RwC.tr {w : World} {r gb cb gt ct : Nat} {x : Ln} (h : RwC w r gb cb gt ct x) {j : Nat} (hj : j < x.m) : w.cell? ⟨gt, j, none⟩ = some (.int .i64 (x.T j)) := h.ts.cell1 hj
theorem RwC.bl {w : World} {r gb cb gt ct : Nat} {x : Ln} (h : RwC w r gb cb gt ct x) {k : Nat} (hk : k < x.n) : w.cell? ⟨gb, k * 3, none⟩ = some (.int .i64 (x.N k)) ∧ w.cell? ⟨gb, k * 3 + 1, none⟩ = some (.bool (x.I k)) ∧ w.cell? ⟨gb, k * 3 + 2, none⟩ = some (.bool (x.O k)) := by
 have := h.bk.at k hk
 simpa using this
def idxI (f : Nat → Int) (p : Int) (n : Nat) : Int := if fstA f p n < n then fstA f p n else -1
theorem index_any (b off n c : Nat) (f : Nat → Int) (p : Int) (w : World) (hn : n ≤ 1000000000000) (hc : IC w b off n f) :
    Calls Tryz.prog 162 #[.slice (some ⟨b, off, none⟩) n c, .int .i64 p] w fun e w' => e = .returned (.int .i64 (idxI f p n)) ∧ w = w' := by
  go_enter Tryz.func162, Tryz.ntmps162
  go_wp2_with fail
  go_loop [5, 8] (fun _ i => ∃ k : Nat, k ≤ n ∧ i = .int .i64 k ∧ Hid (∀ j, j < k → f j ≠ p)) (fun _ i => n - (intOf i).toNat)
  case atStart => exact ⟨0, Nat.zero_le _, rfl, Lib.hid (fun j hj => by omega)⟩
  case round =>
   obtain ⟨k, hk, rfl, HA⟩ := hrel
   by_cases hlt : k < n
   ·have hck := hc.at k hlt
    by_cases h1 : f k = p
    ·have HE : Hid (idxI f p n = k) := by show _ = _; unfold idxI; rw [fstA_stop f p HA.out h1 n hlt, if_pos hlt]
     have h2 : (p == f k) = true := by simp [h1]
     clear h1
     go_wp2_with fail
     go_ret
     exact ⟨retI HE.out.symm, rfl⟩
    ·have HE : Hid (∀ j, j < k + 1 → f j ≠ p) := fun j hj => by
      by_cases e : j = k
      ·rw [e]; exact h1
      ·exact HA.out j (by omega)
     have h2 : (p == f k) = false := by simp; exact fun e => h1 e.symm
     clear h1
     go_wp2_with fail
     go_round
     case rel => exact ⟨k + 1, by omega, by go_num, HE⟩
     case measure => simp [intOf]; omega
   ·obtain rfl : k = n := by omega
    have HE : Hid (idxI f p k = -1) := by show _ = _; unfold idxI; rw [fstA_none f p k HA.out, if_neg (Nat.lt_irrefl _)]
    go_wp2_with fail
    go_ret
    exact ⟨retI HE.out.symm, rfl⟩
def leA (f : Nat → Int) (p : Int) : Nat → Nat
  | 0 => 0
  | m + 1 => leA f p m + if f m ≤ p then 1 else 0
theorem leA_le (f : Nat → Int) (p : Int) : ∀ m, leA f p m ≤ m
  | 0 => Nat.le_refl _
  | m + 1 => by
   have := leA_le f p m
   simp only [leA]
   split <;> omega
def lefS (x : Ln) : Nat → Int
  | 0 => 0
  | k + 1 => lefS x k + lefV (x.N k) (x.I k) (x.O k) (leA x.T (2 * k) x.m)
theorem lefV_bd (n : Int) (i o : Bool) (t : Nat) : 0 ≤ lefV n i o t ∧ lefV n i o t ≤ 5 * t + 2 := by
 unfold lefV
 split
 ·omega
 ·split
  ·omega
  ·split
   ·omega
   ·split <;> omega
theorem lefS_bd (x : Ln) : ∀ k, 0 ≤ lefS x k ∧ lefS x k ≤ k * (5 * x.m + 2)
  | 0 => by simp [lefS]
  | k + 1 => by
   have h1 := lefS_bd x k
   have h2 := lefV_bd (x.N k) (x.I k) (x.O k) (leA x.T (2 * k) x.m)
   have h3 := leA_le x.T (2 * k) x.m
   have e : ((k + 1 : Nat) : Int) * (5 * x.m + 2) = k * (5 * x.m + 2) + (5 * x.m + 2) := by rw [Int.natCast_add, Int.add_mul]; simp
   simp only [lefS]
   rw [e]
   omega
theorem lefS_bd2 {x : Ln} (hm : x.m ≤ 1000) {k : Nat} (hk : k ≤ 1000) : 0 ≤ lefS x k ∧ lefS x k ≤ 10000000 := by
 have h1 := lefS_bd x k
 have h2 : (k : Int) * (5 * x.m + 2) ≤ 1000 * 5002 := Int.mul_le_mul (by omega) (by omega) (by omega) (by omega)
 omega
set_option linter.unusedSimpArgs false in
set_option maxHeartbeats 1000000 in
theorem leftMoves_any (r gb cb gt ct : Nat) (x : Ln) (w : World) (hn : x.n ≤ 1000) (hm : x.m ≤ 1000) (h : RwC w r gb cb gt ct x) :
    Calls Tryz.prog 144 #[.pointer (some ⟨r, 0, none⟩)] w fun e w' => e = .returned (.int .i64 (lefS x x.n)) ∧ Below w.heap.size w w' := by
  have H := Lib.hid h
  have hrc := h.box.cell
  clear h
  go_enter Tryz.func144, Tryz.ntmps144
  go_wp2_with fail
  clear hrc
  go_loopw [3, 4, 5, 7, 13] (fun s _ _ _ i wr => ∃ k : Nat, k ≤ x.n ∧ i = .int .i64 k ∧ s = .int .i64 (lefS x k) ∧ Hid (Below w.heap.size w wr)) (fun _ _ _ _ i _ => x.n - (intOf i).toNat)
  case atStart => exact ⟨0, Nat.zero_le _, rfl, rfl, Lib.hid (Below.refl _ _)⟩
  case round =>
   obtain ⟨k, hk, rfl, rfl, HW⟩ := hrel
   have HR := Lib.hid (H.out.below HW.out (Nat.le_refl _))
   have hrc := HR.out.box.cell
   by_cases hlt : k < x.n
   ·go_wp2_with fail
    go_loop [5, 7, 21] (fun t _ i => ∃ j : Nat, j ≤ x.m ∧ i = .int .i64 j ∧ t = .int .i64 (leA x.T (2 * k) j)) (fun _ _ i => x.m - (intOf i).toNat)
    case atStart => exact ⟨0, Nat.zero_le _, rfl, rfl⟩
    case round =>
     obtain ⟨j, hj, rfl, rfl⟩ := hrel
     have hle := leA_le x.T (2 * k) j
     by_cases hjt : j < x.m
     ·have hcj := HR.out.tr hjt
      by_cases h1 : x.T j ≤ 2 * k
      ·have HE : Hid (leA x.T (2 * k) (j + 1) = leA x.T (2 * k) j + 1) := by show _ = _; simp [leA, h1]
       go_wp2_with fail
       go_round
       case rel => exact ⟨j + 1, by omega, by go_num, by rw [HE.out]; go_num⟩
       case measure => simp [intOf]; omega
      ·have HE : Hid (leA x.T (2 * k) (j + 1) = leA x.T (2 * k) j) := by show _ = _; simp [leA, h1]
       go_wp2_with fail
       go_round
       case rel => exact ⟨j + 1, by omega, by go_num, by rw [HE.out]⟩
       case measure => simp [intOf]; omega
     ·obtain rfl : j = x.m := by omega
      have hb1 := lefS_bd2 hm (k := k) (by omega)
      have hb2 := lefV_bd (x.N k) (x.I k) (x.O k) (leA x.T (2 * k) x.m)
      have HE : Hid (lefS x (k + 1) = lefS x k + lefV (x.N k) (x.I k) (x.O k) (leA x.T (2 * k) x.m)) := rfl
      go_wp2_with fail
      refine (left_any gb 0 x.n cb x.N x.I x.O k (leA x.T (2 * k) x.m) _ (by omega) hlt HR.out.bk).mono ?_
      rintro e w2 ⟨rfl, hb⟩
      have HB := Lib.hid (HW.out.trans (hb.mono HW.out.size))
      clear hb
      go_wp2_with fail
      go_roundw
      case rel => exact ⟨k + 1, by omega, by go_num, by rw [HE.out], HB⟩
      case measure => simp [intOf]; omega
   ·obtain e : k = x.n := by omega
    subst e
    go_wp2_with fail
    go_ret
    exact ⟨rfl, HW.out⟩
def RwN (B : Nat) (w : World) (s : Value) (x : Ln) : Prop :=
 ∃ r gb cb gt ct, s = .pointer (some ⟨r, 0, none⟩) ∧ RwC w r gb cb gt ct x ∧ B ≤ r ∧ B ≤ gb ∧ B ≤ gt
def RwO (x : Ln) (w : World) (e : Ending) (w' : World) : Prop :=
 Below w.heap.size w w' ∧ ((vldL x = true ∧ ∃ s, e = .returned (.tuple #[s, .bool true]) ∧ RwN w.heap.size w' s x) ∨ (vldL x = false ∧ e = .returned (.tuple #[.pointer none, .bool false])))
theorem trOk_of {x : Ln} {i : Nat} (h1 : ¬ x.T i < 0) (h2 : ¬ 2 * (x.n : Int) < x.T i) (h3 : i = 0 ∨ ¬ x.T (i - 1) < x.T i) : trOk x i = true := by
 unfold trOk
 rw [inB_true.2 (by omega)]
 rcases h3 with h | h
 ·simp [h]
 ·simp [show x.T i ≤ x.T (i - 1) by omega]
theorem trOk_out {x : Ln} {i : Nat} (h1 : ¬ (0 ≤ x.T i ∧ x.T i ≤ 2 * (x.n : Int))) : trOk x i = false := by
 unfold trOk
 rw [inB_false.2 h1, Bool.false_and]
theorem trOk_up {x : Ln} {i : Nat} (h0 : 0 < i) (h1 : x.T (i - 1) < x.T i) : trOk x i = false := by
 unfold trOk
 rw [decide_eq_false (show ¬ i = 0 by omega), decide_eq_false (show ¬ x.T i ≤ x.T (i - 1) by omega)]
 simp
theorem all_next {p : Nat → Bool} {k : Nat} (h : ∀ j, j < k → p j = true) (hk : p k = true) : ∀ j, j < k + 1 → p j = true := fun j hj => by
 by_cases e : j = k
 ·rw [e]; exact hk
 ·exact h j (by omega)
theorem rw_two {w1 w2 : World} {g1 c1 g2 n1 s1 : Nat} {t1 : TypeId} {f1 : Nat → Value} (h1 : Own w1 g1 c1 n1 s1 t1 f1) (hb : Below w1.heap.size w1 w2) (hg : w1.heap.size ≤ g2) : Own w2 g1 c1 n1 s1 t1 f1 ∧ g1 ≠ g2 ∧ g1 < w2.heap.size :=
 ⟨h1.below hb h1.lt, by have := h1.lt; omega, by have := h1.lt; have := hb.size; omega⟩
set_option linter.unusedSimpArgs false in
set_option maxHeartbeats 2000000 in
theorem railwayOf_any (bb bo cb tb tu ct : Nat) (x : Ln) (w : World) (hn : x.n ≤ 1000000000000) (hm : x.m ≤ 1000000000000) (hbk : BkC w bb bo x.n x.N x.I x.O) (hic : IC w tb tu x.m x.T) :
    Calls Tryz.prog 141 #[.agg #[.slice (some ⟨bb, bo, none⟩) x.n cb, .slice (some ⟨tb, tu, none⟩) x.m ct]] w (RwO x w) := by
  have HBk := Lib.hid hbk
  have HIc := Lib.hid hic
  have HBB : Hid (∀ a, Below w.heap.size w (w.alloc a)) := fun a => below_all _ _
  have HKB : Hid (∀ w', Below w.heap.size w w' → BkC w' bb bo x.n x.N x.I x.O) := fun w' hb => by
   intro k hk
   obtain ⟨h0, h1, h2⟩ := hbk k hk
   have hlt : bb < w.heap.size := World.block_lt_of_cell? w ⟨bb, bo + k * 3, none⟩ h0
   exact ⟨by rw [hb.cell (p := ⟨bb, bo + k * 3, none⟩) hlt]; exact h0, by rw [hb.cell (p := ⟨bb, bo + k * 3 + 1, none⟩) hlt]; exact h1, by rw [hb.cell (p := ⟨bb, bo + k * 3 + 2, none⟩) hlt]; exact h2⟩
  have HKT : Hid (∀ w', Below w.heap.size w w' → IC w' tb tu x.m x.T) := fun w' hb => hic.keep hb
  clear hbk hic
  go_enter Tryz.func141, Tryz.ntmps141
  go_wp2_with fail
  have hxb : ∀ o, (w.alloc (.cells #[.slice (some ⟨bb, bo, none⟩) x.n cb, .slice (some ⟨tb, tu, none⟩) x.m ct] 31)).cell? ⟨w.heap.size, o, none⟩ = (#[.slice (some ⟨bb, bo, none⟩) x.n cb, .slice (some ⟨tb, tu, none⟩) x.m ct] : Array Value)[o]? := box_new _ _ _
  generalize hW0 : w.alloc (.cells #[.slice (some ⟨bb, bo, none⟩) x.n cb, .slice (some ⟨tb, tu, none⟩) x.m ct] 31) = W0 at *
  have HB0 : Hid (Below w.heap.size w W0) := by rw [← hW0]; exact HBB.out _
  have hz0 : W0.heap.size = w.heap.size + 1 := by rw [← hW0]; simp
  clear hW0
  refine wp_region_held_drew (S := (fun w' => w'.cell? ⟨w.heap.size, 0, none⟩ = some (.slice (some ⟨bb, bo, none⟩) x.n cb) ∧ w'.cell? ⟨w.heap.size, 1, none⟩ = some (.slice (some ⟨tb, tu, none⟩) x.m ct))) (by kernel_rfl) ?_ (fun hHeld => ?_)
  ·try dsimp only
   go_keep
  refine tkR 0 ?_
  refine tkR 1 ?_
  refine tkR 3 ?_
  refine tkR 4 ?_
  refine r1R 2 (fun K hK => ?_)
  go_simp
  go_at_call 157
  go_must (refine Calls.mono (cloneB_any bb bo x.n cb x.N x.I x.O _ hn (HKB.out _ HB0.out.drew)) ?_)
  rintro e w1 ⟨g1, c1, rfl, hg1, ho1, hb1⟩
  have HO1 := Lib.hid ho1
  have HB1 := Lib.hid (HB0.out.drew.trans (hb1.mono (by simp; omega)))
  have hxb1 := box_keep (w := W0.drew) hxb hb1 (by simp; omega)
  have hz1 : W0.heap.size ≤ w1.heap.size := hb1.size
  have hg1' : w.heap.size + 1 ≤ g1 := by simp at hg1; omega
  clear ho1 hb1 hg1 hxb
  refine oR hK ?_ (fun hHeld => ?_)
  ·try dsimp only
   go_keep
  clear hK K
  refine r1R 5 (fun K hK => ?_)
  go_simp
  go_at_call 158
  go_must (refine Calls.mono (clone_any tb tu x.m ct x.T _ hm (HKT.out _ HB1.out)) ?_)
  rintro e w2 ⟨g2, c2, rfl, hg2, ho2, hb2⟩
  have HO2 := Lib.hid ho2
  have HB2 := Lib.hid (HB1.out.trans (hb2.mono (by omega)))
  have HT := Lib.hid (rw_two HO1.out hb2 hg2)
  have hxb2 := box_keep (w := w1) hxb1 hb2 (by omega)
  have hz2 : w1.heap.size ≤ w2.heap.size := hb2.size
  have hg2' : w.heap.size + 1 ≤ g2 := by omega
  clear ho2 hb2 hg2 hxb1
  refine oR hK ?_ (fun hHeld => ?_)
  ·try dsimp only
   go_keep
  clear hK K
  refine tkR 6 ?_
  refine r1R 7 (fun K hK => ?_)
  go_simp
  skip
  refine oR hK ?_ (fun hHeld => ?_)
  ·try dsimp only
   go_keep
  clear hK K
  refine tkR 8 ?_
  refine wpAnyH_done (by kernel_rfl) ?_ _
  have HM : Hid (RwC (w2.alloc (.cells #[.slice (some ⟨g1, 0, none⟩) x.n c1, .slice (some ⟨g2, 0, none⟩) x.m c2] 195)) w2.heap.size g1 c1 g2 c2 x) := by
   obtain ⟨a1, a2, a3⟩ := HT.out
   exact ⟨Bx.new _ _ _, a1.alloc _, HO2.out.alloc _, a2, by omega, by have := HO2.out.lt; omega⟩
  have HBM : Hid (∀ a, Below w.heap.size w (w2.alloc a)) := fun a => HB2.out.alloc HB2.out.size _
  have HBZ := Lib.hid (HBM.out (.cells #[.slice (some ⟨g1, 0, none⟩) x.n c1, .slice (some ⟨g2, 0, none⟩) x.m c2] 195))
  have HRN : Hid (w.heap.size ≤ w2.heap.size ∧ w.heap.size ≤ g1 ∧ w.heap.size ≤ g2) := ⟨by omega, by omega, by omega⟩
  clear HT HO1 HO2 HBM hxb2
  generalize hW2 : w2.alloc (.cells #[.slice (some ⟨g1, 0, none⟩) x.n c1, .slice (some ⟨g2, 0, none⟩) x.m c2] 195) = W2 at *
  clear hW2
  generalize hr : w2.heap.size = r at *
  clear hr
  have hrc := HM.out.box.cell
  have HPK : Hid (Calls Tryz.prog 159 #[.slice (some ⟨g1, 0, none⟩) x.n c1] W2 fun e w' => e = .returned (.bool (inB x.n 1 5 && allB x.n (posB x.N x.I x.O))) ∧ Below W2.heap.size W2 w') := blkPossible_any g1 0 x.n c1 x.N x.I x.O _ hn HM.out.bk HM.out.bs.lt
  cases hp : (inB x.n 1 5 && allB x.n (posB x.N x.I x.O))
  ·have HV : Hid (vldL x = false) := by
    show _ = _
    rcases Bool.and_eq_false_iff.1 hp with h | h
    ·exact vldL_sec h
    ·exact vldL_pos h
   have HP := Lib.hid hp
   clear hp
   go_wp2_with fail
   refine HPK.out.mono ?_
   rintro e w3 ⟨rfl, hb3⟩
   have HB3 := Lib.hid (HBZ.out.trans (hb3.mono HBZ.out.size))
   clear hb3
   rw [HP.out]
   go_wp2_with fail
   go_ret2
   exact ⟨HB3.out, .inr ⟨HV.out, rfl⟩⟩
  have hp2 := Bool.and_eq_true_iff.1 hp
  obtain ⟨hs, hpos⟩ := hp2
  have HS := Lib.hid hs
  have HPOS := Lib.hid (allB_true.1 hpos)
  have HP := Lib.hid hp
  have hsn := (inB_true.1 hs)
  clear hp hs hpos
  go_wp2_with fail
  refine HPK.out.mono ?_
  rintro e w3 ⟨rfl, hb3⟩
  have HB3 := Lib.hid (HBZ.out.trans (hb3.mono HBZ.out.size))
  have HM3 := Lib.hid (HM.out.below hb3 (Nat.le_refl _))
  clear hb3 hrc HPK HM
  have hrc := HM3.out.box.cell
  rw [HP.out]
  by_cases h5 : ¬ x.m ≤ 5
  ·have HV := Lib.hid (vldL_many h5)
   have g5 : (5 : Int) < (x.m : Int) := by omega
   clear h5
   go_wp2_with fail
   go_ret2
   exact ⟨HB3.out, .inr ⟨HV.out, rfl⟩⟩
  replace h5 := Decidable.not_not.1 h5
  have g5 : ¬ (5 : Int) < (x.m : Int) := by omega
  go_wp2_with fail
  go_loop [5, 6, 36] (fun _ _ s => ∃ i : Nat, i ≤ x.m ∧ s = .int .i64 i ∧ Hid (∀ j, j < i → trOk x j = true)) (fun _ _ s => x.m - (intOf s).toNat)
  case atStart => exact ⟨0, Nat.zero_le _, rfl, Lib.hid (fun j hj => by omega)⟩
  case round =>
   obtain ⟨i, hi, rfl, HA⟩ := hrel
   by_cases hlt : i < x.m
   ·have hci := HM3.out.tr hlt
    by_cases a1 : x.T i < 0
    ·have HV := Lib.hid (vldL_tr hlt (trOk_out (by omega)))
     go_wp2_with fail
     go_ret2
     exact ⟨HB3.out, .inr ⟨HV.out, rfl⟩⟩
    by_cases a2 : 2 * (x.n : Int) < x.T i
    ·have HV := Lib.hid (vldL_tr hlt (trOk_out (by omega)))
     go_wp2_with fail
     go_ret2
     exact ⟨HB3.out, .inr ⟨HV.out, rfl⟩⟩
    rcases Nat.eq_zero_or_pos i with h0 | h0
    ·subst h0
     have HN := Lib.hid (all_next HA.out (trOk_of a1 a2 (.inl rfl)))
     go_wp2_with fail
     go_round
     case rel => exact ⟨1, by omega, by go_num, HN⟩
     case measure => simp [intOf]; omega
    have h0' : (0 : Int) < (i : Int) := by omega
    have hcp := HM3.out.tr (j := i - 1) (by omega)
    have hkw : IntKind.i64.wrap ((i : Int) - 1) = ((i - 1 : Nat) : Int) := by rw [show ((i : Int) - 1) = ((i - 1 : Nat) : Int) from by omega]; exact IntWalk.i64_in _ (by omega)
    by_cases a3 : x.T (i - 1) < x.T i
    ·have HV := Lib.hid (vldL_tr hlt (trOk_up h0 a3))
     go_wp2_with fail
     go_ret2
     exact ⟨HB3.out, .inr ⟨HV.out, rfl⟩⟩
    ·have HN := Lib.hid (all_next HA.out (trOk_of a1 a2 (.inr a3)))
     go_wp2_with fail
     go_round
     case rel => exact ⟨i + 1, by omega, by go_num, HN⟩
     case measure => simp [intOf]; omega
   ·obtain e : i = x.m := by omega
    subst e
    go_wp2_with fail
    go_loop [7, 8, 73] (fun _ _ s => ∃ k : Nat, k ≤ x.n ∧ s = .int .i64 k ∧ Hid (∀ j, j < k → cnOk x j = true)) (fun _ _ s => x.n - (intOf s).toNat)
    case atStart => exact ⟨0, Nat.zero_le _, rfl, Lib.hid (fun j hj => by omega)⟩
    case round =>
     obtain ⟨k, hk, rfl, HC⟩ := hrel
     by_cases hkt : k < x.n
     ·obtain ⟨_, c1', _⟩ := HM3.out.bl hkt
      have HCT : Hid (∀ p : Int, Calls Tryz.prog 160 #[.pointer (some ⟨r, 0, none⟩), .int .i64 p] w3 fun e w' => e = .returned (.int .i64 (cntA x.T p x.m)) ∧ w3 = w') := fun p => count_any r _ g2 0 x.m c2 x.T p w3 (by omega) HM3.out.box HM3.out.ic
      cases hI : x.I k
      ·rw [hI] at c1'
       by_cases hc : cntA x.T (2 * k + 1) x.m = 0
       ·have HN := Lib.hid (all_next HC.out (show cnOk x k = true by simp [cnOk, hI, hc]))
        have HE := Lib.hid hc
        clear hc hI
        go_wp2_with fail
        refine (HCT.out _).mono ?_
        rintro e w' ⟨rfl, rfl⟩
        rw [HE.out]
        go_wp2_with fail
        go_round
        case rel => exact ⟨k + 1, by omega, by go_num, HN⟩
        case measure => simp [intOf]; omega
       ·have HV := Lib.hid (vldL_cn hkt (show cnOk x k = false by simp [cnOk, hI, hc]))
        have hne : ((cntA x.T (2 * k + 1) x.m : Int) != 0) = true := by simp; exact hc
        clear hc hI
        go_wp2_with fail
        refine (HCT.out _).mono ?_
        rintro e w' ⟨rfl, rfl⟩
        go_wp2_with fail
        go_ret2
        exact ⟨HB3.out, .inr ⟨HV.out, rfl⟩⟩
      ·rw [hI] at c1'
       by_cases hc : cntA x.T (2 * k + 1) x.m = 1
       ·have HN := Lib.hid (all_next HC.out (show cnOk x k = true by simp [cnOk, hI, hc]))
        have HE := Lib.hid hc
        clear hc hI
        go_wp2_with fail
        refine (HCT.out _).mono ?_
        rintro e w' ⟨rfl, rfl⟩
        rw [HE.out]
        go_wp2_with fail
        go_round
        case rel => exact ⟨k + 1, by omega, by go_num, HN⟩
        case measure => simp [intOf]; omega
       ·have HV := Lib.hid (vldL_cn hkt (show cnOk x k = false by simp [cnOk, hI, hc]))
        have hne : ((cntA x.T (2 * k + 1) x.m : Int) != 1) = true := by simp; omega
        clear hc hI
        go_wp2_with fail
        refine (HCT.out _).mono ?_
        rintro e w' ⟨rfl, rfl⟩
        go_wp2_with fail
        go_ret2
        exact ⟨HB3.out, .inr ⟨HV.out, rfl⟩⟩
     ·obtain e : k = x.n := by omega
      subst e
      have HV := Lib.hid (vldL_of HS.out h5 HPOS.out HA.out HC.out)
      go_wp2_with fail
      go_ret2
      exact ⟨HB3.out, .inl ⟨HV.out, _, rfl, r, g1, c1, g2, c2, rfl, HM3.out, HRN.out⟩⟩
def LnO (B : Nat) (w : World) (v : Value) (x : Ln) : Prop :=
 ∃ g1 c1 g2 c2, v = .agg #[.slice (some ⟨g1, 0, none⟩) x.n c1, .slice (some ⟨g2, 0, none⟩) x.m c2] ∧ Own w g1 c1 x.n 3 76 (bkF x.N x.I x.O) ∧ Own w g2 c2 x.m 1 3 (fun i => .int .i64 (x.T i)) ∧ g1 ≠ g2 ∧ B ≤ g1 ∧ B ≤ g2
theorem LnO.below {B D : Nat} {w w' : World} {v : Value} {x : Ln} (h : LnO B w v x) (hb : Below D w w') (hD : w.heap.size ≤ D) : LnO B w' v x := by
 obtain ⟨g1, c1, g2, c2, e, h1, h2, h3⟩ := h
 exact ⟨g1, c1, g2, c2, e, h1.below hb (Nat.lt_of_lt_of_le h1.lt hD), h2.below hb (Nat.lt_of_lt_of_le h2.lt hD), h3⟩
theorem LnO.mono {B D : Nat} {w : World} {v : Value} {x : Ln} (h : LnO B w v x) (hD : D ≤ B) : LnO D w v x := by
 obtain ⟨g1, c1, g2, c2, e, h1, h2, h3, h4, h5⟩ := h
 exact ⟨g1, c1, g2, c2, e, h1, h2, h3, by omega, by omega⟩
set_option linter.unusedSimpArgs false in
set_option maxHeartbeats 1000000 in
theorem line_any (r gb cb gt ct : Nat) (x : Ln) (w : World) (hn : x.n ≤ 1000000000000) (hm : x.m ≤ 1000000000000) (h : RwC w r gb cb gt ct x) :
    Calls Tryz.prog 143 #[.pointer (some ⟨r, 0, none⟩)] w fun e w' => ∃ v, e = .returned v ∧ LnO w.heap.size w' v x ∧ Below w.heap.size w w' := by
  have H := Lib.hid h
  have hrl := h.box.lt
  have HBB : Hid (∀ a, Below w.heap.size w (w.alloc a)) := fun a => below_all _ _
  clear h
  go_enter Tryz.func143, Tryz.ntmps143
  go_wp2_with fail
  have HM : Hid (RwC (w.alloc (.cells #[.slice none 0 0, .slice none 0 0] 31)) r gb cb gt ct x) := H.out.below (HBB.out _) (Nat.le_refl _)
  have HL : Hid (Bx (w.alloc (.cells #[.slice none 0 0, .slice none 0 0] 31)) w.heap.size 31 #[.slice none 0 0, .slice none 0 0]) := Bx.new _ _ _
  have HB := Lib.hid (HBB.out (.cells #[.slice none 0 0, .slice none 0 0] 31))
  generalize hW0 : w.alloc (.cells #[.slice none 0 0, .slice none 0 0] 31) = W0 at *
  have hz0 : W0.heap.size = w.heap.size + 1 := by rw [← hW0]; simp
  clear hW0
  have hrc := HM.out.box.cell
  refine wp_region_held_drew (S := (fun w' => w'.cell? ⟨r, 0, none⟩ = some (.slice (some ⟨gb, 0, none⟩) x.n cb) ∧ w'.cell? ⟨r, 1, none⟩ = some (.slice (some ⟨gt, 0, none⟩) x.m ct))) (by kernel_rfl) ?_ (fun hHeld => ?_)
  ·try dsimp only
   go_keep
  refine tkR 0 ?_
  refine tkR 1 ?_
  refine tkR 2 ?_
  refine tkR 3 ?_
  refine tkR 5 ?_
  refine tkR 6 ?_
  refine tkR 7 ?_
  refine tkR 8 ?_
  refine r1R 4 (fun K hK => ?_)
  go_simp
  go_at_call 157
  go_must (refine Calls.mono (cloneB_any gb 0 x.n cb x.N x.I x.O _ hn HM.out.bk) ?_)
  rintro e w1 ⟨g1, c1, rfl, hg1, ho1, hb1⟩
  have HO1 := Lib.hid ho1
  replace hb1 : Below W0.heap.size W0 w1 := (Below.refl _ W0).drew.trans hb1
  have HB1 := Lib.hid (HB.out.trans (hb1.mono (by omega)))
  have HM1 := Lib.hid (HM.out.below (w' := w1) hb1 (Nat.le_refl _))
  have HL1 := Lib.hid (HL.out.below (w' := w1) hb1 HL.out.lt)
  have hrc := HM1.out.box.cell
  have hz1 : W0.heap.size ≤ w1.heap.size := hb1.size
  have hg1' : w.heap.size + 1 ≤ g1 := by simp at hg1; omega
  clear ho1 hb1 hg1
  refine oR hK ?_ (fun hHeld => ?_)
  ·try dsimp only
   go_keep
  clear hK K
  refine r1R 9 (fun K hK => ?_)
  go_simp
  go_at_call 158
  go_must (refine Calls.mono (clone_any gt 0 x.m ct x.T _ hm HM1.out.ic) ?_)
  rintro e w2 ⟨g2, c2, rfl, hg2, ho2, hb2⟩
  have HO2 := Lib.hid ho2
  have HB2 := Lib.hid (HB1.out.trans (hb2.mono (by omega)))
  have HT := Lib.hid (rw_two HO1.out hb2 hg2)
  have HM2 := Lib.hid (HM1.out.below hb2 (Nat.le_refl _))
  have HL2 := Lib.hid (HL1.out.below hb2 HL1.out.lt)
  have hrc := HM2.out.box.cell
  have hlf := HL2.out.free
  have hlc := HL2.out.cell
  have hz2 : w1.heap.size ≤ w2.heap.size := hb2.size
  have hg2' : w.heap.size + 1 ≤ g2 := by omega
  have hne : r ≠ w.heap.size := by omega
  clear ho2 hb2 hg2
  refine oR hK ?_ (fun hHeld => ?_)
  ·try dsimp only
   go_keep
  clear hK K
  refine tkR 10 ?_
  refine r1R 11 (fun K hK => ?_)
  go_simp
  refine oR hK ?_ (fun hHeld => ?_)
  ·try dsimp only
   have hk := ((HM2.out.box.setOther (a := ⟨w.heap.size, 0, none⟩) hne (.slice (some ⟨g1, 0, none⟩) x.n c1)).setOther (a := ⟨w.heap.size, 1, none⟩) hne (.slice (some ⟨g2, 0, none⟩) x.m c2)).cell
   exact ⟨hk 0, hk 1⟩
  clear hK K
  refine wpAnyH_done (by kernel_rfl) ?_ _
  go_wp2_with fail
  exact bodyPost_ret (v := .agg #[.slice (some ⟨g1, 0, none⟩) x.n c1, .slice (some ⟨g2, 0, none⟩) x.m c2]) (by simp [results, Tryz.results143, go_sem, hlc]) rfl ⟨_, rfl, ⟨g1, c1, g2, c2, rfl, (HT.out.1.setOther (by dsimp only; omega) _).setOther (by dsimp only; omega) _, (HO2.out.setOther (by dsimp only; omega) _).setOther (by dsimp only; omega) _, HT.out.2.1, by omega, by omega⟩, (HB2.out.setCell (Nat.le_refl _) _).setCell (Nat.le_refl _) _⟩
end Go.Proofs.YtlkdmpfifpkpaaaGreatDoor

