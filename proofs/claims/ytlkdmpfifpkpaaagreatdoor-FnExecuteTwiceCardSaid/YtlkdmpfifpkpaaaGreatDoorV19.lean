/-
  Parts of the proof: Va Nc Nd. No condition.
-/
import Derived.Test.YtlkdmpfifpkpaaaGreatDoorV18
namespace Go.Proofs.YtlkdmpfifpkpaaaGreatDoor
open Go.RowKit
theorem railway_at {bb bo cb tb tu ct : Nat} {x : Ln} {w : World} (hn : x.n ≤ 1000000000000) (hm : x.m ≤ 1000000000000) (hbk : BkC w bb bo x.n x.N x.I x.O) (hic : IC w tb tu x.m x.T) :
    ∀ w', Below w.heap.size w w' → Calls Tryz.prog 141 #[.agg #[.slice (some ⟨bb, bo, none⟩) x.n cb, .slice (some ⟨tb, tu, none⟩) x.m ct]] w' (RwO x w') := fun w' hb => railwayOf_any bb bo cb tb tu ct x w' hn hm (hbk.keep hb) (hic.keep hb)
def stO (x : Ln) (s : Int) (l : ByteArray) : Option Ln := if vldL x = true then stepO x s l else none
set_option linter.unusedSimpArgs false in
set_option maxHeartbeats 2000000 in
theorem lineStep_any (bb bo cb tb tu ct : Nat) (x : Ln) (s : Int) (l : ByteArray) (w : World) (hn : x.n ≤ 1000000000000) (hm : x.m ≤ 1000000000000) (hbk : BkC w bb bo x.n x.N x.I x.O) (hic : IC w tb tu x.m x.T) :
    Calls Tryz.prog 121 #[.agg #[.slice (some ⟨bb, bo, none⟩) x.n cb, .slice (some ⟨tb, tu, none⟩) x.m ct], .agg #[.int .i64 s, .string l]] w (LrR (stO x s l) w) := by
  have HBB : Hid (∀ a b c, Below w.heap.size w (((w.alloc a).alloc b).alloc c)) := fun a b c => ((below_all _ _).alloc (by simp) _).alloc (by simp; omega) _
  have HRW := Lib.hid (railway_at (cb := cb) (ct := ct) hn hm hbk hic)
  clear hbk hic
  go_enter Tryz.func121, Tryz.ntmps121
  go_wp2_with fail
  refine (HRW.out _ (HBB.out _ _ _)).mono ?_
  rintro e w1 ⟨hb1, h1⟩
  have HX1 : Hid (Bx w1 (w.heap.size + 1 + 1) 31 #[.slice none 0 0, .slice none 0 0]) := (Bx.newAt (by simp)).below hb1 (by simp)
  have HM1 : Hid (Bx w1 (w.heap.size + 1) 94 #[.int .i64 s, .string l]) := ((Bx.newAt (by simp)).alloc _).below hb1 (by simp)
  have HB1 : Hid (Below w.heap.size w w1) := (HBB.out _ _ _).trans (hb1.mono (by simp; omega))
  have hrc := HX1.out.cell
  have hrf := HX1.out.free
  have hmc := HM1.out.cell
  have hxl := HX1.out.lt
  rcases h1 with ⟨hv, s', rfl, hs⟩ | ⟨hv, rfl⟩
  ·obtain ⟨r, gb, cb', gt, ct', rfl, hrw, k1, k2, k3⟩ := hs
   simp only [World.size_alloc] at k1 k2 k3
   have HR := Lib.hid hrw
   have HV : Hid (stO x s l = stepO x s l) := if_pos hv
   have hMO := move_any (w.heap.size + 1 + 1 + 1) r gb cb' gt ct' x s l w1 hn hm hrw ⟨by omega, by omega, by omega⟩
   have HMO := Lib.hid hMO
   clear hb1 hv hrw hMO
   cases ho : mvOk x s l
   ·have HO := Lib.hid ho
    have HN : Hid (stO x s l = none) := by show _ = _; rw [HV.out]; unfold stepO; rw [ho]; rfl
    clear ho
    go_wp2_with fail
    refine HMO.out.mono ?_
    rintro e w2 ⟨rfl, hr2, hb2⟩
    rw [HO.out]
    have HX2 := Lib.hid (HX1.out.below hb2 (by omega))
    have HB2 : Hid (Below w.heap.size w w2) := HB1.out.trans (hb2.mono (by omega))
    clear hr2 hb2 hrc hrf hmc
    have hrc := HX2.out.cell
    have hrf := HX2.out.free
    go_wp2_with fail
    exact bodyPost_ret (v := .tuple #[nilLn, .bool false]) (by simp [results, Tryz.results121, go_sem, hrc, nilLn]) rfl ⟨(HB2.out.setCell (by dsimp only; omega) _).setCell (by dsimp only; omega) _, .inl ⟨HN.out, rfl⟩⟩
   ·have HO := Lib.hid ho
    have HN : Hid (stO x s l = some (mvTo x s l)) := by show _ = _; rw [HV.out]; unfold stepO; rw [ho]; rfl
    clear ho
    go_wp2_with fail
    refine HMO.out.mono ?_
    rintro e w2 ⟨rfl, hr2, hb2⟩
    rw [HO.out]
    rw [HO.out, if_pos rfl] at hr2
    have HR2 := Lib.hid hr2
    have HX2 := Lib.hid (HX1.out.below hb2 (by omega))
    have HB2 : Hid (Below w.heap.size w w2) := HB1.out.trans (hb2.mono (by omega))
    clear hr2 hb2 hrc hrf hmc
    have HLI : Hid (Calls Tryz.prog 143 #[.pointer (some ⟨r, 0, none⟩)] w2 fun e w' => ∃ v, e = .returned v ∧ LnO w2.heap.size w' v (mvTo x s l) ∧ Below w2.heap.size w2 w') := line_any r gb cb' gt ct' (mvTo x s l) _ hn hm HR2.out
    go_wp2_with fail
    refine HLI.out.mono ?_
    rintro e w3 ⟨v, rfl, hl, hb⟩
    have HL3 := Lib.hid hl
    have HX3 := Lib.hid (HX2.out.below hb HX2.out.lt)
    have hz3 := HX2.out.lt
    have HB3 := Lib.hid (HB2.out.trans (hb.mono HB2.out.size))
    obtain ⟨g1, c1, g2, c2, rfl, _⟩ := hl
    clear hb
    have hrc := HX3.out.cell
    have hrf := HX3.out.free
    go_wp2_with fail
    refine bodyPost_ret (v := .tuple #[.agg #[.slice (some ⟨g1, 0, none⟩) (mvTo x s l).n c1, .slice (some ⟨g2, 0, none⟩) (mvTo x s l).m c2], .bool true]) (by simp [results, Tryz.results121, go_sem, hrc]) rfl ⟨(HB3.out.setCell (by dsimp only; omega) _).setCell (by dsimp only; omega) _, .inr ⟨mvTo x s l, _, HN.out, rfl, (((HL3.out.mono (D := w.heap.size + 3) (by omega)).setOther (by omega) _).setOther (by omega) _).mono (by omega)⟩⟩
  ·have HN : Hid (stO x s l = none) := by show _ = _; unfold stO; rw [hv]; rfl
   clear hv hb1
   go_wp2_with fail
   exact bodyPost_ret (v := .tuple #[nilLn, .bool false]) (by simp [results, Tryz.results121, go_sem, hrc, nilLn]) rfl ⟨(HB1.out.setCell (by dsimp only; omega) _).setCell (by dsimp only; omega) _, .inl ⟨HN.out, rfl⟩⟩
theorem leA_le' (f : Nat → Int) (p : Int) : ∀ m, leA f p m ≤ m
  | 0 => Nat.le_refl _
  | m + 1 => by
   have := leA_le' f p m
   simp only [leA]
   split <;> omega
set_option linter.unusedSimpArgs false in
set_option maxRecDepth 100000 in
set_option maxHeartbeats 4000000 in
theorem l4Left_any (bb bo cb tb tu ct : Nat) (x : Ln) (k s : Nat) (w : World) (hk : k < x.n) (hn : x.n ≤ 1000000) (hm : x.m ≤ 1000000) (hs : s < 5) (hN : x.N k = (stB s).n ∧ x.I k = (stB s).i ∧ x.O k = (stB s).o) (hbk : BkC w bb bo x.n x.N x.I x.O) (hic : IC w tb tu x.m x.T) :
    Calls Tryz.prog 109 #[.agg #[.slice (some ⟨bb, bo, none⟩) x.n cb, .slice (some ⟨tb, tu, none⟩) x.m ct], .int .i64 k] w fun e w' => e = .returned (.int .i64 (lefK s (tk x k))) ∧ Below w.heap.size w w' := by
  have HM0 : Hid (VdM w (w.alloc (.cells #[.slice (some ⟨bb, bo, none⟩) x.n cb, .slice (some ⟨tb, tu, none⟩) x.m ct] 31)) (.slice (some ⟨bb, bo, none⟩) x.n cb) (.slice (some ⟨tb, tu, none⟩) x.m ct)) := ⟨Bx.new _ _ _, below_all _ _⟩
  have HKB : Hid (BkC (w.alloc (.cells #[.slice (some ⟨bb, bo, none⟩) x.n cb, .slice (some ⟨tb, tu, none⟩) x.m ct] 31)) bb bo x.n x.N x.I x.O) := hbk.keep (below_all _ _)
  have HKT : Hid (IC (w.alloc (.cells #[.slice (some ⟨bb, bo, none⟩) x.n cb, .slice (some ⟨tb, tu, none⟩) x.m ct] 31)) tb tu x.m x.T) := hic.keep (below_all _ _)
  have HS := Lib.hid hN
  clear hbk hic hN
  go_enter Tryz.func109, Tryz.ntmps109
  have hac := HM0.out.box.cell
  go_wp2_with fail
  clear hac
  generalize w.alloc (.cells #[.slice (some ⟨bb, bo, none⟩) x.n cb, .slice (some ⟨tb, tu, none⟩) x.m ct] 31) = wr at *
  have hac := HM0.out.box.cell
  go_loop [5, 6] (fun t i => ∃ j : Nat, j ≤ x.m ∧ i = .int .i64 j ∧ t = .int .i64 (leA x.T (2 * k) j)) (fun _ i => x.m - (intOf i).toNat)
  case atStart => exact ⟨0, Nat.zero_le _, rfl, rfl⟩
  case round =>
   obtain ⟨j, hj, rfl, rfl⟩ := hrel
   have hle := leA_le' x.T (2 * k) j
   by_cases hjt : j < x.m
   ·have hcj := HKT.out.at j hjt
    by_cases h1 : x.T j ≤ 2 * k
    ·have HE : Hid (leA x.T (2 * k) (j + 1) = leA x.T (2 * k) j + 1) := by show _ = _; simp [leA, h1]
     go_wp2_with fail
     go_round
     case rel => exact ⟨j + 1, by omega, by go_num, by rw [HE.out]; go_num⟩
     case measure => simp [intOf]; omega
    ·have HE : Hid (leA x.T (2 * k) (j + 1) = leA x.T (2 * k) j) := by show _ = _; simp [leA, h1]
     go_wp2_with fail
     go_round
     case rel => exact ⟨j + 1, by omega, by go_num, by rw [HE.out]⟩
     case measure => simp [intOf]; omega
   ·obtain rfl : j = x.m := by omega
    have HT : Hid (tk x k = leA x.T (2 * k) x.m) := rfl
    obtain ⟨c0, c1, c2⟩ := HKB.out.at k hk
    obtain ⟨e0, e1, e2⟩ := HS.out
    rw [e0] at c0
    rw [e1] at c1
    rw [e2] at c2
    clear e0 e1 e2 HS
    revert hle HT
    generalize leA x.T (2 * k) x.m = t
    intro hle HT
    match hse : s, hs with
    | 0, _ =>
     (have h0 : wr.cell? ⟨bb, bo + k * 3, none⟩ = some (.int .i64 (stB 0).n) := c0)
     (have h1 : wr.cell? ⟨bb, bo + k * 3 + 1, none⟩ = some (.bool (stB 0).i) := c1)
     (have h2 : wr.cell? ⟨bb, bo + k * 3 + 2, none⟩ = some (.bool (stB 0).o) := c2)
     simp only [stB] at h0 h1 h2
     have HSE := Lib.hid hse
     clear c0 c1 c2 hse
     go_wp2_with fail
     go_ret
     exact ⟨by rw [HT.out, HSE.out]; simp [lefK, *], HM0.out.bl.alloc HM0.out.bl.size _⟩
    | 1, _ =>
     (have h0 : wr.cell? ⟨bb, bo + k * 3, none⟩ = some (.int .i64 (stB 1).n) := c0)
     (have h1 : wr.cell? ⟨bb, bo + k * 3 + 1, none⟩ = some (.bool (stB 1).i) := c1)
     (have h2 : wr.cell? ⟨bb, bo + k * 3 + 2, none⟩ = some (.bool (stB 1).o) := c2)
     simp only [stB] at h0 h1 h2
     have HSE := Lib.hid hse
     clear c0 c1 c2 hse
     rcases Nat.eq_zero_or_pos t with h0 | h0
     ·subst h0
      go_wp2_with fail
      go_ret
      exact ⟨by rw [HT.out, HSE.out]; simp [lefK, *], HM0.out.bl.alloc HM0.out.bl.size _⟩
     ·go_wp2_with fail
      go_ret
      exact ⟨by rw [HT.out, HSE.out]; simp [lefK, *], HM0.out.bl.alloc HM0.out.bl.size _⟩
    | 2, _ =>
     (have h0 : wr.cell? ⟨bb, bo + k * 3, none⟩ = some (.int .i64 (stB 2).n) := c0)
     (have h1 : wr.cell? ⟨bb, bo + k * 3 + 1, none⟩ = some (.bool (stB 2).i) := c1)
     (have h2 : wr.cell? ⟨bb, bo + k * 3 + 2, none⟩ = some (.bool (stB 2).o) := c2)
     simp only [stB] at h0 h1 h2
     have HSE := Lib.hid hse
     clear c0 c1 c2 hse
     rcases Nat.eq_zero_or_pos t with h0 | h0
     ·subst h0
      go_wp2_with fail
      go_ret
      exact ⟨by rw [HT.out, HSE.out]; simp [lefK, *], HM0.out.bl.alloc HM0.out.bl.size _⟩
     ·go_wp2_with fail
      go_ret
      exact ⟨by rw [HT.out, HSE.out]; simp [lefK, *], HM0.out.bl.alloc HM0.out.bl.size _⟩
    | 3, _ =>
     (have h0 : wr.cell? ⟨bb, bo + k * 3, none⟩ = some (.int .i64 (stB 3).n) := c0)
     (have h1 : wr.cell? ⟨bb, bo + k * 3 + 1, none⟩ = some (.bool (stB 3).i) := c1)
     (have h2 : wr.cell? ⟨bb, bo + k * 3 + 2, none⟩ = some (.bool (stB 3).o) := c2)
     simp only [stB] at h0 h1 h2
     have HSE := Lib.hid hse
     clear c0 c1 c2 hse
     go_wp2_with fail
     go_ret
     exact ⟨by rw [HT.out, HSE.out]; simp [lefK, *], HM0.out.bl.alloc HM0.out.bl.size _⟩
    | 4, _ =>
     (have h0 : wr.cell? ⟨bb, bo + k * 3, none⟩ = some (.int .i64 (stB 4).n) := c0)
     (have h1 : wr.cell? ⟨bb, bo + k * 3 + 1, none⟩ = some (.bool (stB 4).i) := c1)
     (have h2 : wr.cell? ⟨bb, bo + k * 3 + 2, none⟩ = some (.bool (stB 4).o) := c2)
     simp only [stB] at h0 h1 h2
     have HSE := Lib.hid hse
     clear c0 c1 c2 hse
     go_wp2_with fail
     go_ret
     exact ⟨by rw [HT.out, HSE.out]; simp [lefK, *], HM0.out.bl.alloc HM0.out.bl.size _⟩
set_option linter.unusedSimpArgs false in
set_option maxRecDepth 100000 in
set_option maxHeartbeats 4000000 in
theorem specLineLeft_any (bb bo cb tb tu ct : Nat) (x : Ln) (w : World) (hv : vldL x = true) (hbk : BkC w bb bo x.n x.N x.I x.O) (hic : IC w tb tu x.m x.T) :
    Calls Tryz.prog 81 #[.agg #[.slice (some ⟨bb, bo, none⟩) x.n cb, .slice (some ⟨tb, tu, none⟩) x.m ct]] w fun e w' => e = .returned (.int .i64 (lefS x x.n)) ∧ Below w.heap.size w w' := by
  have HM0 : Hid (VdM w (w.alloc (.cells #[.slice (some ⟨bb, bo, none⟩) x.n cb, .slice (some ⟨tb, tu, none⟩) x.m ct] 31)) (.slice (some ⟨bb, bo, none⟩) x.n cb) (.slice (some ⟨tb, tu, none⟩) x.m ct)) := ⟨Bx.new _ _ _, below_all _ _⟩
  have hvl := vldL_true hv
  have hn5 : x.n ≤ 5 := hvl.2.1
  have hm5 : x.m ≤ 5 := hvl.2.2.1
  have HLV : Hid (∀ W, Below w.heap.size w W → Calls Tryz.prog 80 #[.agg #[.slice (some ⟨bb, bo, none⟩) x.n cb, .slice (some ⟨tb, tu, none⟩) x.m ct]] W fun e w' => e = .returned (.bool true) ∧ Below W.heap.size W w') := fun W hb => by
   have h := specLineValid_any bb bo cb tb tu ct x W (by omega) (by omega) (hbk.keep hb) (hic.keep hb)
   rw [hv] at h
   exact h
  have HLL : Hid (∀ W k, k < x.n → Below w.heap.size w W → Calls Tryz.prog 109 #[.agg #[.slice (some ⟨bb, bo, none⟩) x.n cb, .slice (some ⟨tb, tu, none⟩) x.m ct], .int .i64 k] W fun e w' => e = .returned (.int .i64 (lefK (sk x k) (tk x k))) ∧ Below W.heap.size W w') := fun W k hk hb => by
   have h5 := sk_lt hv hk
   have hB := stI_B (n := x.N k) (i := x.I k) (o := x.O k) rfl h5
   exact l4Left_any bb bo cb tb tu ct x k (sk x k) W hk (by omega) (by omega) h5 hB (hbk.keep hb) (hic.keep hb)
  have HST : Hid (∀ k, k ≤ x.n → lefS x k = lefT x k) := lefS_T hv
  have HBD : Hid (∀ k, lefS x k ≤ k * (5 * x.m + 2) ∧ 0 ≤ lefS x k) := fun k => ⟨(lefS_bd x k).2, (lefS_bd x k).1⟩
  clear hbk hic hv hvl
  go_enter Tryz.func81, Tryz.ntmps81
  have hac := HM0.out.box.cell
  go_wp2_with fail
  clear hac
  refine (HLV.out _ HM0.out.bl).mono ?_
  rintro e w1 ⟨rfl, hb⟩
  have HM1 := Lib.hid (HM0.out.below hb rfl)
  have hac := HM1.out.box.cell
  clear hb
  go_wp2_with fail
  clear hac HM0
  go_loopw [3, 4] (fun s i wr => ∃ k : Nat, k ≤ x.n ∧ i = .int .i64 k ∧ s = .int .i64 (lefS x k) ∧ Hid (VdM w wr (.slice (some ⟨bb, bo, none⟩) x.n cb) (.slice (some ⟨tb, tu, none⟩) x.m ct))) (fun _ i _ => x.n - (intOf i).toNat)
  case atStart => exact ⟨0, Nat.zero_le _, rfl, rfl, HM1⟩
  case round =>
   obtain ⟨k, hk, rfl, rfl, HM⟩ := hrel
   have hac := HM.out.box.cell
   by_cases hlt : k < x.n
   ·have HC := Lib.hid (HLL.out wr k hlt HM.out.bl)
    have hb0 : 0 ≤ lefS x k ∧ lefS x k ≤ 1000 := by
     have h := HBD.out k
     have h3 : k * (5 * x.m + 2) ≤ 5 * 27 := Nat.mul_le_mul (by omega) (by omega)
     have h4 : ((k * (5 * x.m + 2) : Nat) : Int) = (k : Int) * (5 * (x.m : Int) + 2) := by simp
     omega
    have hb1 : 0 ≤ lefK (sk x k) (tk x k) ∧ lefK (sk x k) (tk x k) ≤ 1000 := by
     have h1 := leA_le' x.T (2 * k) x.m
     have h2 : tk x k ≤ 5 := by unfold tk; omega
     revert h2
     generalize tk x k = t
     generalize sk x k = s
     intro h2
     unfold lefK
     split <;> (try split) <;> omega
    have HE : Hid (lefS x (k + 1) = lefS x k + lefK (sk x k) (tk x k)) := by
     show _ = _
     rw [HST.out (k + 1) (by omega), HST.out k (by omega)]
     rfl
    go_wp2_with fail
    refine HC.out.mono ?_
    rintro e w2 ⟨rfl, hb⟩
    have HM2 := Lib.hid (HM.out.below hb rfl)
    clear hb
    go_wp2_with fail
    go_roundw
    case rel => exact ⟨k + 1, by omega, by go_num, by rw [HE.out], HM2⟩
    case measure => simp [intOf]; omega
   ·obtain e : k = x.n := by omega
    subst e
    go_wp2_with fail
    go_ret
    exact ⟨rfl, HM.out.bl⟩
theorem spU_ok {x : Ln} {k : Nat} {z : Int × ByteArray} (h : z ∈ spU x k) : mvOk x z.1 z.2 = true := by
 unfold spU at h
 rw [List.mem_flatMap] at h
 obtain ⟨q, _, h⟩ := h
 unfold spI at h
 rw [List.mem_map] at h
 obtain ⟨c, hc, rfl⟩ := h
 exact (List.mem_filter.1 hc).2
theorem spL_ok {x : Ln} {z : Int × ByteArray} (h : z ∈ spL x) : mvOk x z.1 z.2 = true := by
 unfold spL at h
 split at h
 ·exact spU_ok h
 ·cases h
theorem spL_mvs {x : Ln} (hv : vldL x = true) : spL x = mvsL x := by
 rw [spL_lmL]
 exact if_pos hv
theorem stepO_ok {x : Ln} {s : Int} {l : ByteArray} (h : mvOk x s l = true) : stepO x s l = some (mvTo x s l) := if_pos h
theorem BkC.setOther {w : World} {b off n : Nat} {N : Nat → Int} {I O : Nat → Bool} (h : BkC w b off n N I O) {a : Addr} (ha : b ≠ a.block) (v : Value) : BkC (w.setCell a v) b off n N I O := fun k hk => by
 obtain ⟨h1, h2, h3⟩ := h k hk
 have e : ∀ o, (w.setCell a v).cell? ⟨b, o, none⟩ = w.cell? ⟨b, o, none⟩ := fun o => World.cell?_of_block (w := w) (Below.heap_setCell _ _ _ _ ha)
 exact ⟨by rw [e]; exact h1, by rw [e]; exact h2, by rw [e]; exact h3⟩
theorem IC.setOther {w : World} {b off n : Nat} {f : Nat → Int} (h : IC w b off n f) {a : Addr} (ha : b ≠ a.block) (v : Value) : IC (w.setCell a v) b off n f := fun k hk => by
 have e : ∀ o, (w.setCell a v).cell? ⟨b, o, none⟩ = w.cell? ⟨b, o, none⟩ := fun o => World.cell?_of_block (w := w) (Below.heap_setCell _ _ _ _ ha)
 rw [e]; exact h k hk
structure FsI (w wr : World) (b o c b2 o2 c2 g cap : Nat) (x y : Ln) (pre : List (Int × ByteArray)) : Prop where
  arg : Bx wr w.heap.size 31 #[.slice (some ⟨b, o, none⟩) y.n c, .slice (some ⟨b2, o2, none⟩) y.m c2]
  bk : BkC wr b o y.n y.N y.I y.O
  ic : IC wr b2 o2 y.m y.T
  lb : b < wr.heap.size
  lb2 : b2 < wr.heap.size
  nb : b ≠ w.heap.size
  nb2 : b2 ≠ w.heap.size
  ow : OwnMs wr g cap pre
  gz : w.heap.size < g
  vl : vldL y = true
  fx : pre ++ finX y = finX x
  ln : pre.length + (lefS y y.n).toNat ≤ 135
  bl : Below w.heap.size w wr
theorem FsI.below {w wr w' : World} {b o c b2 o2 c2 g cap : Nat} {x y : Ln} {pre : List (Int × ByteArray)} (h : FsI w wr b o c b2 o2 c2 g cap x y pre) (hb : Below wr.heap.size wr w') : FsI w w' b o c b2 o2 c2 g cap x y pre :=
 ⟨h.arg.below hb h.arg.lt, h.bk.keep hb, h.ic.keep hb, Nat.lt_of_lt_of_le h.lb hb.size, Nat.lt_of_lt_of_le h.lb2 hb.size, h.nb, h.nb2, Own.below h.ow hb (Own.lt h.ow), h.gz, h.vl, h.fx, h.ln, h.bl.trans (hb.mono h.bl.size)⟩
structure MsI (wr : World) (bm mo cm : Nat) (ms : List (Int × ByteArray)) : Prop where
  mv : MvsC wr bm mo ms.length (mvM ms) (mvS ms)
theorem MsI.below {wr w' : World} {bm mo cm : Nat} {ms : List (Int × ByteArray)} (h : MsI wr bm mo cm ms) (hb : Below wr.heap.size wr w') : MsI w' bm mo cm ms := ⟨h.mv.keep hb⟩
def FsY (wr : World) (y' : Ln) (s7 s8 : Value) (wx : World) : Prop :=
 ∃ b8 p1 e1 p2 e2, s7 = .pointer (some ⟨b8, 0, none⟩) ∧ s8 = .bool true ∧ Below wr.heap.size wr wx ∧ Bx wx b8 31 #[.slice (some ⟨p1, 0, none⟩) y'.n e1, .slice (some ⟨p2, 0, none⟩) y'.m e2] ∧ LnZ wr.heap.size wx (.slice (some ⟨p1, 0, none⟩) y'.n e1) (.slice (some ⟨p2, 0, none⟩) y'.m e2) y' ∧ wr.heap.size ≤ b8 ∧ b8 ≠ p1 ∧ b8 ≠ p2 ∧ wr.heap.size ≤ p1 ∧ wr.heap.size ≤ p2
set_option linter.unusedSimpArgs false in
set_option maxRecDepth 100000 in
set_option maxHeartbeats 8000000 in
theorem specLineFinish_any (bb bo cb tb tu ct : Nat) (x : Ln) (w : World) (hn : x.n ≤ 1000000000000) (hm : x.m ≤ 1000000000000) (hbb : bb < w.heap.size) (htb : tb < w.heap.size) (hbk : BkC w bb bo x.n x.N x.I x.O) (hic : IC w tb tu x.m x.T) :
    Calls Tryz.prog 61 #[.agg #[.slice (some ⟨bb, bo, none⟩) x.n cb, .slice (some ⟨tb, tu, none⟩) x.m ct]] w fun e W' => (∃ v g, e = .returned (.tuple #[v, .bool (vldL x)]) ∧ RowMs w.heap.size W' v (fnL x) (some g)) ∧ Below w.heap.size w W' := by
  have HW2 : Hid (Below w.heap.size w ((w.alloc (.cells #[.slice (some ⟨bb, bo, none⟩) x.n cb, .slice (some ⟨tb, tu, none⟩) x.m ct] 31)).alloc (.cells #[] 94))) := (below_all _ _).alloc (by simp) _
  have HA0 : Hid (Bx ((w.alloc (.cells #[.slice (some ⟨bb, bo, none⟩) x.n cb, .slice (some ⟨tb, tu, none⟩) x.m ct] 31)).alloc (.cells #[] 94)) w.heap.size 31 #[.slice (some ⟨bb, bo, none⟩) x.n cb, .slice (some ⟨tb, tu, none⟩) x.m ct]) := (Bx.new _ _ _).alloc _
  have HO0 : Hid (Own ((w.alloc (.cells #[.slice (some ⟨bb, bo, none⟩) x.n cb, .slice (some ⟨tb, tu, none⟩) x.m ct] 31)).alloc (.cells #[] 94)) (w.heap.size + 1) 0 0 2 94 (mvF (mvM []) (mvS []))) := own_emptyAt (by simp)
  have HLV : Hid (∀ W, Below w.heap.size w W → Calls Tryz.prog 80 #[.agg #[.slice (some ⟨bb, bo, none⟩) x.n cb, .slice (some ⟨tb, tu, none⟩) x.m ct]] W fun e w' => e = .returned (.bool (vldL x)) ∧ Below W.heap.size W w') := fun W hb => specLineValid_any bb bo cb tb tu ct x W hn hm (hbk.keep hb) (hic.keep hb)
  have HK := Lib.hid hbk
  have HI := Lib.hid hic
  clear hbk hic
  go_enter Tryz.func61, Tryz.ntmps61
  have hac := HA0.out.cell
  have hal := HA0.out.lt
  go_wp2_with fail
  clear hac hal
  refine (HLV.out _ HW2.out).mono ?_
  rintro e w1 ⟨rfl, hb1⟩
  have HB1 := Lib.hid (HW2.out.trans (hb1.mono HW2.out.size))
  have HA1 := Lib.hid (HA0.out.below hb1 HA0.out.lt)
  have HO1 := Lib.hid (HO0.out.below hb1 (Own.lt HO0.out))
  clear hb1 HW2 HA0 HO0 HLV
  cases hv : vldL x
  ·have HV := Lib.hid hv
   have HVX : Hid (fnL x = []) := by show _ = _; unfold fnL; rw [hv]; rfl
   clear hv
   go_wp2_with fail
   refine bodyPost_ret (v := .tuple #[.slice (some ⟨w.heap.size + 1, 0, none⟩) 0 0, .bool false]) (by simp [results, Tryz.results61, go_sem]) rfl ?_
   exact ⟨⟨_, (w.heap.size + 1), by first | rfl | rw [HV.out], .inl ⟨w.heap.size + 1, 0, rfl, by rw [HVX.out]; rfl, by omega, by rw [HVX.out]; exact HO1.out⟩⟩, HB1.out⟩
  have HS : Hid (FsI w w1 bb bo cb tb tu ct (w.heap.size + 1) 0 x x []) :=
   ⟨HA1.out, HK.out.keep HB1.out, HI.out.keep HB1.out, Nat.lt_of_lt_of_le hbb HB1.out.size, Nat.lt_of_lt_of_le htb HB1.out.size, by omega, by omega, HO1.out, by omega, hv, rfl, by simpa using lefS_135 hv, HB1.out⟩
  have HV := Lib.hid hv
  have HVX : Hid (fnL x = finX x) := if_pos hv
  clear hv HA1 HO1 HB1
  go_wp2_with fail
  go_loopw [4, 5, 6, 7, 8] (fun s _ _ _ _ wr => ∃ (b o c b2 o2 c2 g cap : Nat) (y : Ln) (pre : List (Int × ByteArray)), s = .slice (some ⟨g, 0, none⟩) pre.length cap ∧ Hid (FsI w wr b o c b2 o2 c2 g cap x y pre)) (fun s _ _ _ _ _ => 135 - slLen s)
  case atStart => exact ⟨bb, bo, cb, tb, tu, ct, w.heap.size + 1, 0, x, [], rfl, HS⟩
  case round =>
   clear HS
   obtain ⟨b, o, c, b2, o2, c2, g, cap, y, pre, rfl, HF⟩ := hrel
   have hnb := vldL_true HF.out.vl
   have hn5 : y.n ≤ 5 := hnb.2.1
   have hm5 : y.m ≤ 5 := hnb.2.2.1
   clear hnb
   have HLL : Hid (∀ W, Below wr.heap.size wr W → Calls Tryz.prog 81 #[.agg #[.slice (some ⟨b, o, none⟩) y.n c, .slice (some ⟨b2, o2, none⟩) y.m c2]] W fun e w' => e = .returned (.int .i64 (lefS y y.n)) ∧ Below W.heap.size W w') := fun W hW => specLineLeft_any b o c b2 o2 c2 y W HF.out.vl (HF.out.bk.keep hW) (HF.out.ic.keep hW)
   have HLR := Lib.hid (HLL.out wr (Below.refl _ _))
   have hac := HF.out.arg.cell
   have hal := HF.out.arg.lt
   by_cases h0 : 0 < lefS y y.n
   ·have HLM : Hid (∀ W, Below wr.heap.size wr W → Calls Tryz.prog 82 #[.agg #[.slice (some ⟨b, o, none⟩) y.n c, .slice (some ⟨b2, o2, none⟩) y.m c2]] W fun e W' => (∃ v g, e = .returned v ∧ RowMs W.heap.size W' v (mvsL y) g) ∧ Below W.heap.size W W') := fun W hW => by
     have h := specLineMoves_any b o c b2 o2 c2 y W (by omega) (by omega) (HF.out.bk.keep hW) (HF.out.ic.keep hW)
     rw [spL_mvs HF.out.vl] at h
     exact h
    have HST : Hid (∀ W z, Below wr.heap.size wr W → z ∈ mvsL y → Calls Tryz.prog 83 #[.agg #[.slice (some ⟨b, o, none⟩) y.n c, .slice (some ⟨b2, o2, none⟩) y.m c2], .agg #[.int .i64 z.1, .string z.2]] W fun e w' => (∃ g1 c1 g2 c2, e = .returned (.tuple #[.agg #[.slice (some ⟨g1, 0, none⟩) (mvTo y z.1 z.2).n c1, .slice (some ⟨g2, 0, none⟩) (mvTo y z.1 z.2).m c2], .bool true]) ∧ Hid (LnZ W.heap.size w' (.slice (some ⟨g1, 0, none⟩) (mvTo y z.1 z.2).n c1) (.slice (some ⟨g2, 0, none⟩) (mvTo y z.1 z.2).m c2) (mvTo y z.1 z.2) ∧ W.heap.size ≤ g1 ∧ W.heap.size ≤ g2)) ∧ Below W.heap.size W w') := fun W z hW hz => by
     have hok : mvOk y z.1 z.2 = true := spL_ok (by rw [spL_mvs HF.out.vl]; exact hz)
     have h := l4Step_any b o c b2 o2 c2 y z.1 z.2 W (by omega) (by omega) (HF.out.bk.keep hW) (HF.out.ic.keep hW)
     rw [stepO_ok hok] at h
     refine h.mono fun e w' h => ?_
     obtain ⟨hb, ⟨h, _⟩ | ⟨z, v, h, h2, g1, c1, g2, c2, h3, o1, o2, d, z1, z2⟩⟩ := h
     ·cases h
     ·cases h
      exact ⟨⟨g1, c1, g2, c2, by rw [h2, h3], ⟨g1, c1, g2, c2, rfl, rfl, o1, o2, d, z1, z2⟩, z1, z2⟩, hb⟩
    have hlen : pre.length < 135 := by have := HF.out.ln; omega
    have HL0 := Lib.hid h0
    go_wp2_with fail
    refine HLR.out.mono ?_
    rintro e w2 ⟨rfl, hb2⟩
    have HB2 := Lib.hid hb2
    have HF2 := Lib.hid (HF.out.below hb2)
    clear hac hal hb2
    have hac := HF2.out.arg.cell
    have hal := HF2.out.arg.lt
    go_wp2_with fail
    refine (HLM.out w2 HB2.out).mono ?_
    rintro e w3 ⟨⟨v, gm, rfl, hrow⟩, hb3⟩
    have HB3 := Lib.hid (HB2.out.trans (hb3.mono HB2.out.size))
    have HF3 := Lib.hid (HF2.out.below hb3)
    obtain ⟨ms, hms⟩ : ∃ ms, ms = mvsL y := ⟨_, rfl⟩
    have HMS := Lib.hid hms
    rw [← hms] at hrow
    obtain ⟨bm, mo, cm, rfl, hmi⟩ : ∃ bm mo cm, v = .slice (some ⟨bm, mo, none⟩) ms.length cm ∧ MsI w3 bm mo cm ms := by
     rcases hrow with ⟨bm, cm, _, rfl, _, hown⟩ | ⟨_, hnil, _⟩
     ·exact ⟨bm, 0, cm, rfl, ⟨MvsC.of_own hown⟩⟩
     ·obtain ⟨z, hz, _⟩ := near_ex HF.out.vl HL0.out
      rw [← hms, hnil] at hz
      cases hz
    have HM3 := Lib.hid hmi
    have hql : ms.length ≤ 1000 := by
     have h := lmL_len y
     have h2 : lmL y = mvsL y := if_pos HF.out.vl
     rw [h2, ← hms] at h
     omega
    clear hrow hmi hb3 hms hac hal HF2
    go_wp2_with fail
    go_loopw [4, 6, 7, 8] (fun o s _ _ WV => ∃ i : Nat, i ≤ ms.length ∧ s = .int .i64 i ∧ o = .slice (some ⟨g, 0, none⟩) pre.length cap ∧ Hid (∀ z, z ∈ ms.take i → nrB y z = false) ∧ Hid (Below w3.heap.size w3 WV)) (fun _ s _ _ _ => ms.length - (intOf s).toNat)
    case atStart => exact ⟨0, Nat.zero_le _, rfl, rfl, (fun z hz => by simp at hz), Below.refl _ _⟩
    case round =>
     obtain ⟨i, hi, rfl, rfl, HNO, HBV⟩ := hrel
     by_cases hlt : i < ms.length
     ·have HFV := Lib.hid (HF3.out.below HBV.out)
      have HMV := Lib.hid (HM3.out.below HBV.out)
      obtain ⟨z, hz⟩ : ∃ z, ms[i]? = some z := ⟨_, List.getElem?_eq_getElem hlt⟩
      have HZ := Lib.hid hz
      have HZM : Hid (z ∈ mvsL y) := by show _; rw [← HMS.out]; exact List.mem_of_getElem? hz
      have HTK : Hid (ms.take (i + 1) = ms.take i ++ [z]) := by show _ = _; rw [List.take_add_one, hz]; rfl
      have HSC : Hid (∀ W, Below wr.heap.size wr W → W.cell? ⟨w.heap.size, 0, none⟩ = some (.slice (some ⟨b, o, none⟩) y.n c) ∧ W.cell? ⟨w.heap.size, 1, none⟩ = some (.slice (some ⟨b2, o2, none⟩) y.m c2) ∧ W.cell? ⟨bm, mo + i * 2, none⟩ = some (.int .i64 z.1) ∧ W.cell? ⟨bm, mo + i * 2 + 1, none⟩ = some (.string z.2)) := fun W hW => by
       have h1 := (HFV.out.below hW).arg
       obtain ⟨h2, h3⟩ := (HMV.out.below hW).mv.at i hlt
       have e1 : mvM ms i = z.1 := by unfold mvM; rw [hz]; rfl
       have e2 : mvS ms i = z.2 := by unfold mvS; rw [hz]; rfl
       rw [e1] at h2
       rw [e2] at h3
       exact ⟨h1.cell 0, h1.cell 1, h2, h3⟩
      have HBW := Lib.hid (HB3.out.trans (HBV.out.mono HB3.out.size))
      have HC : Hid (∀ W, Below wr.heap.size wr W → _) := fun W hW => HST.out W z (HBW.out.trans (hW.mono HBW.out.size)) HZM.out
      have hiq : (i : Int) < (ms.length : Int) := by omega
      obtain ⟨a1, a2, a3, a4⟩ := HSC.out _ (Below.refl _ _)
      have zal := HFV.out.arg.lt
      have zwr : w.heap.size < wr.heap.size := zal
      clear hz
      go_wp2_with fail
      go_cut [7, 8] (FsY wr (mvTo y z.1 z.2))
      case first =>
       refine wp_region_held_drew (S := (fun w' => w'.cell? ⟨w.heap.size, 0, none⟩ = some (.slice (some ⟨b, o, none⟩) y.n c) ∧ w'.cell? ⟨w.heap.size, 1, none⟩ = some (.slice (some ⟨b2, o2, none⟩) y.m c2) ∧ w'.cell? ⟨bm, mo + i * 2, none⟩ = some (.int .i64 z.1) ∧ w'.cell? ⟨bm, mo + i * 2 + 1, none⟩ = some (.string z.2))) (by kernel_rfl) ?_ (fun hHeld => ?_)
       ·try dsimp only
        go_keep
       refine tkR 0 ?_
       refine tkR 1 ?_
       refine tkR 2 ?_
       refine tkR 3 ?_
       refine tkR 4 ?_
       refine wpAnyH_ready (rs := [5, 9]) (by kernel_rfl) (by simp) ?_
       refine c1R (fun K hK => ?_) ?_
       ·go_simp
        go_at_call 83; go_must (refine Calls.mono (HC.out _ (Below.refl _ wr).drew) ?_); rintro e w2 ⟨⟨p1, e1, p2, e2, rfl, HL⟩, hb⟩; have HLz := Lib.hid (HL.out.1.lts); have hpp := HL.out.2; have hpd : ∀ W : World, W.drew.heap.size = W.heap.size := (fun _ => rfl); simp only [World.size_alloc, hpd] at hpp; clear hpd; have HB5 : Hid (Below wr.heap.size wr w2) := (Below.refl _ wr).drew.trans hb; have hl2 : wr.heap.size ≤ w2.heap.size := HB5.out.size; obtain ⟨s1, s2, s3, s4⟩ := HSC.out _ HB5.out; clear hb a1 a2 a3 a4
        refine oR hK ?_ (fun hHeld => ?_)
        ·try dsimp only
         go_keep
        clear hK K
        refine tkR 6 ?_
        refine tkR 7 ?_
        refine tkR 8 ?_
        refine r1R 9 (fun K hK => ?_)
        go_simp
        skip
        refine oR hK ?_ (fun hHeld => ?_)
        ·try dsimp only
         go_keep
        clear hK K
        have HBz : Hid (∀ a, Below wr.heap.size wr (w2.alloc a)) := fun a => HB5.out.alloc hl2 a
        refine r1R 10 (fun K hK => ?_)
        go_simp
        skip
        refine oR hK ?_ (fun hHeld => ?_)
        ·try dsimp only
         go_keep
        clear hK K
        refine tkR 11 ?_
        refine wpAnyH_done (by kernel_rfl) ?_ _
        go_wp2_with fail
        go_meet
        exact ⟨_, p1, e1, p2, e2, rfl, rfl, HBz.out _, Bx.new _ _ _, (HL.out.1.below (below_all _ _) (Nat.le_refl _)).mono (Nat.le_refl _), by omega, by have := HLz.out.1; omega, by have := HLz.out.2; omega, hpp.1, hpp.2⟩
       refine c1R (fun K hK => ?_) ?_
       ·go_simp
        skip
        refine oR hK ?_ (fun hHeld => ?_)
        ·try dsimp only
         go_keep
        clear hK K
        have HWa : Hid (∀ a, Below wr.heap.size wr (wr.drew.alloc a)) := fun a => (Below.refl _ wr).drew.alloc (Nat.le_refl _) a
        refine r1R 5 (fun K hK => ?_)
        go_simp
        go_at_call 83; go_must (refine Calls.mono (HC.out _ (HWa.out _)) ?_); rintro e w2 ⟨⟨p1, e1, p2, e2, rfl, HL⟩, hb⟩; have HLz := Lib.hid (HL.out.1.lts); have hpp := HL.out.2; have hpd : ∀ W : World, W.drew.heap.size = W.heap.size := (fun _ => rfl); simp only [World.size_alloc, hpd] at hpp; clear hpd; have HB5 : Hid (Below wr.heap.size wr w2) := (HWa.out _).trans (hb.mono (by simp [World.drew])); have HX2 : Hid (Bx w2 wr.heap.size 31 #[.slice none 0 0, .slice none 0 0]) := (Bx.new wr.drew _ _).below hb (by simp); have hl2 : wr.heap.size + 1 ≤ w2.heap.size := (by have := hb.size; simpa using this); obtain ⟨s1, s2, s3, s4⟩ := HSC.out _ HB5.out; clear hb a1 a2 a3 a4
        refine oR hK ?_ (fun hHeld => ?_)
        ·try dsimp only
         go_keep
        clear hK K
        refine tkR 6 ?_
        refine tkR 7 ?_
        refine tkR 8 ?_
        have HSs : Hid (∀ u0 u1, Below wr.heap.size wr ((w2.setCell ⟨wr.heap.size, 0, none⟩ u0).setCell ⟨wr.heap.size, 1, none⟩ u1)) := fun u0 u1 => (HB5.out.setCell (p := ⟨wr.heap.size, 0, none⟩) (Nat.le_refl _) u0).setCell (p := ⟨wr.heap.size, 1, none⟩) (Nat.le_refl _) u1
        have hxc := HX2.out.cell
        have hxf := HX2.out.free
        refine r1R 10 (fun K hK => ?_)
        go_simp
        refine oR hK ?_ (fun hHeld => ?_)
        ·try dsimp only
         exact HSC.out _ (HSs.out _ _)
        clear hK K
        refine tkR 11 ?_
        refine wpAnyH_done (by kernel_rfl) ?_ _
        go_wp2_with fail
        go_meet
        exact ⟨_, p1, e1, p2, e2, rfl, rfl, HSs.out _ _, bx2 HX2.out _ _, ((HL.out.1.setOther (o := 0) (b := wr.heap.size) (fun g c n h => by cases h; omega) (fun g c n h => by cases h; omega) _).setOther (o := 1) (b := wr.heap.size) (fun g c n h => by cases h; omega) (fun g c n h => by cases h; omega) _).mono (by simp), Nat.le_refl _, by omega, by omega, by omega, by omega⟩
       exact AllReadyH.nil
      case rest =>
      obtain ⟨b8, p1, e1, p2, e2, rfl, rfl, hb8, hx8, hl, hz8, n1, n2, z1, z2⟩ := hcut
      have HB8 := Lib.hid hb8
      have HX8 := Lib.hid hx8
      have HZ8 := Lib.hid hl
      have hlz := hl.lts
      obtain ⟨hlz1, hlz2⟩ := hlz
      have HF8 := Lib.hid (HFV.out.below hb8)
      have HM8 := Lib.hid (HMV.out.below hb8)
      have hxc := hx8.cell
      have hxl := hx8.lt
      clear a1 a2 a3 a4 HC hb8 hx8 hl
      have hac := HF8.out.arg.cell
      have hvz : vldL (mvTo y z.1 z.2) = true := vld_mv HF.out.vl (spL_ok (by rw [spL_mvs HF.out.vl]; exact HZM.out))
      have HVZ := Lib.hid hvz
      have HLN : Hid (∀ W, Below wc.heap.size wc W → Calls Tryz.prog 81 #[.agg #[.slice (some ⟨p1, 0, none⟩) (mvTo y z.1 z.2).n e1, .slice (some ⟨p2, 0, none⟩) (mvTo y z.1 z.2).m e2]] W fun e w' => e = .returned (.int .i64 (lefS (mvTo y z.1 z.2) y.n)) ∧ Below W.heap.size W w') := fun W hW => by
       obtain ⟨g1', c1', g2', c2', q1, q2, o1, o2, _⟩ := HZ8.out
       cases q1
       cases q2
       exact specLineLeft_any p1 0 e1 p2 0 e2 (mvTo y z.1 z.2) W HVZ.out (BkC.of_own (o1.below hW o1.lt)) (IC.of_own (o2.below hW o2.lt))
      have HLO : Hid (∀ W, Below wc.heap.size wc W → Calls Tryz.prog 81 #[.agg #[.slice (some ⟨b, o, none⟩) y.n c, .slice (some ⟨b2, o2, none⟩) y.m c2]] W fun e w' => e = .returned (.int .i64 (lefS y y.n)) ∧ Below W.heap.size W w') := fun W hW => specLineLeft_any b o c b2 o2 c2 y W HF8.out.vl (HF8.out.bk.keep hW) (HF8.out.ic.keep hW)
      have HXC : Hid (∀ W, Below wc.heap.size wc W → W.cell? ⟨w.heap.size, 0, none⟩ = some (.slice (some ⟨b, o, none⟩) y.n c) ∧ W.cell? ⟨w.heap.size, 1, none⟩ = some (.slice (some ⟨b2, o2, none⟩) y.m c2) ∧ W.cell? ⟨b8, 0, none⟩ = some (.slice (some ⟨p1, 0, none⟩) (mvTo y z.1 z.2).n e1) ∧ W.cell? ⟨b8, 1, none⟩ = some (.slice (some ⟨p2, 0, none⟩) (mvTo y z.1 z.2).m e2)) := fun W hW => by
       have h1 := (HF8.out.below hW).arg
       have h2 := HX8.out.below hW HX8.out.lt
       exact ⟨h1.cell 0, h1.cell 1, h2.cell 0, h2.cell 1⟩
      clear hvz hxc hac
      obtain ⟨a1, a2, a3, a4⟩ := HXC.out _ (Below.refl _ _)
      go_wp2_with fail
      refine wp_region_held_drew (S := (fun w' => w'.cell? ⟨w.heap.size, 0, none⟩ = some (.slice (some ⟨b, o, none⟩) y.n c) ∧ w'.cell? ⟨w.heap.size, 1, none⟩ = some (.slice (some ⟨b2, o2, none⟩) y.m c2) ∧ w'.cell? ⟨b8, 0, none⟩ = some (.slice (some ⟨p1, 0, none⟩) (mvTo y z.1 z.2).n e1) ∧ w'.cell? ⟨b8, 1, none⟩ = some (.slice (some ⟨p2, 0, none⟩) (mvTo y z.1 z.2).m e2))) (by kernel_rfl) ?_ (fun hHeld => ?_)
      ·try dsimp only
       go_keep
      refine tkR 0 ?_
      refine tkR 2 ?_
      refine r1R 1 (fun K hK => ?_)
      go_simp
      go_at_call 81
      go_must (refine Calls.mono (HLN.out _ (Below.refl _ wc).drew) ?_)
      rintro e w5 ⟨rfl, hb5⟩
      have HB5 : Hid (Below wc.heap.size wc w5) := (Below.refl _ wc).drew.trans hb5
      obtain ⟨s1, s2, s3, s4⟩ := HXC.out _ HB5.out
      clear hb5 a1 a2 a3 a4
      refine oR hK ?_ (fun hHeld => ?_)
      ·try dsimp only
       go_keep
      clear hK K
      refine r1R 3 (fun K hK => ?_)
      go_simp
      go_at_call 81
      go_must (refine Calls.mono (HLO.out _ HB5.out) ?_)
      rintro e w6 ⟨rfl, hb6⟩
      have HB6 : Hid (Below wc.heap.size wc w6) := HB5.out.trans (hb6.mono HB5.out.size)
      obtain ⟨t1, t2, t3, t4⟩ := HXC.out _ HB6.out
      clear hb6 s1 s2 s3 s4
      refine oR hK ?_ (fun hHeld => ?_)
      ·try dsimp only
       go_keep
      clear hK K
      refine tkR 4 ?_
      refine wpAnyH_done (by kernel_rfl) ?_ _
      have HF6 := Lib.hid (HF8.out.below HB6.out)
      have HM6 := Lib.hid (HM8.out.below HB6.out)
      have hmc : w6.cell? ⟨bm, mo + i * 2, none⟩ = some (.int .i64 z.1) ∧ w6.cell? ⟨bm, mo + i * 2 + 1, none⟩ = some (.string z.2) := by
       have h := HM6.out.mv.at i hlt
       have e1 : mvM ms i = z.1 := by unfold mvM; rw [HZ.out]; rfl
       have e2 : mvS ms i = z.2 := by unfold mvS; rw [HZ.out]; rfl
       rw [e1, e2] at h
       exact h
      obtain ⟨m1, m2⟩ := hmc
      have HOK : Hid (mvOk y z.1 z.2 = true) := spL_ok (by rw [spL_mvs HF6.out.vl]; exact HZM.out)
      by_cases hle : lefS (mvTo y z.1 z.2) y.n < lefS y y.n
      ·have HNY : Hid (nrB y z = true) := by show _ = _; unfold nrB; rw [HOK.out, decide_eq_true hle]; rfl
       have HNR : Hid (nearM y = some z) := by
        refine near_first (pre := ms.take i) ?_ HNO.out HNY.out
        rw [← HTK.out, ← HMS.out]
        exact List.take_prefix _ _
       have HX6 : Hid (Bx w6 b8 31 #[.slice (some ⟨p1, 0, none⟩) (mvTo y z.1 z.2).n e1, .slice (some ⟨p2, 0, none⟩) (mvTo y z.1 z.2).m e2]) := HX8.out.below HB6.out HX8.out.lt
       have HZ6 : Hid (LnZ wr.heap.size w6 (.slice (some ⟨p1, 0, none⟩) (mvTo y z.1 z.2).n e1) (.slice (some ⟨p2, 0, none⟩) (mvTo y z.1 z.2).m e2) (mvTo y z.1 z.2)) := HZ8.out.below HB6.out (Nat.le_refl _)
       have hgl : g < wr.heap.size := Own.lt HFV.out.ow
       have hgw : w.heap.size < g := HFV.out.gz
       have HO4 : Hid (Own w6 g cap pre.length 2 94 (mvF (mvM (pre ++ [z])) (mvS (pre ++ [z])))) := OwnMs.ext HF6.out.ow _
       have HNW := Lib.hid (mvF_new pre z)
       have hz6 := HB6.out.size
       have hzc := HB8.out.size
       have hlt9 : p1 < w6.heap.size ∧ p2 < w6.heap.size ∧ b8 < w6.heap.size := ⟨by omega, by omega, by omega⟩
       go_wp2_with (at_builtin; refine wpList_push elMvL rfl (.tmp 39) (.tmp 44) rfl HO4.out rfl [.int .i64 z.1, .string z.2] (by show Value.slice _ 1 1 = _; simp) HNW.out (fun _ _ => mvF_one _ _ _) (by unfold maxLen; omega) (by omega) ?_; intro g' c' wa HA' hgr' hd'; have HA9 : Hid (Bx wa w.heap.size 31 #[.slice (some ⟨b, o, none⟩) y.n c, .slice (some ⟨b2, o2, none⟩) y.m c2]) := HF6.out.arg.kept hgr' (by omega); have HX9 : Hid (Bx wa b8 31 #[.slice (some ⟨p1, 0, none⟩) (mvTo y z.1 z.2).n e1, .slice (some ⟨p2, 0, none⟩) (mvTo y z.1 z.2).m e2]) := HX6.out.kept hgr' (by omega); have HAH := Lib.hid HA'; have HGR := Lib.hid hgr'; have HD := Lib.hid hd'; have a9 := HA9.out.cell; have f9 := HA9.out.free; have x9 := HX9.out.cell; clear HA' hgr' hd' m1 m2 t1 t2 t3 t4)
       have HA := HAH.out
       have hgr := HGR.out
       have hd := HD.out
       have hza := hgr.size
       have HB9 : Hid (Below w.heap.size w wa) := HF6.out.bl.trans (below_of_grown hgr (by omega) HF6.out.bl.size)
       have hgg : w.heap.size < g' := by
        rcases hd with ⟨h, _⟩ | h
        ·omega
        ·omega
       have HI9 : Hid (FsI w ((wa.setCell ⟨w.heap.size, 0, none⟩ (.slice (some ⟨p1, 0, none⟩) (mvTo y z.1 z.2).n e1)).setCell ⟨w.heap.size, 1, none⟩ (.slice (some ⟨p2, 0, none⟩) (mvTo y z.1 z.2).m e2)) p1 0 e1 p2 0 e2 g' c' x (mvTo y z.1 z.2) (pre ++ [z])) := by
        obtain ⟨g1', c1', g2', c2', q1, q2, o1, o2, _⟩ := HZ6.out
        cases q1
        cases q2
        have o1' := o1.kept (row := some g) hgr (by simp; omega)
        have o2' := o2.kept (row := some g) hgr (by simp; omega)
        refine ⟨bx2 HA9.out _ _, ((BkC.of_own o1').setOther (by dsimp only; omega) _).setOther (by dsimp only; omega) _, ((IC.of_own o2').setOther (by dsimp only; omega) _).setOther (by dsimp only; omega) _, by simp; omega, by simp; omega, by omega, by omega, ?_, hgg, HVZ.out, ?_, ?_, (HB9.out.setCell (p := ⟨w.heap.size, 0, none⟩) (Nat.le_refl _) _).setCell (p := ⟨w.heap.size, 1, none⟩) (Nat.le_refl _) _⟩
        ·show Own _ _ _ _ _ _ _
         rw [List.length_append]
         exact (Own.setOther HA (by dsimp only; omega) _).setOther (by dsimp only; omega) _
        ·rw [← HF6.out.fx, finX_step HL0.out HNR.out, List.append_assoc]
         rfl
        ·have h1 := (near_less HNR.out).2
         have h2 := HF6.out.ln
         rw [List.length_append]
         simp only [List.length_cons, List.length_nil]
         omega
       clear HA hgr hd a9 f9 x9
       go_roundw
       case rel => exact ⟨p1, 0, e1, p2, 0, e2, g', c', mvTo y z.1 z.2, pre ++ [z], by simp, HI9⟩
       case measure => simp [slLen]; omega
      ·have HNN : Hid (nrB y z = false) := by show _ = _; unfold nrB; rw [decide_eq_false hle]; simp
       go_wp2_with fail
       go_roundw
       case rel => exact ⟨i + 1, by omega, by go_num, rfl, (fun z' hz' => by
        rw [HTK.out] at hz'
        rcases List.mem_append.1 hz' with h | h
        ·exact HNO.out z' h
        ·rw [List.mem_singleton.1 h]; exact HNN.out), HBV.out.trans ((HB8.out.trans (HB6.out.mono HB8.out.size)).mono HBV.out.size)⟩
       case measure => simp [intOf]; omega
     ·exfalso
      obtain rfl : i = ms.length := by omega
      obtain ⟨z, hz, ho, hl⟩ := near_ex HF3.out.vl HL0.out
      have h1 := HNO.out z (by rw [List.take_length, HMS.out]; exact hz)
      unfold nrB at h1
      rw [ho, decide_eq_true hl] at h1
      cases h1
   ·have HFX : Hid (pre = fnL x) := by
     show _ = _
     rw [HVX.out, ← HF.out.fx, finX_done h0, List.append_nil]
    go_wp2_with fail
    refine HLR.out.mono ?_
    rintro e w2 ⟨rfl, hb2⟩
    have HF2 := Lib.hid (HF.out.below hb2)
    clear hb2
    go_wp2_with fail
    refine bodyPost_ret (v := .tuple #[.slice (some ⟨g, 0, none⟩) pre.length cap, .bool true]) (by simp [results, Tryz.results61, go_sem]) rfl ?_
    exact ⟨⟨_, g, by first | rfl | rw [HV.out], .inl ⟨g, cap, rfl, by rw [← HFX.out], by have := HF2.out.gz; omega, by rw [← HFX.out]; exact HF2.out.ow⟩⟩, HF2.out.bl⟩
end Go.Proofs.YtlkdmpfifpkpaaaGreatDoor

