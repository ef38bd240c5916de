/-
  Parts of the proof of fnExecuteFit_proved: Yb Yc Yd Pd Pg B. No condition.
-/
import Derived.Test.YtlkdmpfifpkpaaaGreatDoorChecked
import Derived.Laws.BitsAllLaws
import Derived.Deep.RegionWith
import Derived.Deep.DeepCutAuto
import Derived.WalkKit
import Derived.WalkSpells
import Derived.WalkLawsBesides
import Derived.Lib.Hide
import Derived.BigQuiet
import Derived.Deep.QuietTactic
import Derived.Deep.RegionHeld3
import Derived.Deep.DeepFit
import Derived.Deep.DrawnRows
import Derived.StillTailTactics
import Derived.Test.YtlkdmpfifpkpaaaGreatDoorU01
namespace Go.Proofs.YtlkdmpfifpkpaaaGreatDoor
open Go.RowKit

set_option maxRecDepth 100000 in
set_option maxHeartbeats 2000000 in
theorem pathClash_none (p q : Pt) (n : Nat) (bi ci bo co di ei do' eo : Nat) (w : World) (hp : ptOk p n = true) (hq : ptOk q n = true) (hpI : IC w bi 0 p.ni p.I) (hpO : IC w bo 0 p.no p.O) (hqI : IC w di 0 q.ni q.I) (hqO : IC w do' 0 q.no q.O) (hc : ∀ k, k < n → clB p q k = false) :
    Calls Tryz.prog 177 #[.int .i64 n, .agg #[.slice (some ⟨bi, 0, none⟩) p.ni ci, .slice (some ⟨bo, 0, none⟩) p.no co], .agg #[.slice (some ⟨di, 0, none⟩) q.ni ei, .slice (some ⟨do', 0, none⟩) q.no eo]] w fun e w' => (∃ g c, e = .returned (.slice (some ⟨g, 0, none⟩) 0 c)) ∧ Below w.heap.size w w' := by
  have HOP := Lib.hid hp
  have HOQ := Lib.hid hq
  obtain ⟨hn, p1, p2, _⟩ := ptOk_parts hp
  obtain ⟨_, q1, q2, _⟩ := ptOk_parts hq
  have HCL := Lib.hid hc
  have HPB : Hid (∀ o, PtB ((w.alloc (.cells #[.slice (some ⟨bi, 0, none⟩) p.ni ci, .slice (some ⟨bo, 0, none⟩) p.no co] 41)).alloc o) w.heap.size p bi 0 ci bo 0 co) := fun o => (PtV.box hpI hpO).keep (below_all _ _)
  have HQB : Hid (PtB ((w.alloc (.cells #[.slice (some ⟨bi, 0, none⟩) p.ni ci, .slice (some ⟨bo, 0, none⟩) p.no co] 41)).alloc (.cells #[.slice (some ⟨di, 0, none⟩) q.ni ei, .slice (some ⟨do', 0, none⟩) q.no eo] 41)) (w.heap.size + 1) q di 0 ei do' 0 eo) := by
    show PtB _ _ _ _ _ _ _ _ _
    have h := PtV.box (t := 41) (ci := ei) (co := eo) (hqI.keep (below_all w (.cells #[.slice (some ⟨bi, 0, none⟩) p.ni ci, .slice (some ⟨bo, 0, none⟩) p.no co] 41))) (hqO.keep (below_all _ _))
    simpa using h
  have HB0 : Hid (Below w.heap.size w ((w.alloc (.cells #[.slice (some ⟨bi, 0, none⟩) p.ni ci, .slice (some ⟨bo, 0, none⟩) p.no co] 41)).alloc (.cells #[.slice (some ⟨di, 0, none⟩) q.ni ei, .slice (some ⟨do', 0, none⟩) q.no eo] 41))) := (below_all _ _).alloc (by simp) _
  have hmk := fun w => run_mk0 elInt n (by omega) (by omega) w
  clear hp hq hpI hpO hqI hqO hc
  go_enter Tryz.func177, Tryz.ntmps177
  go_wp2_with fail
  have HP1 := Lib.hid (HPB.out (.cells #[.slice (some ⟨di, 0, none⟩) q.ni ei, .slice (some ⟨do', 0, none⟩) q.no eo] 41))
  generalize (w.alloc (.cells #[.slice (some ⟨bi, 0, none⟩) p.ni ci, .slice (some ⟨bo, 0, none⟩) p.no co] 41)).alloc (.cells #[.slice (some ⟨di, 0, none⟩) q.ni ei, .slice (some ⟨do', 0, none⟩) q.no eo] 41) = w1 at *
  refine (validA_ok w.heap.size 0 p n bi ci bo co _ ⟨HP1.out.c0, HP1.out.c1, HP1.out.I, HP1.out.O⟩ HOP.out).mono ?_
  rintro e w2 ⟨rfl, hd2⟩
  have HB2 : Hid (Below w1.heap.size w1 w2) := below_dr hd2 _
  have HQ2 := Lib.hid (HQB.out.keep HB2.out)
  have HP2 := Lib.hid (HP1.out.keep HB2.out)
  clear hd2
  go_wp2_with fail
  refine (validA_ok (w.heap.size + 1) 0 q n di ei do' eo _ ⟨HQ2.out.c0, HQ2.out.c1, HQ2.out.I, HQ2.out.O⟩ HOQ.out).mono ?_
  rintro e w3 ⟨rfl, hd3⟩
  have HB3 : Hid (Below w2.heap.size w2 w3) := below_dr hd3 _
  have HQ3 := Lib.hid (HQ2.out.keep HB3.out)
  have HP3 := Lib.hid (HP2.out.keep HB3.out)
  have hb1s := HB0.out.size
  have HBW := Lib.hid (HB0.out.trans ((HB2.out.trans (HB3.out.mono HB2.out.size)).mono hb1s))
  clear hd3
  go_wp2_with fail
  have HB4 : Hid (Below w3.heap.size w3 (w3.alloc (.cells (madeCells #[.int .i64 0] (n * 1)) 3))) := below_all _ _
  go_loopw [7, 8, 21] (fun o _ i wr => ∃ k c : Nat, k ≤ n ∧ i = .int .i64 k ∧ o = .slice (some ⟨w3.heap.size, 0, none⟩) 0 c ∧ Hid (Below w3.heap.size w3 wr)) (fun _ _ i _ => n - (intOf i).toNat)
  case atStart => exact ⟨0, n, Nat.zero_le _, rfl, rfl, by simpa using HB4⟩
  case round =>
    obtain ⟨k, cc, hk, rfl, rfl, HB⟩ := hrel
    by_cases hlt : k < n
    · have hki : (k : Int) < (n : Int) := by omega
      have HCK := Lib.hid (HCL.out k hlt)
      have HPk := Lib.hid (HP3.out.keep HB.out)
      have HQk := Lib.hid (HQ3.out.keep HB.out)
      go_wp2_with fail
      refine (clashes_any w.heap.size (w.heap.size + 1) p q k _ _ _ _ _ _ _ _ _ _ _ _ _ HPk.out HQk.out (by omega) (by omega) (by omega) (by omega)).mono ?_
      rintro e w5 ⟨rfl, hd5⟩
      have HB5 : Hid (Below w3.heap.size w3 w5) := HB.out.trans (below_dr hd5 _)
      rw [HCK.out]
      clear hd5
      go_wp2_with fail
      go_roundw
      case rel => exact ⟨k + 1, cc, by omega, by go_num, rfl, HB5⟩
      case measure => simp [intOf]; omega
    · obtain rfl : k = n := by omega
      go_wp2_with fail
      go_ret
      exact ⟨⟨_, _, rfl⟩, HBW.out.trans (HB.out.mono HBW.out.size)⟩
/-- a list of paths by index -/
def pA (ps : List Pt) (i : Nat) : Pt := ps[i]?.getD ⟨fun _ => 0, 0, fun _ => 0, 0⟩
/-- paths over n sections without a clash -/
structure PsOk (n : Nat) (ps : List Pt) : Prop where
  n1 : 1 ≤ n
  n5 : n ≤ 5
  len : ps.length ≤ 8
  ok : ∀ i, i < ps.length → ptOk (pA ps i) n = true
  nc : ∀ i j k, i < ps.length → j < i → k < n → clB (pA ps j) (pA ps i) k = false
/-- a row of paths -/
def PsV (w : World) (ao : Option Addr) (ps : List Pt) : Prop := ∀ k, k < ps.length → ∃ b bi ci bo co, ao = some ⟨b, 0, none⟩ ∧ PtA w b (k * 2) (pA ps k) bi ci bo co
theorem PsV.keep {w w' : World} {ao : Option Addr} {ps : List Pt} (h : PsV w ao ps) (hb : Below w.heap.size w w') : PsV w' ao ps := fun k hk => by
  obtain ⟨b, bi, ci, bo, co, e, h1⟩ := h k hk
  exact ⟨b, bi, ci, bo, co, e, h1.keep hb⟩
/-- a path's cells at any later world -/
theorem PtA.s {w : World} {b o : Nat} {p : Pt} {bi ci bo co : Nat} (h : PtA w b o p bi ci bo co) : ∀ W, Below w.heap.size w W → W.cell? ⟨b, o, none⟩ = some (.slice (some ⟨bi, 0, none⟩) p.ni ci) ∧ W.cell? ⟨b, o + 1, none⟩ = some (.slice (some ⟨bo, 0, none⟩) p.no co) := fun _ hb => ⟨(h.keep hb).c0, (h.keep hb).c1⟩
set_option linter.unusedSimpArgs false in
set_option maxRecDepth 100000 in
set_option maxHeartbeats 4000000 in
theorem pathsValid_ok (ao : Option Addr) (c n : Nat) (ps : List Pt) (w : World) (hk : PsOk n ps) (hv : PsV w ao ps) :
    Calls Tryz.prog 170 #[.int .i64 n, .slice ao ps.length c] w fun e w' => e = .returned (.bool true) ∧ Below w.heap.size w w' := by
  have HN := hk.n1
  have HN5 := hk.n5
  have hlen := hk.len
  have hleni : ¬ (8 : Int) < (ps.length : Int) := by omega
  have HI : Hid (inB (n : Int) 1 5 = true) := inB_true.2 (by omega)
  have HK := Lib.hid hk
  have HV := Lib.hid hv
  have HB0 : Hid (Below w.heap.size w w) := Below.refl _ _
  clear hk hv
  go_enter Tryz.func170, Tryz.ntmps170
  go_wp2_with fail
  refine (sectionsValidP_any n _ (by omega)).mono ?_
  rintro e w' ⟨rfl, rfl⟩
  rw [HI.out]
  go_wp2_with fail
  go_loopw [5, 6, 17] (fun _ _ i wr => ∃ k : Nat, k ≤ ps.length ∧ i = .int .i64 k ∧ Hid (Below w.heap.size w wr)) (fun _ _ i _ => ps.length - (intOf i).toNat)
  case atStart => exact ⟨0, Nat.zero_le _, rfl, HB0⟩
  case round =>
    obtain ⟨i, hi, rfl, HB⟩ := hrel
    by_cases hlt : i < ps.length
    · have hii : (i : Int) < (ps.length : Int) := by omega
      obtain ⟨b, bi, ci, bo, co, rfl, h1⟩ := HV.out i hlt
      have HP := Lib.hid h1
      have HPi := Lib.hid (h1.keep HB.out)
      have HOK := Lib.hid (HK.out.ok i hlt)
      clear h1
      go_wp2_with fail
      refine (validA_ok b (i * 2) (pA ps i) n bi ci bo co _ HPi.out HOK.out).mono ?_
      rintro e w2 ⟨rfl, hd2⟩
      have HB2 := Lib.hid (HB.out.trans (below_dr hd2 _))
      clear hd2
      go_wp2_with fail
      go_loopw [6, 27] (fun _ q wr => ∃ j : Nat, j ≤ i ∧ q = .int .i64 j ∧ Hid (Below w.heap.size w wr)) (fun _ q _ => i - (intOf q).toNat)
      case atStart => exact ⟨0, Nat.zero_le _, rfl, HB2⟩
      case round =>
        obtain ⟨j, hj, rfl, HBJ⟩ := hrel
        by_cases hjt : j < i
        · have hjj : (j : Int) < (i : Int) := by omega
          have hjl : (j : Int) < (ps.length : Int) := by omega
          obtain ⟨b', bi', ci', bo', co', e, h1⟩ := HV.out j (by omega)
          cases e
          have HPJ := Lib.hid (h1.keep HBJ.out)
          have HPI := Lib.hid (HP.out.keep HBJ.out)
          have HOKJ := Lib.hid (HK.out.ok j (by omega))
          have HCL : Hid (∀ k, k < n → clB (pA ps j) (pA ps i) k = false) := fun k hk => HK.out.nc i j k hlt hjt hk
          have HBd : Hid (Below wr.heap.size wr wr.drew) := (Below.refl _ _).drew
          clear h1
          generalize pA ps i = p at *
          generalize pA ps j = q at *
          have HSS : Hid (∀ W, Below wr.heap.size wr W → (W.cell? ⟨b, j * 2, none⟩ = some (.slice (some ⟨bi', 0, none⟩) q.ni ci') ∧ W.cell? ⟨b, j * 2 + 1, none⟩ = some (.slice (some ⟨bo', 0, none⟩) q.no co')) ∧ W.cell? ⟨b, i * 2, none⟩ = some (.slice (some ⟨bi, 0, none⟩) p.ni ci) ∧ W.cell? ⟨b, i * 2 + 1, none⟩ = some (.slice (some ⟨bo, 0, none⟩) p.no co)) := fun W h => ⟨HPJ.out.s W h, HPI.out.s W h⟩
          go_wp2_with fail
          refine wp_region_held_drew (S := fun W => (W.cell? ⟨b, j * 2, none⟩ = some (.slice (some ⟨bi', 0, none⟩) q.ni ci') ∧ W.cell? ⟨b, j * 2 + 1, none⟩ = some (.slice (some ⟨bo', 0, none⟩) q.no co')) ∧ W.cell? ⟨b, i * 2, none⟩ = some (.slice (some ⟨bi, 0, none⟩) p.ni ci) ∧ W.cell? ⟨b, i * 2 + 1, none⟩ = some (.slice (some ⟨bo, 0, none⟩) p.no co)) (by kernel_rfl) (HSS.out _ HBd.out) (fun hHeld => ?_)
          refine wpAnyH_take (i := 0) (oi := ?_) (v := ?_) ?_ (by kernel_rfl) (by kernel_rfl) (by kernel_rfl) ?_ ?_ (by assumption) ?_
          rotate_left 2
          · simp only [List.getElem?_toArray, List.getElem?_cons_succ, List.getElem?_cons_zero]; rfl
          · exact fun _ _ _ h => h
          · first
              | (refine Or.inr ⟨?_, ?_⟩ <;> rfl)
              | (refine Or.inl ⟨?_, ?_⟩; · rfl
                 intro w hSw; (try dsimp only at hSw); go_simp; (try with_reducible rfl); done)
          try simp only [Act.put, List.setIfInBounds_toArray, List.set_cons_zero, List.set_cons_succ]
          refine wpAnyH_take (i := 1) (oi := ?_) (v := ?_) ?_ (by kernel_rfl) (by kernel_rfl) (by kernel_rfl) ?_ ?_ (by assumption) ?_
          rotate_left 2
          · simp only [List.getElem?_toArray, List.getElem?_cons_succ, List.getElem?_cons_zero]; rfl
          · exact fun _ _ _ h => h
          · first
              | (refine Or.inr ⟨?_, ?_⟩ <;> rfl)
              | (refine Or.inl ⟨?_, ?_⟩; · rfl
                 intro w hSw; (try dsimp only at hSw); go_simp; (try with_reducible rfl); done)
          try simp only [Act.put, List.setIfInBounds_toArray, List.set_cons_zero, List.set_cons_succ]
          refine wpAnyH_take (i := 2) (oi := ?_) (v := ?_) ?_ (by kernel_rfl) (by kernel_rfl) (by kernel_rfl) ?_ ?_ (by assumption) ?_
          rotate_left 2
          · simp only [List.getElem?_toArray, List.getElem?_cons_succ, List.getElem?_cons_zero]; rfl
          · exact fun _ _ _ h => h
          · first
              | (refine Or.inr ⟨?_, ?_⟩ <;> rfl)
              | (refine Or.inl ⟨?_, ?_⟩; · rfl
                 intro w hSw; (try dsimp only at hSw); go_simp; (try with_reducible rfl); done)
          try simp only [Act.put, List.setIfInBounds_toArray, List.set_cons_zero, List.set_cons_succ]
          refine wpAnyH_take (i := 3) (oi := ?_) (v := ?_) ?_ (by kernel_rfl) (by kernel_rfl) (by kernel_rfl) ?_ ?_ (by assumption) ?_
          rotate_left 2
          · simp only [List.getElem?_toArray, List.getElem?_cons_succ, List.getElem?_cons_zero]; rfl
          · exact fun _ _ _ h => h
          · first
              | (refine Or.inr ⟨?_, ?_⟩ <;> rfl)
              | (refine Or.inl ⟨?_, ?_⟩; · rfl
                 intro w hSw; (try dsimp only at hSw); go_simp; (try with_reducible rfl); done)
          try simp only [Act.put, List.setIfInBounds_toArray, List.set_cons_zero, List.set_cons_succ]
          refine wpAnyH_take (i := 4) (oi := ?_) (v := ?_) ?_ (by kernel_rfl) (by kernel_rfl) (by kernel_rfl) ?_ ?_ (by assumption) ?_
          rotate_left 2
          · simp only [List.getElem?_toArray, List.getElem?_cons_succ, List.getElem?_cons_zero]; rfl
          · exact fun _ _ _ h => h
          · first
              | (refine Or.inr ⟨?_, ?_⟩ <;> rfl)
              | (refine Or.inl ⟨?_, ?_⟩; · rfl
                 intro w hSw; (try dsimp only at hSw); go_simp; (try with_reducible rfl); done)
          try simp only [Act.put, List.setIfInBounds_toArray, List.set_cons_zero, List.set_cons_succ]
          refine wpAnyH_take (i := 5) (oi := ?_) (v := ?_) ?_ (by kernel_rfl) (by kernel_rfl) (by kernel_rfl) ?_ ?_ (by assumption) ?_
          rotate_left 2
          · simp only [List.getElem?_toArray, List.getElem?_cons_succ, List.getElem?_cons_zero]; rfl
          · exact fun _ _ _ h => h
          · first
              | (refine Or.inr ⟨?_, ?_⟩ <;> rfl)
              | (refine Or.inl ⟨?_, ?_⟩; · rfl
                 intro w hSw; (try dsimp only at hSw); go_simp; (try with_reducible rfl); done)
          try simp only [Act.put, List.setIfInBounds_toArray, List.set_cons_zero, List.set_cons_succ]
          refine wpAnyH_take (i := 6) (oi := ?_) (v := ?_) ?_ (by kernel_rfl) (by kernel_rfl) (by kernel_rfl) ?_ ?_ (by assumption) ?_
          rotate_left 2
          · simp only [List.getElem?_toArray, List.getElem?_cons_succ, List.getElem?_cons_zero]; rfl
          · exact fun _ _ _ h => h
          · first
              | (refine Or.inr ⟨?_, ?_⟩ <;> rfl)
              | (refine Or.inl ⟨?_, ?_⟩; · rfl
                 intro w hSw; (try dsimp only at hSw); go_simp; (try with_reducible rfl); done)
          try simp only [Act.put, List.setIfInBounds_toArray, List.set_cons_zero, List.set_cons_succ]
          refine wpAnyH_take (i := 7) (oi := ?_) (v := ?_) ?_ (by kernel_rfl) (by kernel_rfl) (by kernel_rfl) ?_ ?_ (by assumption) ?_
          rotate_left 2
          · simp only [List.getElem?_toArray, List.getElem?_cons_succ, List.getElem?_cons_zero]; rfl
          · exact fun _ _ _ h => h
          · first
              | (refine Or.inr ⟨?_, ?_⟩ <;> rfl)
              | (refine Or.inl ⟨?_, ?_⟩; · rfl
                 intro w hSw; (try dsimp only at hSw); go_simp; (try with_reducible rfl); done)
          try simp only [Act.put, List.setIfInBounds_toArray, List.set_cons_zero, List.set_cons_succ]
          refine wpAnyH_take (i := 8) (oi := ?_) (v := ?_) ?_ (by kernel_rfl) (by kernel_rfl) (by kernel_rfl) ?_ ?_ (by assumption) ?_
          rotate_left 2
          · simp only [List.getElem?_toArray, List.getElem?_cons_succ, List.getElem?_cons_zero]; rfl
          · exact fun _ _ _ h => h
          · first
              | (refine Or.inr ⟨?_, ?_⟩ <;> rfl)
              | (refine Or.inl ⟨?_, ?_⟩; · rfl
                 intro w hSw; (try dsimp only at hSw); go_simp; (try with_reducible rfl); done)
          try simp only [Act.put, List.setIfInBounds_toArray, List.set_cons_zero, List.set_cons_succ]
          refine wpAnyH_ready (rs := [9]) (by kernel_rfl) (by simp) ?_
          refine AllReadyH.cons (o := ?_) ?_ (fun K hK => ?_) AllReadyH.nil
          rotate_left 1
          · simp only [List.getElem?_toArray, List.getElem?_cons_succ, List.getElem?_cons_zero]; rfl
          go_simp
          go_at_call 177
          go_must (refine Calls.mono (pathClash_none q p n bi' ci' bo' co' bi ci bo co _ HOKJ.out HOK.out (HPJ.out.keep HBd.out).I (HPJ.out.keep HBd.out).O (HPI.out.keep HBd.out).I (HPI.out.keep HBd.out).O HCL.out) ?_)
          rintro e w5 ⟨⟨gx, cx, rfl⟩, hb5⟩
          have HB5 := Lib.hid (HBd.out.trans (hb5.mono HBd.out.size))
          clear hb5
          refine hK.out _ _ ?_ (fun hHeld => ?_)
          · try dsimp only
            exact HSS.out _ HB5.out
          clear hK K
          try simp only [Act.put, List.setIfInBounds_toArray, List.set_cons_zero, List.set_cons_succ]
          refine wpAnyH_take (i := 10) (oi := ?_) (v := ?_) ?_ (by kernel_rfl) (by kernel_rfl) (by kernel_rfl) ?_ ?_ (by assumption) ?_
          rotate_left 2
          · simp only [List.getElem?_toArray, List.getElem?_cons_succ, List.getElem?_cons_zero]; rfl
          · exact fun _ _ _ h => h
          · first
              | (refine Or.inr ⟨?_, ?_⟩ <;> rfl)
              | (refine Or.inl ⟨?_, ?_⟩; · rfl
                 intro w hSw; (try dsimp only at hSw); go_simp; (try with_reducible rfl); done)
          try simp only [Act.put, List.setIfInBounds_toArray, List.set_cons_zero, List.set_cons_succ]
          refine wpAnyH_take (i := 11) (oi := ?_) (v := ?_) ?_ (by kernel_rfl) (by kernel_rfl) (by kernel_rfl) ?_ ?_ (by assumption) ?_
          rotate_left 2
          · simp only [List.getElem?_toArray, List.getElem?_cons_succ, List.getElem?_cons_zero]; rfl
          · exact fun _ _ _ h => h
          · first
              | (refine Or.inr ⟨?_, ?_⟩ <;> rfl)
              | (refine Or.inl ⟨?_, ?_⟩; · rfl
                 intro w hSw; (try dsimp only at hSw); go_simp; (try with_reducible rfl); done)
          try simp only [Act.put, List.setIfInBounds_toArray, List.set_cons_zero, List.set_cons_succ]
          refine wpAnyH_done (by kernel_rfl) ?_ _
          clear hHeld
          have HB6 := Lib.hid (HBJ.out.trans (HB5.out.mono HBJ.out.size))
          go_wp2_with fail
          go_roundw
          case rel => exact ⟨j + 1, by omega, by go_num, HB6⟩
          case measure => simp [intOf]; omega
        · obtain rfl : j = i := by omega
          go_wp2_with fail
          go_roundw
          case rel => exact ⟨j + 1, by omega, by go_num, HBJ⟩
          case measure => simp [intOf]; omega
    · obtain rfl : i = ps.length := by omega
      go_wp2_with fail
      go_ret
      exact ⟨rfl, HB.out⟩
set_option maxRecDepth 100000 in
theorem hasSection_ok (ao : Option Addr) (c n : Nat) (k : Int) (ps : List Pt) (w : World) (hk : PsOk n ps) (hv : PsV w ao ps) :
    Calls Tryz.prog 152 #[.int .i64 n, .slice ao ps.length c, .int .i64 k] w fun e w' => e = .returned (.bool (decide (0 ≤ k) && decide (k < n))) ∧ Below w.heap.size w w' := by
  have HPV := Lib.hid (pathsValid_ok ao c n ps w hk hv)
  clear hk hv
  by_cases h0 : 0 ≤ k
  · have e1 : decide (0 ≤ k) = true := decide_eq_true h0
    go_enter Tryz.func152, Tryz.ntmps152
    go_wp2_with fail
    refine HPV.out.mono ?_
    rintro e w' ⟨rfl, hb⟩
    have HB := Lib.hid hb
    clear hb
    go_wp2_with fail
    go_ret
    exact ⟨by rw [e1]; rfl, HB.out⟩
  · have e1 : decide (0 ≤ k) = false := decide_eq_false h0
    go_enter Tryz.func152, Tryz.ntmps152
    go_wp2_with fail
    refine HPV.out.mono ?_
    rintro e w' ⟨rfl, hb⟩
    have HB := Lib.hid hb
    clear hb
    go_wp2_with fail
    go_ret
    exact ⟨by rw [e1]; rfl, HB.out⟩
end Go.Proofs.YtlkdmpfifpkpaaaGreatDoor
namespace Go.Proofs.YtlkdmpfifpkpaaaGreatDoor
open Go.RowKit

/-- a path in the way of a train -/
def frK (p : Pt) (k : Nat) (t r : Int) : Bool := decide (t < p.O k) && decide (p.I k < t + r)
def frB (ps : List Pt) (k : Nat) (t r : Int) : Bool := allB ps.length (fun i => !frK (pA ps i) k t r)
/-- the least free time, looked for so many minutes -/
def frG (ps : List Pt) (k : Nat) (r : Int) : Nat → Int → Option Int
  | 0, _ => none
  | f + 1, t => if t ≤ 2000 - r then (if frB ps k t r = true then some t else frG ps k r f (t + 1)) else none
def frO (ps : List Pt) (k : Nat) (t r : Int) : Option Int := frG ps k r (2001 - t).toNat t
theorem frO_late {ps : List Pt} {k : Nat} {t r : Int} (h : ¬ t ≤ 2000 - r) : frO ps k t r = none := by
  unfold frO
  cases (2001 - t).toNat with
  | zero => rfl
  | succ f => unfold frG; rw [if_neg h]
theorem frO_here {ps : List Pt} {k : Nat} {t r : Int} (h0 : 0 ≤ r) (h : t ≤ 2000 - r) (hf : frB ps k t r = true) : frO ps k t r = some t := by
  unfold frO
  obtain ⟨f, e⟩ : ∃ f, (2001 - t).toNat = f + 1 := ⟨(2001 - t).toNat - 1, by omega⟩
  rw [e]
  unfold frG
  rw [if_pos h, if_pos hf]
theorem frO_next {ps : List Pt} {k : Nat} {t r : Int} (h0 : 0 ≤ r) (h : t ≤ 2000 - r) (hf : frB ps k t r = false) : frO ps k t r = frO ps k (t + 1) r := by
  unfold frO
  obtain ⟨f, e⟩ : ∃ f, (2001 - t).toNat = f + 1 := ⟨(2001 - t).toNat - 1, by omega⟩
  rw [e, show (2001 - (t + 1)).toNat = f by omega]
  conv => lhs; unfold frG
  rw [if_pos h, hf]
  rfl
theorem frO_some {ps : List Pt} {k : Nat} {r : Int} : ∀ (f : Nat) (t u : Int), frG ps k r f t = some u → t ≤ u ∧ u ≤ 2000 - r ∧ frB ps k u r = true
  | 0, _, _, h => by cases h
  | f + 1, t, u, h => by
    unfold frG at h
    split at h
    · split at h
      · rename_i h1 h2
        cases h
        exact ⟨Int.le_refl _, h1, h2⟩
      · have := frO_some f (t + 1) u h
        exact ⟨by omega, this.2⟩
    · cases h
theorem frO_bd {ps : List Pt} {k : Nat} {t r u : Int} (h : frO ps k t r = some u) : t ≤ u ∧ u ≤ 2000 - r ∧ frB ps k u r = true := frO_some _ _ _ h
set_option linter.unusedSimpArgs false in
set_option maxRecDepth 100000 in
set_option maxHeartbeats 4000000 in
theorem freeFn_any (b1 b2 b3 : Nat) (ao : Option Addr) (c n k : Nat) (t r : Int) (ps : List Pt) (w : World) (hk : PsOk n ps) (hkn : k < n) (hv : PsV w ao ps) (ht : 0 ≤ t ∧ t ≤ 2000) (hr : 0 ≤ r ∧ r ≤ 100)
    (h1 : w.cell? ⟨b1, 0, none⟩ = some (.slice ao ps.length c)) (h2 : w.cell? ⟨b2, 0, none⟩ = some (.int .i64 k)) (h3 : w.cell? ⟨b3, 0, none⟩ = some (.int .i64 r)) :
    Calls Tryz.prog 178 #[.int .i64 t, .pointer (some ⟨b1, 0, none⟩), .pointer (some ⟨b2, 0, none⟩), .pointer (some ⟨b3, 0, none⟩)] w fun e w' => e = .returned (.bool (frB ps k t r)) ∧ Dr w w' := by
  have HK := Lib.hid hk
  have HV := Lib.hid hv
  have hw : IntKind.i64.wrap (t + r) = t + r := IntWalk.i64_in _ (by omega)
  have hlen := hk.len
  clear hk hv
  go_enter Tryz.func178, Tryz.ntmps178
  go_wp2_with fail
  go_loopw [6, 9] (fun _ i wr => ∃ j : Nat, j ≤ ps.length ∧ i = .int .i64 j ∧ Hid (∀ q, q < j → frK (pA ps q) k t r = false) ∧ Dr w wr) (fun _ i _ => ps.length - (intOf i).toNat)
  case atStart => exact ⟨0, Nat.zero_le _, rfl, (fun q hq => by omega), Dr.refl _⟩
  case round =>
    obtain ⟨j, hj, rfl, HA, d, rfl⟩ := hrel
    by_cases hlt : j < ps.length
    · have hji : (j : Int) < (ps.length : Int) := by omega
      obtain ⟨b, bi, ci, bo, co, rfl, hp⟩ := HV.out j hlt
      obtain ⟨_, e1, e2, _⟩ := ptOk_parts (HK.out.ok j hlt)
      have c0 := hp.c0
      have c1 := hp.c1
      have cI := hp.I.at k (by omega)
      have cO := hp.O.at k (by omega)
      rw [Nat.zero_add] at cI cO
      have i1 : (k : Int) < ((pA ps j).ni : Int) := by omega
      have i2 : (k : Int) < ((pA ps j).no : Int) := by omega
      have HF : Hid (frK (pA ps j) k t r = (decide (t < (pA ps j).O k) && decide ((pA ps j).I k < t + r))) := rfl
      clear hp e1 e2
      generalize (pA ps j).I k = x1 at *
      generalize (pA ps j).O k = x2 at *
      by_cases d1 : t < x2
      · have f1 : decide (t < x2) = true := decide_eq_true d1
        by_cases d2 : x1 < t + r
        · have f2 : decide (x1 < t + r) = true := decide_eq_true d2
          have HN : Hid (frB ps k t r = false) := allB_not hlt (by rw [HF.out, f1, f2]; rfl)
          clear d1 d2 HF
          go_wp2_with fail
          go_quiet (fail)
          go_wp2_with fail
          go_ret
          exact ⟨retB HN.out.symm, (by repeat (first | exact Dr.refl _ | exact ⟨_, rfl⟩ | refine Dr.drewN ?_ _))⟩
        · have f2 : decide (x1 < t + r) = false := decide_eq_false d2
          have HN : Hid (∀ q, q < j + 1 → frK (pA ps q) k t r = false) := fun q hq => by
            by_cases e : q = j
            · rw [e, HF.out, f1, f2]; rfl
            · exact HA.out q (by omega)
          clear d1 d2 HF
          go_wp2_with fail
          go_quiet (fail)
          go_wp2_with fail
          go_roundw
          case rel => exact ⟨j + 1, by omega, by go_num, HN, (by repeat (first | exact Dr.refl _ | exact ⟨_, rfl⟩ | refine Dr.drewN ?_ _))⟩
          case measure => simp [intOf]; omega
      · have f1 : decide (t < x2) = false := decide_eq_false d1
        have HN : Hid (∀ q, q < j + 1 → frK (pA ps q) k t r = false) := fun q hq => by
          by_cases e : q = j
          · rw [e, HF.out, f1]; rfl
          · exact HA.out q (by omega)
        clear d1 HF
        go_wp2_with fail
        go_quiet (fail)
        go_wp2_with fail
        go_roundw
        case rel => exact ⟨j + 1, by omega, by go_num, HN, (by repeat (first | exact Dr.refl _ | exact ⟨_, rfl⟩ | refine Dr.drewN ?_ _))⟩
        case measure => simp [intOf]; omega
    · obtain rfl : j = ps.length := by omega
      have HT : Hid (frB ps k t r = true) := allB_of (fun q hq => by rw [HA.out q hq]; rfl)
      go_wp2_with fail
      go_ret
      exact ⟨retB HT.out.symm, (by repeat (first | exact Dr.refl _ | exact ⟨_, rfl⟩ | refine Dr.drewN ?_ _))⟩
/-- what PathsFree gives -/
def frV (o : Option Int) : Value := match o with | some t => .tuple #[.int .i64 t, .bool true] | none => .tuple #[.int .i64 0, .bool false]
set_option linter.unusedSimpArgs false in
set_option maxRecDepth 100000 in
set_option maxHeartbeats 4000000 in
theorem pathsFree_any (ao : Option Addr) (c n k : Nat) (t r : Int) (ps : List Pt) (w : World) (hk : PsOk n ps) (hkn : k < n) (hv : PsV w ao ps) (ht : 0 ≤ t ∧ t ≤ 1000000) (hr : 1 ≤ r ∧ r ≤ 100) :
    Calls Tryz.prog 171 #[.int .i64 n, .slice ao ps.length c, .int .i64 k, .int .i64 t, .int .i64 r] w fun e w' => e = .returned (frV (frO ps k t r)) ∧ Below w.heap.size w w' := by
  have HK := Lib.hid hk
  have HV := Lib.hid hv
  obtain ⟨hr1, hr2⟩ := hr
  obtain ⟨ht1, ht2⟩ := ht
  have hbb : ∀ a b d, Below w.heap.size w (((w.alloc a).alloc b).alloc d) := fun a b d => (((Below.refl _ _).alloc (Nat.le_refl _) _).alloc (by simp) _).alloc (by simp; omega) _
  have HB := Lib.hid hbb
  have HHS : Hid (∀ W, Below w.heap.size w W → Calls Tryz.prog 152 #[.int .i64 n, .slice ao ps.length c, .int .i64 (k : Int)] W fun e w' => e = .returned (.bool true) ∧ Below W.heap.size W w') := fun W h => by
    have q := hasSection_ok ao c n (k : Int) ps W hk (hv.keep h)
    rw [decide_eq_true (show (0 : Int) ≤ (k : Int) by omega), decide_eq_true (show (k : Int) < (n : Int) by omega)] at q
    exact q
  have hws : IntKind.i64.wrap (2000 - r) = 2000 - r := IntWalk.i64_in _ (by omega)
  clear hbb hk hv
  go_enter Tryz.func171, Tryz.ntmps171
  go_wp2_with fail
  have HX1 : Hid (∀ W, Below (w.heap.size + 1 + 1 + 1) (((w.alloc (.cells #[.slice ao ps.length c] 53)).alloc (.cells #[.int .i64 (k : Int)] 3)).alloc (.cells #[.int .i64 r] 3)) W → W.cell? ⟨w.heap.size, 0, none⟩ = some (.slice ao ps.length c) ∧ W.cell? ⟨w.heap.size + 1, 0, none⟩ = some (.int .i64 (k : Int)) ∧ W.cell? ⟨w.heap.size + 1 + 1, 0, none⟩ = some (.int .i64 r)) := fun W h => by
    refine ⟨?_, ?_, ?_⟩
    · rw [h.cell (p := ⟨w.heap.size, 0, none⟩) (by dsimp only; omega)]; simp [go_sem]
    · rw [h.cell (p := ⟨w.heap.size + 1, 0, none⟩) (by dsimp only; omega)]; simp [go_sem]
    · rw [h.cell (p := ⟨w.heap.size + 1 + 1, 0, none⟩) (by dsimp only; omega)]; simp [go_sem]
  have HB1 := Lib.hid (HB.out (.cells #[.slice ao ps.length c] 53) (.cells #[.int .i64 (k : Int)] 3) (.cells #[.int .i64 r] 3))
  have HZ1 : Hid ((((w.alloc (.cells #[.slice ao ps.length c] 53)).alloc (.cells #[.int .i64 (k : Int)] 3)).alloc (.cells #[.int .i64 r] 3)).heap.size = w.heap.size + 1 + 1 + 1) := by show _ = _; simp
  generalize ((w.alloc (.cells #[.slice ao ps.length c] 53)).alloc (.cells #[.int .i64 (k : Int)] 3)).alloc (.cells #[.int .i64 r] 3) = w1 at *
  refine (HHS.out _ HB1.out).mono ?_
  rintro e w2 ⟨rfl, hb2⟩
  have HB2 := Lib.hid (hb2.mono (show w.heap.size + 1 + 1 + 1 ≤ w1.heap.size by rw [HZ1.out]; omega))
  have HBW := Lib.hid (HB1.out.trans (hb2.mono HB1.out.size))
  obtain ⟨x1, x2, x3⟩ := HX1.out _ HB2.out
  clear hb2
  go_wp2_with fail
  have HBZ : Hid (Below (w.heap.size + 1 + 1 + 1) w1 w2) := HB2.out
  go_loopw [13] (fun i wr => ∃ u : Int, i = .int .i64 u ∧ (0 ≤ u ∧ u ≤ 1000000) ∧ Hid (frO ps k t r = frO ps k u r) ∧ Hid (Below w2.heap.size w2 wr)) (fun i _ => (1000001 - intOf i).toNat)
  case atStart => exact ⟨t, rfl, ⟨ht1, ht2⟩, Lib.hid rfl, Lib.hid (Below.refl _ _)⟩
  case round =>
    obtain ⟨u, rfl, ⟨hu1, hu2⟩, HE, HBR⟩ := hrel
    have hs2 := HBW.out.size
    have HBX : Hid (Below (w.heap.size + 1 + 1 + 1) w1 wr) := HBZ.out.trans (HBR.out.mono (by have := HBZ.out.size; rw [HZ1.out] at this; exact this))
    have HBA := Lib.hid (HBW.out.trans (HBR.out.mono hs2))
    obtain ⟨y1, y2, y3⟩ := HX1.out _ HBX.out
    by_cases hle : u ≤ 2000 - r
    · have hd : decide (u ≤ 2000 - r) = true := decide_eq_true hle
      cases hf : frB ps k u r
      · have HE2 := Lib.hid (HE.out.trans (frO_next (by omega) hle hf))
        have HFF := Lib.hid hf
        clear hf
        go_wp2_with fail
        refine (freeFn_any _ _ _ ao c n k u r ps _ HK.out hkn (HV.out.keep HBA.out) (by omega) (by omega) y1 y2 y3).mono ?_
        rintro e w5 ⟨rfl, hd5⟩
        rw [HFF.out]
        have HB5 := Lib.hid (HBR.out.trans (below_dr hd5 _))
        clear hd5 y1 y2 y3
        have hwu : IntKind.i64.wrap (u + 1) = u + 1 := IntWalk.i64_in _ (by omega)
        go_wp2_with fail
        go_roundw
        case rel => exact ⟨u + 1, rfl, by omega, HE2, HB5⟩
        case measure => simp [intOf]; omega
      · have HE2 := Lib.hid (HE.out.trans (frO_here (by omega) hle hf))
        have HFF := Lib.hid hf
        clear hf
        go_wp2_with fail
        refine (freeFn_any _ _ _ ao c n k u r ps _ HK.out hkn (HV.out.keep HBA.out) (by omega) (by omega) y1 y2 y3).mono ?_
        rintro e w5 ⟨rfl, hd5⟩
        rw [HFF.out]
        have HB5 := Lib.hid (HBA.out.trans (below_dr hd5 _))
        clear hd5 y1 y2 y3
        go_wp2_with fail
        go_ret2
        exact ⟨by rw [HE2.out]; rfl, HB5.out⟩
    · have hd : decide (u ≤ 2000 - r) = false := decide_eq_false hle
      have HE2 := Lib.hid (HE.out.trans (frO_late hle))
      go_wp2_with fail
      go_ret2
      exact ⟨by rw [HE2.out]; rfl, HBA.out⟩
end Go.Proofs.YtlkdmpfifpkpaaaGreatDoor
namespace Go.Proofs.YtlkdmpfifpkpaaaGreatDoor
open Go.RowKit

/-- the time from which the next section is looked for -/
def rdyT (t : Int) (f : Nat → Int) (l : List Int) : Int := match l.getLast? with | none => t | some u => u + f (l.length - 1)
/-- the times at which the first sections are entered -/
def fitL (ps : List Pt) (f : Nat → Int) (t : Int) : Nat → Option (List Int)
  | 0 => some []
  | k + 1 => match fitL ps f t k with | none => none | some l => match frO ps k (rdyT t f l) (f k) with | none => none | some u => some (l ++ [u])
def ftP (l : List Int) (f : Nat → Int) (n : Nat) : Pt := ⟨fun i => l[i]?.getD 0, n, fun i => l[i]?.getD 0 + f i, n⟩
def ftO (ps : List Pt) (n n' : Nat) (f : Nat → Int) (t : Int) : Option (List Int) := if rvB n n' f = true then fitL ps f t n else none
theorem rdyT_snoc (t : Int) (f : Nat → Int) (l : List Int) (u : Int) : rdyT t f (l ++ [u]) = u + f l.length := by simp [rdyT]
theorem fitL_next {ps : List Pt} {f : Nat → Int} {t u : Int} {k : Nat} {l : List Int} (h : fitL ps f t k = some l) (h2 : frO ps k (rdyT t f l) (f k) = some u) : fitL ps f t (k + 1) = some (l ++ [u]) := by
  unfold fitL
  rw [h]
  simp only [h2]
theorem fitL_stop {ps : List Pt} {f : Nat → Int} {t : Int} {k : Nat} {l : List Int} (h : fitL ps f t k = some l) (h2 : frO ps k (rdyT t f l) (f k) = none) : ∀ m, k < m → fitL ps f t m = none
  | 0, h3 => by omega
  | m + 1, h3 => by
    by_cases e : m = k
    · subst e
      unfold fitL
      rw [h]
      simp only [h2]
    · have := fitL_stop h h2 m (by omega)
      unfold fitL
      rw [this]
theorem fitL_len {ps : List Pt} {f : Nat → Int} {t : Int} : ∀ (k : Nat) (l : List Int), fitL ps f t k = some l → l.length = k
  | 0, l, h => by cases h; rfl
  | k + 1, l, h => by
    unfold fitL at h
    split at h
    · cases h
    · rename_i l0 h0
      split at h
      · cases h
      · cases h
        have := fitL_len k l0 h0
        simp [this]
theorem ftP_old (l : List Int) (u : Int) (f : Nat → Int) (n : Nat) {i : Nat} (h : i < l.length) : (ftP (l ++ [u]) f n).I i = (ftP l f n).I i ∧ (ftP (l ++ [u]) f n).O i = (ftP l f n).O i := by
  unfold ftP
  simp only [List.getElem?_append_left h]
  exact ⟨trivial, trivial⟩
theorem ftP_new (l : List Int) (u : Int) (f : Nat → Int) (n : Nat) : (ftP (l ++ [u]) f n).I l.length = u ∧ (ftP (l ++ [u]) f n).O l.length = u + f l.length := by
  unfold ftP
  simp
theorem RunM.congr {w wr : World} {gI gO gP n k : Nat} {I O I' O' : Nat → Int} (h : RunM w wr gI gO gP n k I O) (hI : ∀ i, i < k → I i = I' i) (hO : ∀ i, i < k → O i = O' i) : RunM w wr gI gO gP n k I' O' :=
  ⟨h.res, h.box, h.oI.congr (fun i _ => by unfold fzF; split; · rename_i hi; rw [hI i hi]
                                           · rfl), h.oO.congr (fun i _ => by unfold fzF; split; · rename_i hi; rw [hO i hi]
                                                                             · rfl), h.nIO, h.nIP, h.nOP, h.lI, h.lO, h.lP, h.bl⟩
/-- what PathsFit hands back -/
def FtR (o : Option (List Int)) (f : Nat → Int) (n : Nat) (w : World) (e : Ending) (w' : World) : Prop :=
  Below w.heap.size w w' ∧ match o with
    | none => e = .returned (.tuple #[.agg #[.slice none 0 0, .slice none 0 0], .bool false])
    | some l => ∃ gI gO, e = .returned (.tuple #[.agg #[.slice (some ⟨gI, 0, none⟩) n n, .slice (some ⟨gO, 0, none⟩) n n], .bool true]) ∧ w.heap.size ≤ gI ∧ w.heap.size ≤ gO ∧ IC w' gI 0 n (ftP l f n).I ∧ IC w' gO 0 n (ftP l f n).O
theorem FtR.no {o : Option (List Int)} {f : Nat → Int} {n : Nat} {w w' : World} {e : Ending} (h : o = none) (he : e = .returned (.tuple #[.agg #[.slice none 0 0, .slice none 0 0], .bool false])) (hb : Below w.heap.size w w') : FtR o f n w e w' := by
  subst h
  exact ⟨hb, he⟩
theorem rdyT_bd {ps : List Pt} {f : Nat → Int} {t : Int} {n : Nat} (hf : ∀ k, k < n → 1 ≤ f k ∧ f k ≤ 100) (ht : 0 ≤ t ∧ t ≤ 1000000) : ∀ (k : Nat) (l : List Int), k ≤ n → fitL ps f t k = some l → 0 ≤ rdyT t f l ∧ rdyT t f l ≤ 1000000
  | 0, l, _, h => by cases h; exact ht
  | k + 1, l, hk, h => by
    unfold fitL at h
    split at h
    · cases h
    · rename_i l0 h0
      split at h
      · cases h
      · rename_i u hu
        cases h
        have h1 := rdyT_bd hf ht k l0 (by omega) h0
        have h2 := frO_bd hu
        have h3 := hf k (by omega)
        rw [rdyT_snoc, fitL_len k l0 h0]
        omega
set_option linter.unusedSimpArgs false in
set_option maxRecDepth 100000 in
set_option maxHeartbeats 4000000 in
theorem pathsFit_any (ao : Option Addr) (c0 n : Nat) (t : Int) (b off n' c : Nat) (f : Nat → Int) (ps : List Pt) (w : World) (hk : PsOk n ps) (hv : PsV w ao ps) (hn' : n' ≤ 1000000) (hc : IC w b off n' f) (ht : 0 ≤ t ∧ t ≤ 1000000) :
    Calls Tryz.prog 150 #[.int .i64 n, .slice ao ps.length c0, .int .i64 t, .slice (some ⟨b, off, none⟩) n' c] w (FtR (ftO ps n n' f t) f n w) := by
  have HC := Lib.hid hc
  have HK := Lib.hid hk
  have HV := Lib.hid hv
  have hn1 := hk.n1
  have hn5 := hk.n5
  have HBB : Hid (∀ o, Below w.heap.size w (w.alloc o)) := fun o => below_all _ _
  have HPV : Hid (∀ W, Below w.heap.size w W → Calls Tryz.prog 170 #[.int .i64 n, .slice ao ps.length c0] W fun e w' => e = .returned (.bool true) ∧ Below W.heap.size W w') := fun W h => pathsValid_ok ao c0 n ps W hk (hv.keep h)
  clear hc hk hv
  cases hr : rvB n n' f
  · have HR := Lib.hid hr
    have HO : Hid (ftO ps n n' f t = none) := by show _ = _; unfold ftO; rw [hr]; rfl
    clear hr
    go_enter Tryz.func150, Tryz.ntmps150
    go_wp2_with fail
    refine (HPV.out _ (HBB.out _)).mono ?_
    rintro e w2 ⟨rfl, hb2⟩
    have HX2 : Hid (Bx w2 w.heap.size 41 #[.slice none 0 0, .slice none 0 0]) := (Bx.new w _ _).below hb2 (Bx.new w _ _).lt
    have HB2 := Lib.hid ((HBB.out (.cells #[.slice none 0 0, .slice none 0 0] 41)).trans (hb2.mono (by simp)))
    clear hb2
    go_wp2_with fail
    refine (runsValid_any b off n' c f n _ (by omega) (HC.out.keep HB2.out) (by omega)).mono ?_
    rintro e w' ⟨rfl, rfl⟩
    rw [HR.out]
    have hrc := HX2.out.cell
    have hrf := HX2.out.free
    have hrl := HX2.out.lt
    go_wp2_with fail
    refine bodyPost_ret (v := .tuple #[.agg #[.slice none 0 0, .slice none 0 0], .bool false]) (by simp [results, Tryz.results150, go_sem, hrc]) rfl (FtR.no HO.out rfl ?_)
    exact (HB2.out.setCell (Nat.le_refl _) _).setCell (Nat.le_refl _) _
  · have HR := Lib.hid hr
    obtain ⟨_, hnn, hfb⟩ := rvB_parts hr
    obtain rfl : n' = n := by omega
    have HF := Lib.hid hfb
    have HO : Hid (ftO ps n' n' f t = fitL ps f t n') := by show _ = _; unfold ftO; rw [if_pos hr]
    clear hr hfb hnn
    have hmk := fun w => run_mk elInt n' n' (Nat.le_refl _) (by omega) (by omega) w
    obtain ⟨ht1, ht2⟩ := ht
    go_enter Tryz.func150, Tryz.ntmps150
    go_wp2_with fail
    refine (HPV.out _ (HBB.out _)).mono ?_
    rintro e w2 ⟨rfl, hb2⟩
    have HX2 : Hid (Bx w2 w.heap.size 41 #[.slice none 0 0, .slice none 0 0]) := (Bx.new w _ _).below hb2 (Bx.new w _ _).lt
    have HB2 := Lib.hid ((HBB.out (.cells #[.slice none 0 0, .slice none 0 0] 41)).trans (hb2.mono (by simp)))
    clear hb2
    go_wp2_with fail
    refine (runsValid_any b off n' c f n' _ (by omega) (HC.out.keep HB2.out) (by omega)).mono ?_
    rintro e w' ⟨rfl, rfl⟩
    rw [HR.out]
    go_wp2_with fail
    have hx2 := HX2.out.lt
    go_cut [10] (fun s10 wx => RunC w n' (ftP [] f n').I (ftP [] f n').O s10 wx)
    case first =>
      go_region_with (fail)
      all_goals
        go_wp2_with fail
        go_meet
        exact runC_mk (by repeat (with_reducible first | (refine Bx.newAt ?_; simp; done) | refine Bx.alloc ?_ _ | refine Bx.drew ?_))
          (by repeat (with_reducible first | exact HX2.out | refine Bx.alloc ?_ _ | refine Bx.drew ?_))
          (by repeat (with_reducible first | (refine own_fz ?_ (by unfold maxLen; omega); simp; done) | refine Own.alloc ?_ _ | refine Own.drew ?_))
          (by repeat (with_reducible first | (refine own_fz ?_ (by unfold maxLen; omega); simp; done) | refine Own.alloc ?_ _ | refine Own.drew ?_))
          (by repeat (with_reducible first | exact HB2.out | refine Below.alloc ?_ (by first | omega | (simp; omega)) _ | refine Below.drew ?_))
          (by omega)
    case rest =>
    obtain ⟨gI, gO, gP, rfl, HM⟩ := hcut
    have HL0 : Hid (fitL ps f t 0 = some []) := rfl
    go_wp2_with fail
    go_loopw [11, 35] (fun s i wr => ∃ (k : Nat) (l : List Int), k ≤ n' ∧ i = .int .i64 k ∧ s = .int .i64 (rdyT t f l) ∧ Hid (l.length = k) ∧ Hid (fitL ps f t k = some l) ∧ Hid (RunM w wr gI gO gP n' k (ftP l f n').I (ftP l f n').O)) (fun _ i _ => n' - (intOf i).toNat)
    case atStart => exact ⟨0, [], Nat.zero_le _, rfl, rfl, Lib.hid rfl, HL0, HM⟩
    case round =>
      obtain ⟨k, l, hkn, rfl, rfl, HLL, HL, HMk⟩ := hrel
      have hrb := rdyT_bd HF.out ⟨ht1, ht2⟩ k l hkn HL.out
      by_cases hlt : k < n'
      · have hki : (k : Int) < (n' : Int) := by omega
        have hck := (HC.out.keep HMk.out.bl).at k hlt
        have hfk := HF.out k hlt
        have HPF := Lib.hid (pathsFree_any ao c0 n' k (rdyT t f l) (f k) ps wr HK.out hlt (HV.out.keep HMk.out.bl) hrb hfk)
        cases ho : frO ps k (rdyT t f l) (f k) with
        | none =>
          have HN := Lib.hid (HO.out.trans (fitL_stop HL.out ho n' hlt))
          rw [ho] at HPF
          clear ho
          go_wp2_with fail
          refine HPF.out.mono ?_
          rintro e w5 ⟨rfl, hb5⟩
          have HM5 := Lib.hid (HMk.out.below hb5 rfl)
          have hrc := HM5.out.res.cell
          have hrf := HM5.out.res.free
          have hrl := HM5.out.res.lt
          unfold frV
          clear hb5 hck
          go_wp2_with fail
          refine bodyPost_ret (v := .tuple #[.agg #[.slice none 0 0, .slice none 0 0], .bool false]) (by simp [results, Tryz.results150, go_sem, hrc]) rfl (FtR.no HN.out rfl ?_)
          exact (HM5.out.bl.setCell (Nat.le_refl _) _).setCell (Nat.le_refl _) _
        | some u =>
          have HN := Lib.hid (fitL_next HL.out ho)
          have hub := frO_bd ho
          have hwu : IntKind.i64.wrap (u + f k) = u + f k := IntWalk.i64_in _ (by omega)
          rw [ho] at HPF
          have HRS : Hid (rdyT t f (l ++ [u]) = u + f k) := by show _ = _; rw [rdyT_snoc, HLL.out]
          have HNI := ftP_new l u f n'
          rw [HLL.out] at HNI
          have HNW := Lib.hid HNI
          have HOLD : Hid (∀ i, i < k → (ftP l f n').I i = (ftP (l ++ [u]) f n').I i ∧ (ftP l f n').O i = (ftP (l ++ [u]) f n').O i) := fun i hi => by
            have := ftP_old l u f n' (i := i) (by rw [HLL.out]; exact hi)
            exact ⟨this.1.symm, this.2.symm⟩
          clear ho hub HNI
          go_wp2_with fail
          refine HPF.out.mono ?_
          rintro e w5 ⟨rfl, hb5⟩
          have HM5 := Lib.hid ((HMk.out.below hb5 rfl).congr (fun i hi => (HOLD.out i hi).1) (fun i hi => (HOLD.out i hi).2))
          have hpc := HM5.out.box.cell
          have hiI := HM5.out.oI.cell1 hlt
          have hiO := HM5.out.oO.cell1 hlt
          have hfI := HM5.out.oI.free k
          have hfO := HM5.out.oO.free k
          have n1 := HM5.out.nIO
          have n2 := HM5.out.nIP
          have n3 := HM5.out.nOP
          have n1' : gO ≠ gI := fun e => n1 e.symm
          have n2' : gP ≠ gI := fun e => n2 e.symm
          have n3' : gP ≠ gO := fun e => n3 e.symm
          unfold frV
          clear hb5 hck
          go_wp2_with fail
          go_roundw
          case rel => exact ⟨k + 1, l ++ [u], by omega, by go_num, by rw [HRS.out], by show _ = _; simp [HLL.out], HN, Lib.hid (HM5.out.step HNW.out.1.symm HNW.out.2.symm)⟩
          case measure => simp [intOf]; omega
      · obtain rfl : k = n' := by omega
        have HN := Lib.hid (HO.out.trans HL.out)
        have hpc := HMk.out.box.cell
        have hrc := HMk.out.res.cell
        have hrf := HMk.out.res.free
        go_wp2_with fail
        refine bodyPost_ret (v := .tuple #[.agg #[.slice (some ⟨gI, 0, none⟩) k k, .slice (some ⟨gO, 0, none⟩) k k], .bool true]) (by simp [results, Tryz.results150, go_sem, hrc]) rfl ⟨(HMk.out.bl.setCell (Nat.le_refl _) _).setCell (Nat.le_refl _) _, ?_⟩
        rw [HN.out]
        have h1 := HMk.out.lI
        have h2 := HMk.out.lO
        exact ⟨gI, gO, rfl, by omega, by omega, IC.of_fz (t := 3) ((HMk.out.oI.setOther (by dsimp only; omega) _).setOther (by dsimp only; omega) _), IC.of_fz (t := 3) ((HMk.out.oO.setOther (by dsimp only; omega) _).setOther (by dsimp only; omega) _)⟩
end Go.Proofs.YtlkdmpfifpkpaaaGreatDoor
namespace Go.Proofs.YtlkdmpfifpkpaaaGreatDoor
open Go.RowKit
attribute [local go_sem ↓] Go.wp_at_zero Go.wp_at_succ

/-- what l91Path has made so far -/
structure PaM (w0 : World) (R : Nat) (wr : World) (gI jI cI gO jO cO : Nat) (fI fO : Nat → Int) (vO : Value) : Prop where
  res : Bx wr w0.heap.size 41 #[.slice none 0 0, .slice none 0 0]
  box : Bx wr (w0.heap.size + 1 + 1 + 1) 41 #[.slice (some ⟨gI, 0, none⟩) jI cI, vO]
  I : Own wr gI cI jI 1 3 (fun i => .int .i64 (fI i))
  O : Own wr gO cO jO 1 3 (fun i => .int .i64 (fO i))
  hI : w0.heap.size < gI
  hO : w0.heap.size < gO
  nI : gI ≠ w0.heap.size + 1 + 1 + 1
  nO : gO ≠ w0.heap.size + 1 + 1 + 1
  nIO : gI ≠ gO
  lR : R < w0.heap.size
  gr : w0.grownBy wr (some R)
section
variable {w0 wr wa w' : World} {R gI jI cI gO jO cO : Nat} {fI fO : Nat → Int} {vO : Value}
theorem PaM.pick (h : PaM w0 R wr gI jI cI gO jO cO fI fO vO) (hg : wr.grownBy w' (some R)) : PaM w0 R w' gI jI cI gO jO cO fI fO vO := by
  have := h.lR
  have := h.hI
  have := h.hO
  exact ⟨h.res.kept hg (by omega), h.box.kept hg (by omega), h.I.picked hg (by omega), h.O.picked hg (by omega), h.hI, h.hO, h.nI, h.nO, h.nIO, h.lR, grownBy_trans h.gr hg⟩
theorem PaM.drewN (h : PaM w0 R wr gI jI cI gO jO cO fI fO vO) (q : Nat) : PaM w0 R (wr.drewN q) gI jI cI gO jO cO fI fO vO := h.pick (grownBy_drewN _ _ _)
theorem PaM.drew (h : PaM w0 R wr gI jI cI gO jO cO fI fO vO) : PaM w0 R wr.drew gI jI cI gO jO cO fI fO vO := h.drewN 1
theorem PaM.alloc (h : PaM w0 R wr gI jI cI gO jO cO fI fO vO) (o : Obj) : PaM w0 R (wr.alloc o) gI jI cI gO jO cO fI fO vO := h.pick (World.grownBy_alloc _ _ _)
theorem PaM.pushI (h : PaM w0 R wr gI jI cI gO jO cO fI fO vO) {g c : Nat} {f : Nat → Int} (hA : Own wa g c (jI + 1) 1 3 (fun i => .int .i64 (f i))) (hg : wr.grownBy wa (some gI)) (hd : (g = gI ∧ c = cI) ∨ wr.heap.size < g) :
    PaM w0 R (wa.setCell ⟨w0.heap.size + 1 + 1 + 1, 0, none⟩ (.slice (some ⟨g, 0, none⟩) (jI + 1) c)) g (jI + 1) c gO jO cO f fO vO := by
  have h1 := h.nI
  have h2 := h.nO
  have h3 := h.nIO
  have h4 := h.hI
  have h5 := h.hO
  have h6 := h.box.lt
  have h7 := h.O.lt
  have h8 := h.gr.size
  exact ⟨(h.res.kept hg (by omega)).setOther (by dsimp only; omega) _, (h.box.kept hg (by omega)).set 0 _, hA.setOther (by dsimp only; omega) _, (h.O.kept hg (by simp; omega)).setOther (by dsimp only; omega) _, by omega, h.hO, by omega, h.nO, by omega, h.lR,
    grow_new (grow_new h.gr hg (by omega)) (grownBy_setCell _ _ _ _) (by omega)⟩
theorem PaM.pushO (h : PaM w0 R wr gI jI cI gO jO cO fI fO vO) {g c : Nat} {f : Nat → Int} (hA : Own wa g c (jO + 1) 1 3 (fun i => .int .i64 (f i))) (hg : wr.grownBy wa (some gO)) (hd : (g = gO ∧ c = cO) ∨ wr.heap.size < g) :
    PaM w0 R (wa.setCell ⟨w0.heap.size + 1 + 1 + 1, 1, none⟩ (.slice (some ⟨g, 0, none⟩) (jO + 1) c)) gI jI cI g (jO + 1) c fI f (.slice (some ⟨g, 0, none⟩) (jO + 1) c) := by
  have h1 := h.nI
  have h2 := h.nO
  have h3 := h.nIO
  have h4 := h.hI
  have h5 := h.hO
  have h6 := h.box.lt
  have h7 := h.I.lt
  have h8 := h.gr.size
  exact ⟨(h.res.kept hg (by omega)).setOther (by dsimp only; omega) _, (h.box.kept hg (by omega)).set 1 _, (h.I.kept hg (by simp; omega)).setOther (by dsimp only; omega) _, hA.setOther (by dsimp only; omega) _, h.hI, by omega, h.nI, by omega, by omega, h.lR,
    grow_new (grow_new h.gr hg (by omega)) (grownBy_setCell _ _ _ _) (by omega)⟩
end
/-- a path in new memory -/
def PtD (base : Nat) (w : World) (v : Value) (p : Pt) : Prop :=
  ∃ bi oi ci bo oo co, v = .agg #[.slice (some ⟨bi, oi, none⟩) p.ni ci, .slice (some ⟨bo, oo, none⟩) p.no co] ∧ base ≤ bi ∧ base ≤ bo ∧ IC w bi oi p.ni p.I ∧ IC w bo oo p.no p.O
theorem PtD.reads {base : Nat} {w : World} {v : Value} {p : Pt} (h : PtD base w v p) : PtV w v p := by
  obtain ⟨bi, oi, ci, bo, oo, co, e, _, _, h1, h2⟩ := h
  exact ⟨bi, oi, ci, bo, oo, co, e, h1, h2⟩
theorem ic_other {w : World} {b off n : Nat} {f : Nat → Int} (h : IC w b off n f) {a : Addr} (ha : b ≠ a.block) (v : Value) : IC (w.setCell a v) b off n f := fun k hk => by
  have h1 := h k hk
  rw [← h1]
  exact World.cell?_of_block (w := w) (Below.heap_setCell _ _ _ _ ha)
theorem PtD.setOther {base : Nat} {w : World} {v : Value} {p : Pt} (h : PtD base w v p) {a : Addr} (ha : a.block < base) (u : Value) : PtD base (w.setCell a u) v p := by
  obtain ⟨bi, oi, ci, bo, oo, co, e, h1, h2, h3, h4⟩ := h
  exact ⟨bi, oi, ci, bo, oo, co, e, h1, h2, ic_other h3 (by omega) _, ic_other h4 (by omega) _⟩
theorem PtD.keep {base : Nat} {w w' : World} {v : Value} {p : Pt} (h : PtD base w v p) (hb : Below w.heap.size w w') : PtD base w' v p := by
  obtain ⟨bi, oi, ci, bo, oo, co, e, h1, h2, h3, h4⟩ := h
  exact ⟨bi, oi, ci, bo, oo, co, e, h1, h2, h3.keep hb, h4.keep hb⟩
theorem PtD.mono {base base' : Nat} {w : World} {v : Value} {p : Pt} (h : PtD base w v p) (hb : base' ≤ base) : PtD base' w v p := by
  obtain ⟨bi, oi, ci, bo, oo, co, e, h1, h2, h3, h4⟩ := h
  exact ⟨bi, oi, ci, bo, oo, co, e, by omega, by omega, h3, h4⟩
/-- a drawn path over n sections -/
def DPt (R M n : Nat) (w : World) (e : Ending) (w' : World) : Prop :=
  ∃ v p, e = .returned v ∧ PtD w.heap.size w' v p ∧ p.ni = n ∧ p.no ≤ n ∧ RdL w' R M ∧ w.grownBy w' (some R)
theorem PaM.done {w0 wr : World} {R gI jI cI gO jO cO : Nat} {fI fO : Nat → Int} {vO : Value} (h : PaM w0 R wr gI jI cI gO jO cO fI fO vO) {M M' oO nO cO' : Nat} {g : Nat → Int} (hr : RdL wr R M) (hM : M ≤ M') (hO : IC wr gO oO nO g) (hn : nO ≤ jI) {v0 v1 : Value} :
    DPt R M' jI w0 (.returned (.agg #[.slice (some ⟨gI, 0, none⟩) jI cI, .slice (some ⟨gO, oO, none⟩) nO cO'])) ((wr.setCell ⟨w0.heap.size, 0, none⟩ v0).setCell ⟨w0.heap.size, 1, none⟩ v1) := by
  have h1 := h.hI
  have h2 := h.hO
  have h3 := h.lR
  refine ⟨_, ⟨fI, jI, g, nO⟩, rfl, ⟨gI, 0, cI, gO, oO, cO', rfl, by omega, by omega, ic_other (ic_other (IC.of_own h.I) (by dsimp only; omega) _) (by dsimp only; omega) _, ic_other (ic_other hO (by dsimp only; omega) _) (by dsimp only; omega) _⟩, rfl, hn, ((hr.mono hM).set (by omega)).set (by omega), ?_⟩
  exact grow_new (grow_new h.gr (grownBy_setCell _ _ _ _) (Nat.le_refl _)) (grownBy_setCell _ _ _ _) (Nat.le_refl _)
theorem DPt.alloc {R M n : Nat} {w w' : World} {e : Ending} (h : DPt R M n w e w') (o : Obj) : DPt R M n w e (w'.alloc o) := by
  obtain ⟨v, p, h1, h2, h3, h4, h5, h6⟩ := h
  exact ⟨v, p, h1, h2.keep (below_all _ _), h3, h4, h5.alloc _, grownBy_trans h6 (World.grownBy_alloc _ _ _)⟩

theorem ic_tail1 {w : World} {g cap n : Nat} {t : TypeId} {f : Nat → Int} (h : Own w g cap n 1 t (fun i => .int .i64 (f i))) : IC w g 1 (n - 1) (fun i => f (i + 1)) := fun k hk => by
  rw [show 1 + k = k + 1 from by omega]
  exact h.cell1 (by omega)
end Go.Proofs.YtlkdmpfifpkpaaaGreatDoor
namespace Go.Proofs.YtlkdmpfifpkpaaaGreatDoor
open Go.RowKit
attribute [local go_sem ↓] Go.wp_at_zero Go.wp_at_succ

def th3 (a b c : Int) (y : Nat) : Int := if y = 0 then a else if y = 1 then b else c
theorem th3_at {a b c : Int} {y : Nat} (h : y < 3) : (#[Value.int .i64 a, .int .i64 b, .int .i64 c] : Array Value)[y]? = some (.int .i64 (th3 a b c y)) := by
  have : y = 0 ∨ y = 1 ∨ y = 2 := by omega
  rcases this with rfl | rfl | rfl <;> rfl
theorem th3_bd {a b c : Int} (y : Nat) : th3 a b c y = a ∨ th3 a b c y = b ∨ th3 a b c y = c := by
  unfold th3
  split
  · exact .inl rfl
  · split
    · exact .inr (.inl rfl)
    · exact .inr (.inr rfl)
/-- drawn runs -/
def DRn (R M n : Nat) (w : World) (e : Ending) (w' : World) : Prop :=
  ∃ (g off c len : Nat) (f : Nat → Int), e = .returned (.slice (some ⟨g, off, none⟩) len c) ∧ IC w' g off len f ∧ w.heap.size ≤ g ∧ len ≤ n ∧ RdL w' R M ∧ w.grownBy w' (some R)
theorem ic_pick {w w' : World} {b off n R : Nat} {f : Nat → Int} (h : IC w b off n f) (hg : w.grownBy w' (some R)) (hne : b ≠ R) : IC w' b off n f := fun k hk => by
  have h1 := h k hk
  have h2 : b < w.heap.size := World.block_lt_of_cell? w ⟨b, off + k, none⟩ h1
  rw [← h1]
  exact World.cell?_of_block (w := w) (hg.block b h2 (by simpa using hne))
set_option maxRecDepth 100000 in
set_option maxHeartbeats 4000000 in
theorem l91Runs_any (R m n : Nat) (w : World) (hm : m ≤ 100000) (hn1 : 1 ≤ n) (hn2 : n ≤ 5) (hr : RdL w R m) :
    Calls Tryz.prog 45 #[.pointer (some ⟨R, 0, none⟩), .int .i64 n] w (DRn R (m + 10) n w) := by
  have hlR := hr.lt
  have HR0 := Lib.hid hr
  clear hr
  go_enter Tryz.func45, Tryz.ntmps45
  go_wp2_with fail
  go_loopw [5, 6] (fun so si wr => ∃ (k g c : Nat) (f : Nat → Int), k ≤ n ∧ si = .int .i64 k ∧ so = .slice (some ⟨g, 0, none⟩) k c ∧ w.heap.size ≤ g ∧ Hid (Own wr g c k 1 3 (fun i => .int .i64 (f i))) ∧ Hid (RdL wr R (m + k)) ∧ w.grownBy wr (some R)) (fun _ si _ => n - (intOf si).toNat)
  case atStart => exact ⟨0, _, _, fun _ => 0, Nat.zero_le _, rfl, rfl, Nat.le_refl _, own_empty _ _ _ _, HR0.out.alloc _, World.grownBy_alloc _ _ _⟩
  case round =>
    obtain ⟨k, g, c, f, hk, rfl, rfl, hg, HO, HR, hgr⟩ := hrel
    have HG := Lib.hid hgr
    have hz := hgr.size
    clear hgr
    by_cases hlt : k < n
    · go_wp2_with fail
      refine (pickN_any R (m + k) 12 _ (by omega) (by omega) HR.out).mono ?_
      rintro e w2 ⟨x, rfl, hx, hr2, hg2⟩
      have HR2 := Lib.hid hr2
      have HO2 := Lib.hid (HO.out.picked hg2 (by omega))
      have HG2 := Lib.hid (grownBy_trans HG.out hg2)
      have hz2 := hg2.size
      clear hr2 hg2
      go_wp2_with (at_builtin; refine wpList_pushI elInt rfl (.tmp 13) (.tmp 17) (by rfl) (f := fun i => if i = k then ((x : Int) + 1) else f i) (HO2.out.congr (fun i hi => by rw [if_neg (by omega)])) (by rfl) (by rfl) (by simp <;> omega) (by omega) ?_; intro g' c' wa HA hgr hd; have HRa := Lib.hid (HR2.out.kept hgr (by omega)); have HGa := Lib.hid (grow_new HG2.out hgr (by omega)); have hga : w.heap.size ≤ g' := (by rcases hd with h | h <;> omega); have HAa := Lib.hid HA; clear HA hgr hd)
      go_roundw
      case rel => exact ⟨k + 1, _, _, _, by omega, by go_num, rfl, hga, HAa, HRa, HGa.out⟩
      case measure => simp [intOf]; omega
    · obtain rfl : k = n := by omega
      have hk0 : (0 : Int) < k := by omega
      go_wp2_with fail
      refine (pickN_any R (m + k) 30 _ (by omega) (by omega) HR.out).mono ?_
      rintro e w2 ⟨x, rfl, hx, hr2, hg2⟩
      have HR2 := Lib.hid hr2
      have HO2 := Lib.hid (HO.out.picked hg2 (by omega))
      have HG2 := Lib.hid (grownBy_trans HG.out hg2)
      have hz2 := hg2.size
      have hc1 : k ≤ c := HO.out.1
      clear hr2 hg2
      by_cases h0 : x = 0
      · subst h0
        go_wp2_with fail
        refine (pickN_any R (m + k + 1) 3 _ (by omega) (by omega) (HR2.out.alloc _)).mono ?_
        rintro e w3 ⟨y, rfl, hy, hr3, hg3⟩
        have hgl := HO2.out.lt
        have hyc : w3.cell? ⟨w2.heap.size, y, none⟩ = some (.int .i64 (th3 0 101 100 y)) := (gcell hg3 w2.heap.size y (by simp) (by have := HR2.out.lt; omega)).trans ((box_new w2 _ _ y).trans (th3_at hy))
        have HO3 := Lib.hid ((HO2.out.alloc (.cells #[.int .i64 0, .int .i64 101, .int .i64 100] 3)).picked hg3 (by omega))
        have HR3 := Lib.hid hr3
        have HG3 := Lib.hid (grownBy_trans (grownBy_trans HG2.out (World.grownBy_alloc _ _ _)) hg3)
        have hyi1 : (0 : Int) ≤ (y : Int) := by omega
        have hyi2 : (y : Int) < 3 := by omega
        have hc0 := HO3.out.cell1 (i := 0) (by omega)
        have hf0 := HO3.out.free 0
        clear hr3 hg3
        go_wp2_with fail
        go_ret
        exact ⟨g, 0, c, k, fun i => if i = 0 then th3 0 101 100 y else f i, rfl, IC.of_own ((HO3.out.set 0 _).congr fun i _ => by split <;> rfl), hg, Nat.le_refl _, (HR3.out.mono (by omega)).set (by omega), grow_new HG3.out (grownBy_setCell _ _ _ _) (by omega)⟩
      have x0 : ((x : Int) == 0) = false := by simp; omega
      have i1 : (1 : Int) ≤ (k : Int) := by omega
      have i2 : (k : Int) ≤ (c : Int) := by omega
      by_cases h1 : x = 1
      · subst h1
        clear h0
        by_cases hc : c = 1
        · obtain rfl : k = 1 := by omega
          subst hc
          go_wp2_with fail
          go_ret
          exact ⟨g, 0, 0, 0, f, rfl, fun j hj => by omega, hg, by omega, HR2.out.mono (by omega), HG2.out⟩
        · have i3 : (1 : Int) < (c : Int) := by omega
          go_wp2_with fail
          go_ret
          exact ⟨g, 1, c - 1, k - 1, fun i => f (i + 1), rfl, ic_tail1 HO2.out, hg, by omega, HR2.out.mono (by omega), HG2.out⟩
      have x1 : ((x : Int) == 1) = false := by simp; omega
      clear h0 h1
      go_wp2_with fail
      go_ret
      exact ⟨g, 0, c, k, f, rfl, IC.of_own HO2.out, hg, Nat.le_refl _, HR2.out.mono (by omega), HG2.out⟩

/-- a drawn time and runs -/
def DRun (w : World) (e : Ending) (w' : World) : Prop :=
  ∃ (t : Int) (g off c len : Nat) (f : Nat → Int), e = .returned (.tuple #[.int .i64 t, .slice (some ⟨g, off, none⟩) len c]) ∧ (-1 ≤ t ∧ t ≤ 2000) ∧ IC w' g off len f ∧ w.heap.size ≤ g ∧ len ≤ 5 ∧ Below w.heap.size w w'
set_option maxRecDepth 100000 in
set_option maxHeartbeats 4000000 in
theorem drawRun_any (ao : Option Addr) (n c : Nat) (w : World) (hnc : n ≤ c) (hn : n ≤ 9223372036854775807) (hB : BSl w ao n) :
    Calls Tryz.prog 22 #[.slice ao n c] w (DRun w) := by
  go_enter Tryz.func22, Tryz.ntmps22
  go_wp2_with fail
  refine (open_any ao n c _ hn hnc hB).mono ?_
  rintro e w1 ⟨R, rfl, hR, hr1, hb1⟩
  have HB1 := Lib.hid hb1
  have HR1 := Lib.hid hr1
  have hz1 := hb1.size
  have hlR := hr1.lt
  clear hb1 hr1 hB
  go_wp2_with fail
  refine (pickN_any R 0 100 _ (by omega) (by omega) HR1.out).mono ?_
  rintro e w2 ⟨a, rfl, ha, hr2, hg2⟩
  have HR2 := Lib.hid hr2
  have HB2 := Lib.hid (HB1.out.trans (below_of_grown hg2 (by omega) hz1))
  have hz2 := hg2.size
  clear hr2 hg2
  go_wp2_with fail
  refine (pickN_any R (0 + 1) 12 _ (by omega) (by omega) HR2.out).mono ?_
  rintro e w3 ⟨u, rfl, hu, hr3, hg3⟩
  have HR3 := Lib.hid hr3
  have HB3 := Lib.hid (HB2.out.trans (below_of_grown hg3 (by omega) (by omega)))
  have hz3 := hg3.size
  clear hr3 hg3
  by_cases h0 : u = 0
  · subst h0
    go_wp2_with fail
    refine (pickN_any R (0 + 1 + 1) 3 _ (by omega) (by omega) (HR3.out.alloc _)).mono ?_
    rintro e w4 ⟨y, rfl, hy, hr4, hg4⟩
    have hyc : w4.cell? ⟨w3.heap.size, y, none⟩ = some (.int .i64 (th3 (-1) 2000 1980 y)) := (gcell hg4 w3.heap.size y (by simp) (by have := HR3.out.lt; omega)).trans ((box_new w3 _ _ y).trans (th3_at hy))
    have hyi1 : (0 : Int) ≤ (y : Int) := by omega
    have hyi2 : (y : Int) < 3 := by omega
    have HR4 := Lib.hid hr4
    have HB4 := Lib.hid ((HB3.out.alloc (by omega) _).trans (below_of_grown hg4 (by omega) (by rw [World.size_alloc]; omega)))
    have hz4 := hg4.size
    rw [World.size_alloc] at hz4
    have htb := th3_bd (a := -1) (b := 2000) (c := 1980) y
    have HT : Hid (-1 ≤ th3 (-1) 2000 1980 y ∧ th3 (-1) 2000 1980 y ≤ 2000) := by
      rcases htb with h | h | h <;> (rw [h]; exact ⟨by omega, by omega⟩)
    clear hr4 hg4 htb
    go_wp2_with fail
    refine (pickN_any R (0 + 1 + 1 + 1) 5 _ (by omega) (by omega) HR4.out).mono ?_
    rintro e w5 ⟨q, rfl, hq, hr5, hg5⟩
    have HR5 := Lib.hid hr5
    have HB5 := Lib.hid (HB4.out.trans (below_of_grown hg5 (by omega) (by omega)))
    have hz5 := hg5.size
    clear hr5 hg5 hyc
    have hnn : (1 : Int) + (q : Int) = (q : Int) + 1 := by omega
    go_wp2_with fail
    clear hnn
    rw [show (q : Int) + 1 = ((q + 1 : Nat) : Int) from by omega]
    refine (l91Runs_any R (0 + 1 + 1 + 1 + 1) (q + 1) _ (by omega) (by omega) (by omega) HR5.out).mono ?_
    rintro e w6 ⟨g, off, c6, len, f, rfl, hic, hg6, hlen, hr6, hg7⟩
    have HB6 := Lib.hid ((HB5.out).trans (below_of_grown hg7 (by omega) (by omega)))
    clear hr6 hg7
    go_wp2_with fail
    go_ret2
    exact ⟨(th3 (-1) 2000 1980 y), g, off, c6, len, f, rfl, HT.out, hic, by omega, by omega, HB6.out⟩
  · have u0 : ((u : Int) == 0) = false := by simp; omega
    have HT : Hid (-1 ≤ (a : Int) ∧ (a : Int) ≤ 2000) := ⟨by omega, by omega⟩
    clear h0
    go_wp2_with fail
    refine (pickN_any R (0 + 1 + 1) 5 _ (by omega) (by omega) HR3.out).mono ?_
    rintro e w5 ⟨q, rfl, hq, hr5, hg5⟩
    have HR5 := Lib.hid hr5
    have HB5 := Lib.hid (HB3.out.trans (below_of_grown hg5 (by omega) (by omega)))
    have hz5 := hg5.size
    clear hr5 hg5
    have hnn : (1 : Int) + (q : Int) = (q : Int) + 1 := by omega
    go_wp2_with fail
    clear hnn
    rw [show (q : Int) + 1 = ((q + 1 : Nat) : Int) from by omega]
    refine (l91Runs_any R (0 + 1 + 1 + 1) (q + 1) _ (by omega) (by omega) (by omega) HR5.out).mono ?_
    rintro e w6 ⟨g, off, c6, len, f, rfl, hic, hg6, hlen, hr6, hg7⟩
    have HB6 := Lib.hid ((HB5.out).trans (below_of_grown hg7 (by omega) (by omega)))
    clear hr6 hg7
    go_wp2_with fail
    go_ret2
    exact ⟨(a : Int), g, off, c6, len, f, rfl, HT.out, hic, by omega, by omega, HB6.out⟩
end Go.Proofs.YtlkdmpfifpkpaaaGreatDoor
namespace Go.Proofs.YtlkdmpfifpkpaaaGreatDoor
open Go.RowKit

/-- what a single line holds -/
structure Sg where
  A : Nat → Int
  na : Nat
  B : Nat → Int
  nb : Nat
  run : Int
  head : Int

/-- the value v is a single line that reads as x in w -/
def SgV (w : World) (v : Value) (x : Sg) : Prop :=
  ∃ ba oa ca bb ob cb, v = .agg #[.slice (some ⟨ba, oa, none⟩) x.na ca, .slice (some ⟨bb, ob, none⟩) x.nb cb, .int .i64 x.run, .int .i64 x.head] ∧ IC w ba oa x.na x.A ∧ IC w bb ob x.nb x.B
theorem SgV.keep {w w' : World} {v : Value} {x : Sg} (h : SgV w v x) (hb : Below w.heap.size w w') : SgV w' v x := by
  obtain ⟨ba, oa, ca, bb, ob, cb, e, h1, h2⟩ := h
  exact ⟨ba, oa, ca, bb, ob, cb, e, h1.keep hb, h2.keep hb⟩
/-- it lies in new memory from block base on, its two rows apart -/
def SgF (base : Nat) (w : World) (v : Value) (x : Sg) : Prop :=
  ∃ ga ca gb cb, v = .agg #[.slice (some ⟨ga, 0, none⟩) x.na ca, .slice (some ⟨gb, 0, none⟩) x.nb cb, .int .i64 x.run, .int .i64 x.head] ∧ base ≤ ga ∧ base ≤ gb ∧ ga ≠ gb ∧
    Own w ga ca x.na 1 3 (fun i => .int .i64 (x.A i)) ∧ Own w gb cb x.nb 1 3 (fun i => .int .i64 (x.B i))
theorem SgF.reads {base : Nat} {w : World} {v : Value} {x : Sg} (h : SgF base w v x) : SgV w v x := by
  obtain ⟨ga, ca, gb, cb, e, _, _, _, h1, h2⟩ := h
  exact ⟨ga, 0, ca, gb, 0, cb, e, IC.of_own h1, IC.of_own h2⟩
theorem SgF.keep {base : Nat} {w w' : World} {v : Value} {x : Sg} (h : SgF base w v x) (hb : Below w.heap.size w w') : SgF base w' v x := by
  obtain ⟨ga, ca, gb, cb, e, h3, h4, h5, h1, h2⟩ := h
  exact ⟨ga, ca, gb, cb, e, h3, h4, h5, h1.below hb h1.lt, h2.below hb h2.lt⟩

/-- it reads as x; empty rows may be nil -/
def SgN (w : World) (v : Value) (x : Sg) : Prop := ∃ va vb, v = .agg #[va, vb, .int .i64 x.run, .int .i64 x.head] ∧ SL w va x.na x.A ∧ SL w vb x.nb x.B
theorem SgN.keep {w w' : World} {v : Value} {x : Sg} (h : SgN w v x) (hb : Below w.heap.size w w') : SgN w' v x := by
  obtain ⟨va, vb, e, h1, h2⟩ := h
  exact ⟨va, vb, e, h1.keep hb, h2.keep hb⟩
theorem SgV.n {w : World} {v : Value} {x : Sg} (h : SgV w v x) : SgN w v x := by
  obtain ⟨ba, oa, ca, bb, ob, cb, e, h1, h2⟩ := h
  exact ⟨_, _, e, .inl ⟨ba, oa, ca, rfl, h1⟩, .inl ⟨bb, ob, cb, rfl, h2⟩⟩

end Go.Proofs.YtlkdmpfifpkpaaaGreatDoor
