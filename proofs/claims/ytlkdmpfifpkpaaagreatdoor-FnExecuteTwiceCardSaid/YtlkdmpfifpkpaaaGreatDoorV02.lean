/-
  Parts of the proof: Rx Qt Pb Pc Ya Yb. No condition.
-/
import Derived.Deep.RegionWith
import Derived.Deep.DeepCutAuto
import Derived.Test.YtlkdmpfifpkpaaaGreatDoorV01
namespace Go.Proofs.YtlkdmpfifpkpaaaGreatDoor
open Go.RowKit
theorem box_new (w : World) (cs : Array Value) (t : TypeId) : ∀ o, (w.alloc (.cells cs t)).cell? ⟨w.heap.size, o, none⟩ = cs[o]? := box_cells (Below.refl (w.heap.size + 1) _) (by omega)
theorem below_all (w : World) (a : Obj) : Below w.heap.size w (w.alloc a) := (Below.refl _ _).alloc (Nat.le_refl _) _
theorem RdL.alloc {w : World} {R m : Nat} (h : RdL w R m) (a : Obj) : RdL (w.alloc a) R m := h.keep (below_all _ _)
theorem Own.picked {w w' : World} {g cap n s R : Nat} {t : TypeId} {f : Nat → Value} (h : Own w g cap n s t f) (hb : w.grownBy w' (some R)) (hg : g ≠ R) : Own w' g cap n s t f := h.kept hb (by simpa using hg)
theorem gcell {W w1 : World} {R : Nat} (hg : W.grownBy w1 (some R)) : ∀ b o, b < W.heap.size → b ≠ R → w1.cell? ⟨b, o, none⟩ = W.cell? ⟨b, o, none⟩ := fun b o h hne => World.cell?_of_block (w := W) (hg.block b h (by simpa using hne))
theorem pickN_any (R m n : Nat) (w : World) (hn : 1 ≤ n ∧ n ≤ 1000000) (hm : m ≤ 1000000) (hr : RdL w R m) :
    Calls Tryz.prog 31 #[.pointer (some ⟨R, 0, none⟩), .int .i64 n] w fun e w' => ∃ k : Nat, e = .returned (.int .i64 k) ∧ k < n ∧ RdL w' R (m + 1) ∧ w.grownBy w' (some R) :=
  (pick_any R m n w (by omega) hm hr).mono fun e w' ⟨v, he, hv, h1, h2⟩ => by
   have := pkB_lt hv (by omega)
   exact ⟨v.toNat, by rw [he]; congr 2; omega, by omega, h1, h2⟩
theorem own_emptyAt {w : World} {g s : Nat} {t : TypeId} {f : Nat → Value} (h : g = w.heap.size) : Own (w.alloc (.cells #[] t)) g 0 0 s t f := by subst h; exact own_empty _ _ _ _
theorem qAddS {P : Program} {f : FuncId} {args : Array Value} {w : World} {a n : Nat} {v : Value}
    (h : Calls P f args (w.drewN (a + n)) fun e w' => e = .returned v ∧ w.drewN (a + n) = w') :
    Calls P f args (w.drewN (a + n)) fun e w'' => e = .returned v ∧ ∃ m, w'' = w.drewN (a + m) :=
  h.mono fun _ _ ⟨he, hm⟩ => ⟨he, n, hm.symm⟩
def PtV (w : World) (v : Value) (p : Pt) : Prop :=
 ∃ bi oi ci bo oo co, v = .agg #[.slice (some ⟨bi, oi, none⟩) p.ni ci, .slice (some ⟨bo, oo, none⟩) p.no co] ∧ IC w bi oi p.ni p.I ∧ IC w bo oo p.no p.O
theorem PtV.box {w : World} {p : Pt} {bi oi ci bo oo co : Nat} {t : TypeId} (h1 : IC w bi oi p.ni p.I) (h2 : IC w bo oo p.no p.O) :
    PtB (w.alloc (.cells #[.slice (some ⟨bi, oi, none⟩) p.ni ci, .slice (some ⟨bo, oo, none⟩) p.no co] t)) w.heap.size p bi oi ci bo oo co :=
  ⟨box_new w _ t 0, box_new w _ t 1, h1.keep (below_all _ _), h2.keep (below_all _ _)⟩
theorem vk_in {p : Pt} {k : Nat} (h : vkB p k = true) : inB (p.I k) (prO p k) 2000 = true ∧ inB (p.O k) (p.I k + 1) 2000 = true := by
 have := vkB_true.1 h
 exact ⟨inB_true.2 (by omega), inB_true.2 (by omega)⟩
theorem vk_of {p : Pt} {k : Nat} (h1 : inB (p.I k) (prO p k) 2000 = true) (h2 : inB (p.O k) (p.I k + 1) 2000 = true) : vkB p k = true := by
 have h1 := inB_true.1 h1
 have h2 := inB_true.1 h2
 exact vkB_true.2 (by omega)
theorem l6In_at {n lo hi : Int} {b : Bool} (h : inB n lo hi = b) (w : World) : Calls Tryz.prog 43 #[.int .i64 n, .int .i64 lo, .int .i64 hi] w fun e w' => e = .returned (.bool b) ∧ w = w' :=
 (l6In_any n lo hi w).mono fun e w' ⟨h1, h2⟩ => ⟨by rw [h1, h], h2⟩
set_option maxHeartbeats 2000000 in
theorem specPValid_any (v : Value) (p : Pt) (n : Int) (w : World) (hp : PtV w v p) (hni : p.ni ≤ 1000000) (hno : p.no ≤ 1000000) (hn : -9223372036854775808 ≤ n ∧ n ≤ 9223372036854775807) :
    Calls Tryz.prog 49 #[.int .i64 n, v] w fun e w' => e = .returned (.bool (ptOk p n)) ∧ Below w.heap.size w w' := by
  obtain ⟨bi, oi, ci, bo, oo, co, rfl, hI, hO⟩ := hp
  have HP := Lib.hid (PtV.box (ci := ci) (co := co) (t := 41) hI hO)
  have HBB : Hid (∀ o, Below w.heap.size w (w.alloc o)) := fun o => below_all _ _
  clear hI hO
  cases hin : inB n 1 5
  ·have HI := Lib.hid hin
   clear hin
   go_enter Tryz.func49, Tryz.ntmps49
   go_wp2_with fail
   refine (l6In_any _ _ _ _).mono ?_
   rintro e w' ⟨rfl, rfl⟩
   rw [HI.out]
   go_wp2_with fail
   go_ret
   exact ⟨retB (ptOk_n HI.out).symm, HBB.out _⟩
  have hin2 := inB_true.1 hin
  have HI := Lib.hid hin
  obtain ⟨n, rfl⟩ := Int.eq_ofNat_of_zero_le (show 0 ≤ n by omega)
  clear hin hn
  by_cases h1 : ¬ p.ni = n
  ·have g1 : ((p.ni : Int) != (n : Int)) = true := by simp; omega
   have HR : Hid (ptOk p n = false) := ptOk_i (by omega)
   clear h1
   go_enter Tryz.func49, Tryz.ntmps49
   go_wp2_with fail
   refine (l6In_any _ _ _ _).mono ?_
   rintro e w' ⟨rfl, rfl⟩
   rw [HI.out]
   go_wp2_with fail
   go_ret
   exact ⟨retB HR.out.symm, HBB.out _⟩
  replace h1 := Decidable.not_not.1 h1
  by_cases h2 : ¬ p.no = n
  ·have g1 : ((p.ni : Int) != (n : Int)) = false := by simp; omega
   have g2 : ((p.no : Int) != (n : Int)) = true := by simp; omega
   have HR : Hid (ptOk p n = false) := ptOk_o (by omega)
   clear h1 h2
   go_enter Tryz.func49, Tryz.ntmps49
   go_wp2_with fail
   refine (l6In_any _ _ _ _).mono ?_
   rintro e w' ⟨rfl, rfl⟩
   rw [HI.out]
   go_wp2_with fail
   go_ret
   exact ⟨retB HR.out.symm, HBB.out _⟩
  replace h2 := Decidable.not_not.1 h2
  obtain ⟨I, ni, O, no⟩ := p
  simp only at h1 h2 hni hno
  subst h1
  obtain rfl : ni = no := h2.symm
  have gn : ((ni : Int) != (ni : Int)) = false := by simp
  go_enter Tryz.func49, Tryz.ntmps49
  go_wp2_with fail
  refine (l6In_any _ _ _ _).mono ?_
  rintro e w' ⟨rfl, rfl⟩
  rw [HI.out]
  go_wp2_with fail
  go_loopw [5, 6] (fun l i wr => ∃ k : Nat, k ≤ ni ∧ i = .int .i64 k ∧ l = .int .i64 (prO ⟨I, ni, O, ni⟩ k) ∧ Hid (∀ j, j < k → vkB ⟨I, ni, O, ni⟩ j = true) ∧ Dr (w.alloc (.cells #[.slice (some ⟨bi, oi, none⟩) ni ci, .slice (some ⟨bo, oo, none⟩) ni co] 41)) wr) (fun _ i _ => ni - (intOf i).toNat)
  case atStart => exact ⟨0, Nat.zero_le _, rfl, rfl, (fun j hj => by omega), Dr.refl _⟩
  case round =>
   obtain ⟨k, hk, rfl, rfl, HA, q, rfl⟩ := hrel
   by_cases hlt : k < ni
   ·have hcI := HP.out.I.at k hlt
    have hcO := HP.out.O.at k hlt
    simp only at hcI hcO
    have hpb := vk_bd k HA.out
    cases b1 : inB (I k) (prO ⟨I, ni, O, ni⟩ k) 2000
    ·have HF : Hid (ptOk ⟨I, ni, O, ni⟩ ni = false) := ptOk_k hlt (by cases e : vkB ⟨I, ni, O, ni⟩ k; rfl; exact absurd (vk_in e).1 (by simp [b1]))
     have B1 := Lib.hid b1
     clear b1
     go_wp2_with fail
     go_quiet (first | (go_at_call_of 43 (O k); exact qAddS (l6In_at B1.out _)) | (go_at_call_of 43 (I k); exact qAddS (l6In_at B1.out _)))
     go_wp2_with fail
     go_ret
     exact ⟨retB HF.out.symm, (HBB.out _).trans (below_dr (by repeat (first | exact Dr.refl _ | exact ⟨_, rfl⟩ | refine Dr.drewN ?_ _)) _)⟩
    have hib := inB_true.1 b1
    have hw1 : IntKind.i64.wrap (I k + 1) = I k + 1 := IntWalk.i64_in _ (by omega)
    have B1 := Lib.hid b1
    cases b2 : inB (O k) (I k + 1) 2000
    ·have HF : Hid (ptOk ⟨I, ni, O, ni⟩ ni = false) := ptOk_k hlt (by cases e : vkB ⟨I, ni, O, ni⟩ k; rfl; exact absurd (vk_in e).2 (by simp [b2]))
     have B2 := Lib.hid b2
     clear b1 b2
     go_wp2_with fail
     go_quiet (first | (go_at_call_of 43 (O k); exact qAddS (l6In_at B2.out _)) | (go_at_call_of 43 (I k); exact qAddS (l6In_at B1.out _)))
     go_wp2_with fail
     go_ret
     exact ⟨retB HF.out.symm, (HBB.out _).trans (below_dr (by repeat (first | exact Dr.refl _ | exact ⟨_, rfl⟩ | refine Dr.drewN ?_ _)) _)⟩
    have HV : Hid (vkB ⟨I, ni, O, ni⟩ k = true) := vk_of b1 b2
    have HA2 : Hid (∀ j, j < k + 1 → vkB ⟨I, ni, O, ni⟩ j = true) := fun j hj => by
     by_cases e : j = k
     ·rw [e]; exact HV.out
     ·exact HA.out j (by omega)
    have HS : Hid (prO ⟨I, ni, O, ni⟩ (k + 1) = O k) := prO_succ _ _
    have B2 := Lib.hid b2
    clear b1 b2
    go_wp2_with fail
    go_quiet (first | (go_at_call_of 43 (O k); exact qAddS (l6In_at B2.out _)) | (go_at_call_of 43 (I k); exact qAddS (l6In_at B1.out _)))
    go_wp2_with fail
    go_roundw
    case rel => exact ⟨k + 1, by omega, by go_num, by rw [HS.out], HA2, (by repeat (first | exact Dr.refl _ | exact ⟨_, rfl⟩ | refine Dr.drewN ?_ _))⟩
    case measure => simp [intOf]; omega
   ·obtain rfl : k = ni := by omega
    have HT : Hid (ptOk ⟨I, k, O, k⟩ k = true) := ptOk_yes HI.out rfl rfl HA.out
    go_wp2_with fail
    go_ret
    exact ⟨retB HT.out.symm, (HBB.out _).trans (below_dr (by repeat (first | exact Dr.refl _ | exact ⟨_, rfl⟩ | refine Dr.drewN ?_ _)) _)⟩
def rvK (f : Nat → Int) (k : Nat) : Bool := inB (f k) 1 100
def rvB (m : Int) (n : Nat) (f : Nat → Int) : Bool := inB m 1 5 && (decide ((n : Int) = m) && allB n (rvK f))
theorem rvB_m {m : Int} {n : Nat} {f : Nat → Int} (h : inB m 1 5 = false) : rvB m n f = false := by simp [rvB, h]
theorem rvB_n {m : Int} {n : Nat} {f : Nat → Int} (h : ¬ (n : Int) = m) : rvB m n f = false := by simp [rvB, h]
theorem rvB_k {m : Int} {n k : Nat} {f : Nat → Int} (hk : k < n) (h : rvK f k = false) : rvB m n f = false := by simp [rvB, allB_not hk h]
theorem rvB_yes {m : Int} {n : Nat} {f : Nat → Int} (h : inB m 1 5 = true) (h1 : (n : Int) = m) (h2 : ∀ k, k < n → rvK f k = true) : rvB m n f = true := by simp [rvB, h, h1, allB_of h2]
theorem rvB_parts {m : Int} {n : Nat} {f : Nat → Int} (h : rvB m n f = true) : (1 ≤ m ∧ m ≤ 5) ∧ (n : Int) = m ∧ ∀ k, k < n → 1 ≤ f k ∧ f k ≤ 100 := by
 simp only [rvB, Bool.and_eq_true, decide_eq_true_eq] at h
 exact ⟨inB_true.1 h.1, h.2.1, fun k hk => inB_true.1 (allB_true.1 h.2.2 k hk)⟩
theorem runsValid_any (b off n c : Nat) (f : Nat → Int) (m : Int) (w : World) (hn : n ≤ 1000000) (hc : IC w b off n f) (hm : -9223372036854775808 ≤ m ∧ m ≤ 9223372036854775807) :
    Calls Tryz.prog 46 #[.int .i64 m, .slice (some ⟨b, off, none⟩) n c] w fun e w' => e = .returned (.bool (rvB m n f)) ∧ w = w' := by
  have HM := Lib.hid hm
  have HC := Lib.hid hc
  clear hc
  cases hin : inB m 1 5
  ·have HI := Lib.hid hin
   clear hin
   go_enter Tryz.func46, Tryz.ntmps46
   go_wp2_with fail
   refine (sectionsValidP_any m _ HM.out).mono ?_
   rintro e w' ⟨rfl, rfl⟩
   rw [HI.out]
   go_wp2_with fail
   go_ret
   exact ⟨retB (rvB_m HI.out).symm, rfl⟩
  have HI := Lib.hid hin
  clear hin
  by_cases h1 : ¬ (n : Int) = m
  ·have HR : Hid (rvB m n f = false) := rvB_n h1
   have g1 : ((n : Int) != m) = true := by simpa using h1
   clear h1
   go_enter Tryz.func46, Tryz.ntmps46
   go_wp2_with fail
   refine (sectionsValidP_any m _ HM.out).mono ?_
   rintro e w' ⟨rfl, rfl⟩
   rw [HI.out]
   go_wp2_with fail
   go_ret
   exact ⟨retB HR.out.symm, rfl⟩
  obtain rfl : m = (n : Int) := (Decidable.not_not.1 h1).symm
  clear h1
  have gn : ((n : Int) != (n : Int)) = false := by simp
  go_enter Tryz.func46, Tryz.ntmps46
  go_wp2_with fail
  refine (sectionsValidP_any _ _ HM.out).mono ?_
  rintro e w' ⟨rfl, rfl⟩
  rw [HI.out]
  go_wp2_with fail
  go_loop [18] (fun i => ∃ k : Nat, k ≤ n ∧ i = .int .i64 k ∧ Hid (∀ j, j < k → rvK f j = true)) (fun i => n - (intOf i).toNat)
  case atStart => exact ⟨0, Nat.zero_le _, rfl, fun j hj => by omega⟩
  case round =>
   obtain ⟨k, hk, rfl, HA⟩ := hrel
   by_cases hlt : k < n
   ·have hck := HC.out.at k hlt
    by_cases a1 : f k < 1
    ·have HF : Hid (rvB n n f = false) := rvB_k hlt (inB_false.2 (by omega))
     go_wp2_with fail
     go_ret
     exact ⟨retB HF.out.symm, rfl⟩
    by_cases a2 : 100 < f k
    ·have HF : Hid (rvB n n f = false) := rvB_k hlt (inB_false.2 (by omega))
     go_wp2_with fail
     go_ret
     exact ⟨retB HF.out.symm, rfl⟩
    have HN : Hid (∀ j, j < k + 1 → rvK f j = true) := fun j hj => by
     by_cases e : j = k
     ·rw [e]; exact inB_true.2 (by omega)
     ·exact HA.out j (by omega)
    go_wp2_with fail
    go_round
    case rel => exact ⟨k + 1, by omega, by go_num, HN⟩
    case measure => simp [intOf]; omega
   ·obtain rfl : k = n := by omega
    have HT : Hid (rvB k k f = true) := rvB_yes HI.out rfl HA.out
    go_wp2_with fail
    go_ret
    exact ⟨retB HT.out.symm, rfl⟩
theorem l2Runs_any (b off n c : Nat) (f : Nat → Int) (m : Int) (w : World) (hn : n ≤ 1000000) (hc : IC w b off n f) :
    Calls Tryz.prog 48 #[.int .i64 m, .slice (some ⟨b, off, none⟩) n c] w fun e w' => e = .returned (.bool (rvB m n f)) ∧ w = w' := by
  have HC := Lib.hid hc
  clear hc
  go_enter Tryz.func48, Tryz.ntmps48
  go_wp2_with fail
  go_loop [5] (fun i => ∃ k : Nat, k ≤ n ∧ i = .int .i64 k ∧ Hid (∀ j, j < k → rvK f j = true)) (fun i => n - (intOf i).toNat)
  case atStart => exact ⟨0, Nat.zero_le _, rfl, fun j hj => by omega⟩
  case round =>
   obtain ⟨k, hk, rfl, HA⟩ := hrel
   by_cases hlt : k < n
   ·have hck := HC.out.at k hlt
    cases hr : inB (f k) 1 100
    ·have HF : Hid (rvB m n f = false) := rvB_k hlt hr
     have HR := Lib.hid hr
     clear hr
     go_wp2_with fail
     refine (l6In_any _ _ _ _).mono ?_
     rintro e w' ⟨rfl, rfl⟩
     rw [HR.out]
     go_wp2_with fail
     go_ret
     exact ⟨retB HF.out.symm, rfl⟩
    ·have HN : Hid (∀ j, j < k + 1 → rvK f j = true) := fun j hj => by
      by_cases e : j = k
      ·rw [e]; exact hr
      ·exact HA.out j (by omega)
     have HR := Lib.hid hr
     clear hr
     go_wp2_with fail
     refine (l6In_any _ _ _ _).mono ?_
     rintro e w' ⟨rfl, rfl⟩
     rw [HR.out]
     go_wp2_with fail
     go_round
     case rel => exact ⟨k + 1, by omega, by go_num, HN⟩
     case measure => simp [intOf]; omega
   ·obtain rfl : k = n := by omega
    by_cases h1 : (k : Int) = m
    ·have g1 : ((k : Int) == m) = true := by simp [h1]
     have HE : Hid (rvB m k f = inB m 1 5) := by
      show _ = _
      unfold rvB
      rw [allB_of HA.out, decide_eq_true h1]
      simp
     clear h1
     go_wp2_with fail
     refine (l6In_any _ _ _ _).mono ?_
     rintro e w' ⟨rfl, rfl⟩
     rw [← HE.out]
     go_wp2_with fail
     go_ret
     exact ⟨rfl, rfl⟩
    ·have g1 : ((k : Int) == m) = false := by simpa using h1
     have HE : Hid (rvB m k f = false) := rvB_n h1
     clear h1
     go_wp2_with fail
     go_ret
     exact ⟨retB HE.out.symm, rfl⟩
def fzF (g : Nat → Int) (k : Nat) (i : Nat) : Value := if i < k then .int .i64 (g i) else .int .i64 0
theorem Own.fz {w : World} {g n k : Nat} {t : TypeId} {f : Nat → Int} {v : Int} (h : Own w g n n 1 t (fzF f k)) (hv : v = f k) : Own (w.setCell ⟨g, k, none⟩ (.int .i64 v)) g n n 1 t (fzF f (k + 1)) := by
 refine (h.set k _).congr fun i _ => ?_
 unfold fzF
 by_cases e : i = k
 ·subst e; rw [if_pos rfl, if_pos (by omega), hv]
 ·rw [if_neg e]
  by_cases h1 : i < k
  ·rw [if_pos h1, if_pos (by omega)]
  ·rw [if_neg h1, if_neg (by omega)]
theorem IC.of_fz {w : World} {g n : Nat} {t : TypeId} {f : Nat → Int} (h : Own w g n n 1 t (fzF f n)) : IC w g 0 n f := fun k hk => by
 rw [Nat.zero_add, h.cell1 hk]
 exact congrArg some (if_pos hk)
structure RunM (w wr : World) (gI gO gP n k : Nat) (I O : Nat → Int) : Prop where
  res : Bx wr w.heap.size 41 #[.slice none 0 0, .slice none 0 0]
  box : Bx wr gP 41 #[.slice (some ⟨gI, 0, none⟩) n n, .slice (some ⟨gO, 0, none⟩) n n]
  oI : Own wr gI n n 1 3 (fzF I k)
  oO : Own wr gO n n 1 3 (fzF O k)
  nIO : gI ≠ gO
  nIP : gI ≠ gP
  nOP : gO ≠ gP
  lI : w.heap.size < gI
  lO : w.heap.size < gO
  lP : w.heap.size < gP
  bl : Below w.heap.size w wr
theorem RunM.step {w wr : World} {gI gO gP n k : Nat} {I O : Nat → Int} {a b : Int} (h : RunM w wr gI gO gP n k I O) (ha : a = I k) (hb : b = O k) : RunM w ((wr.setCell ⟨gI, k, none⟩ (.int .i64 a)).setCell ⟨gO, k, none⟩ (.int .i64 b)) gI gO gP n (k + 1) I O := by
 have h1 := h.lI
 have h2 := h.lO
 have h3 := h.nIO
 have h4 := h.nIP
 have h5 := h.nOP
 exact ⟨(h.res.setOther (by dsimp only; omega) _).setOther (by dsimp only; omega) _, (h.box.setOther (by dsimp only; omega) _).setOther (by dsimp only; omega) _, (h.oI.fz ha).setOther (by dsimp only; omega) _,
   (h.oO.setOther (by dsimp only; omega) _).fz hb, h3, h4, h5, h1, h2, h.lP, (h.bl.setCell (by dsimp only; omega) _).setCell (by dsimp only; omega) _⟩
theorem RunM.below {w wr w' : World} {gI gO gP n k B : Nat} {I O : Nat → Int} (h : RunM w wr gI gO gP n k I O) (hb : Below B wr w') (hB : B = wr.heap.size) : RunM w w' gI gO gP n k I O := by
 subst hB
 exact ⟨h.res.below hb h.res.lt, h.box.below hb h.box.lt, h.oI.below hb h.oI.lt, h.oO.below hb h.oO.lt, h.nIO, h.nIP, h.nOP, h.lI, h.lO, h.lP, h.bl.trans (hb.mono h.bl.size)⟩
theorem own_fz {w : World} {g n : Nat} {t : TypeId} {f : Nat → Int} (hg : g = w.heap.size) (hn : n ≤ maxLen) : Own (w.alloc (.cells (madeCells #[.int .i64 0] n) t)) g n n 1 t (fzF f 0) := by
 subst hg
 exact (own_full1 w (.int .i64 0) n t hn).congr fun i _ => by unfold fzF; rw [if_neg (by omega)]
def RunC (w : World) (n : Nat) (I O : Nat → Int) (s : Value) (wx : World) : Prop := ∃ gI gO gP, s = .pointer (some ⟨gP, 0, none⟩) ∧ RunM w wx gI gO gP n 0 I O
theorem runC_mk {w wx : World} {gI gO gP n : Nat} {I O : Nat → Int} (box : Bx wx gP 41 #[.slice (some ⟨gI, 0, none⟩) n n, .slice (some ⟨gO, 0, none⟩) n n]) (res : Bx wx w.heap.size 41 #[.slice none 0 0, .slice none 0 0])
    (oI : Own wx gI n n 1 3 (fzF I 0)) (oO : Own wx gO n n 1 3 (fzF O 0)) (bl : Below w.heap.size w wx)
    (h : gI ≠ gO ∧ gI ≠ gP ∧ gO ≠ gP ∧ w.heap.size < gI ∧ w.heap.size < gO ∧ w.heap.size < gP) : RunC w n I O (.pointer (some ⟨gP, 0, none⟩)) wx :=
  ⟨gI, gO, gP, rfl, res, box, oI, oO, h.1, h.2.1, h.2.2.1, h.2.2.2.1, h.2.2.2.2.1, h.2.2.2.2.2, bl⟩
structure PtA (w : World) (b o : Nat) (p : Pt) (bi ci bo co : Nat) : Prop where
  c0 : w.cell? ⟨b, o, none⟩ = some (.slice (some ⟨bi, 0, none⟩) p.ni ci)
  c1 : w.cell? ⟨b, o + 1, none⟩ = some (.slice (some ⟨bo, 0, none⟩) p.no co)
  I : IC w bi 0 p.ni p.I
  O : IC w bo 0 p.no p.O
theorem PtA.keep {w w' : World} {b o : Nat} {p : Pt} {bi ci bo co : Nat} (h : PtA w b o p bi ci bo co) (hb : Below w.heap.size w w') : PtA w' b o p bi ci bo co :=
 ⟨by rw [hb.cell (p := ⟨b, o, none⟩) (World.block_lt_of_cell? w ⟨b, o, none⟩ h.c0)]; exact h.c0, by rw [hb.cell (p := ⟨b, o + 1, none⟩) (World.block_lt_of_cell? w ⟨b, o + 1, none⟩ h.c1)]; exact h.c1, h.I.keep hb, h.O.keep hb⟩
theorem PtA.val {w : World} {b o : Nat} {p : Pt} {bi ci bo co : Nat} (h : PtA w b o p bi ci bo co) : PtV w (.agg #[.slice (some ⟨bi, 0, none⟩) p.ni ci, .slice (some ⟨bo, 0, none⟩) p.no co]) p :=
 ⟨_, _, _, _, _, _, rfl, h.I, h.O⟩
def clB (p q : Pt) (k : Nat) : Bool := decide (p.I k < q.O k) && decide (q.I k < p.O k)
set_option maxRecDepth 100000 in
set_option maxHeartbeats 2000000 in
theorem validA_ok (b o : Nat) (p : Pt) (n : Nat) (bi ci bo co : Nat) (w : World) (hp : PtA w b o p bi ci bo co) (hok : ptOk p n = true) :
    Calls Tryz.prog 47 #[.pointer (some ⟨b, o, none⟩), .int .i64 n] w fun e w' => e = .returned (.bool true) ∧ Dr w w' := by
  obtain ⟨hn, h1, h2, h3⟩ := ptOk_parts hok
  have HP := Lib.hid hp
  have c0 := hp.c0
  have c1 := hp.c1
  have HI : Hid (inB (n : Int) 1 5 = true) := inB_true.2 hn
  have HV := Lib.hid h3
  clear hp hok h3
  obtain ⟨I, ni, O, no⟩ := p
  simp only at h1 h2 c0 c1
  obtain rfl : ni = n := by omega
  obtain rfl : no = ni := by omega
  have gn : ((no : Int) != (no : Int)) = false := by simp
  clear h1 h2
  go_enter Tryz.func47, Tryz.ntmps47
  go_wp2_with fail
  refine (sectionsValidP_any _ _ (by omega)).mono ?_
  rintro e w' ⟨rfl, rfl⟩
  rw [HI.out]
  go_wp2_with fail
  go_loopw [5, 29] (fun l i wr => ∃ k : Nat, k ≤ no ∧ i = .int .i64 k ∧ l = .int .i64 (prO ⟨I, no, O, no⟩ k) ∧ Dr w wr) (fun _ i _ => no - (intOf i).toNat)
  case atStart => exact ⟨0, Nat.zero_le _, rfl, rfl, Dr.refl _⟩
  case round =>
   obtain ⟨k, hk, rfl, rfl, q, rfl⟩ := hrel
   by_cases hlt : k < no
   ·have hcI := HP.out.I.at k hlt
    have hcO := HP.out.O.at k hlt
    simp only [Nat.zero_add] at hcI hcO
    have hv := vkB_true.1 (HV.out k hlt)
    simp only at hv
    have d1 : decide (I k < prO ⟨I, no, O, no⟩ k) = false := decide_eq_false (by omega)
    have d2 : decide (O k ≤ I k) = false := decide_eq_false (by omega)
    have d3 : decide (2000 < O k) = false := decide_eq_false (by omega)
    have HS : Hid (prO ⟨I, no, O, no⟩ (k + 1) = O k) := prO_succ _ _
    clear hv
    go_wp2_with fail
    go_quiet (fail)
    go_wp2_with fail
    go_roundw
    case rel => exact ⟨k + 1, by omega, by go_num, by rw [HS.out], (by repeat (first | exact Dr.refl _ | exact ⟨_, rfl⟩ | refine Dr.drewN ?_ _))⟩
    case measure => simp [intOf]; omega
   ·obtain rfl : k = no := by omega
    go_wp2_with fail
    go_ret
    exact ⟨rfl, (by repeat (first | exact Dr.refl _ | exact ⟨_, rfl⟩ | refine Dr.drewN ?_ _))⟩
set_option maxRecDepth 100000 in
set_option maxHeartbeats 2000000 in
theorem clashes_any (a b : Nat) (p q : Pt) (k : Nat) (pi po qi qo pj pk ql qm oi oo ri ro : Nat) (w : World) (hp : PtB w a p pi oi pj po oo pk) (hq : PtB w b q qi ri ql qo ro qm) (h1 : k < p.ni) (h2 : k < p.no) (h3 : k < q.ni) (h4 : k < q.no) :
    Calls Tryz.prog 180 #[.pointer (some ⟨a, 0, none⟩), .pointer (some ⟨b, 0, none⟩), .int .i64 k] w fun e w' => e = .returned (.bool (clB p q k)) ∧ Dr w w' := by
  have a0 := hp.c0
  have a1 := hp.c1
  have b0 := hq.c0
  have b1 := hq.c1
  have aI := hp.I.at k h1
  have aO := hp.O.at k h2
  have bI := hq.I.at k h3
  have bO := hq.O.at k h4
  have i1 : (k : Int) < (p.ni : Int) := by omega
  have i2 : (k : Int) < (p.no : Int) := by omega
  have i3 : (k : Int) < (q.ni : Int) := by omega
  have i4 : (k : Int) < (q.no : Int) := by omega
  have HC : Hid (clB p q k = (decide (p.I k < q.O k) && decide (q.I k < p.O k))) := rfl
  clear hp hq
  generalize p.I k = x1 at *
  generalize p.O k = x2 at *
  generalize q.I k = x3 at *
  generalize q.O k = x4 at *
  generalize clB p q k = cb at *
  by_cases d : x1 < x4
  ·have e1 : decide (x1 < x4) = true := decide_eq_true d
   have HC2 : Hid (cb = decide (x3 < x2)) := by show _ = _; rw [HC.out, e1]; rfl
   clear HC d
   go_enter Tryz.func180, Tryz.ntmps180
   go_wp2_with fail
   go_quiet (fail)
   go_wp2_with fail
   go_ret
   exact ⟨retB HC2.out.symm, (by repeat (first | exact Dr.refl _ | exact ⟨_, rfl⟩ | refine Dr.drewN ?_ _))⟩
  ·have e1 : decide (x1 < x4) = false := decide_eq_false d
   have HC2 : Hid (cb = false) := by show _ = _; rw [HC.out, e1]; rfl
   clear HC d
   go_enter Tryz.func180, Tryz.ntmps180
   go_wp2_with fail
   go_quiet (fail)
   go_wp2_with fail
   go_ret
   exact ⟨retB HC2.out.symm, (by repeat (first | exact Dr.refl _ | exact ⟨_, rfl⟩ | refine Dr.drewN ?_ _))⟩
set_option maxRecDepth 100000 in
set_option maxHeartbeats 2000000 in
theorem pathClash_none (p q : Pt) (n : Nat) (bi ci bo co di ei do' eo : Nat) (w : World) (hp : ptOk p n = true) (hq : ptOk q n = true) (hpI : IC w bi 0 p.ni p.I) (hpO : IC w bo 0 p.no p.O) (hqI : IC w di 0 q.ni q.I) (hqO : IC w do' 0 q.no q.O) (hc : ∀ k, k < n → clB p q k = false) :
    Calls Tryz.prog 177 #[.int .i64 n, .agg #[.slice (some ⟨bi, 0, none⟩) p.ni ci, .slice (some ⟨bo, 0, none⟩) p.no co], .agg #[.slice (some ⟨di, 0, none⟩) q.ni ei, .slice (some ⟨do', 0, none⟩) q.no eo]] w fun e w' => (∃ g c, e = .returned (.slice (some ⟨g, 0, none⟩) 0 c)) ∧ Below w.heap.size w w' := by
  have HOP := Lib.hid hp
  have HOQ := Lib.hid hq
  obtain ⟨hn, p1, p2, _⟩ := ptOk_parts hp
  obtain ⟨_, q1, q2, _⟩ := ptOk_parts hq
  have HCL := Lib.hid hc
  have HPB : Hid (∀ o, PtB ((w.alloc (.cells #[.slice (some ⟨bi, 0, none⟩) p.ni ci, .slice (some ⟨bo, 0, none⟩) p.no co] 41)).alloc o) w.heap.size p bi 0 ci bo 0 co) := fun o => (PtV.box hpI hpO).keep (below_all _ _)
  have HQB : Hid (PtB ((w.alloc (.cells #[.slice (some ⟨bi, 0, none⟩) p.ni ci, .slice (some ⟨bo, 0, none⟩) p.no co] 41)).alloc (.cells #[.slice (some ⟨di, 0, none⟩) q.ni ei, .slice (some ⟨do', 0, none⟩) q.no eo] 41)) (w.heap.size + 1) q di 0 ei do' 0 eo) := by
   show PtB _ _ _ _ _ _ _ _ _
   have h := PtV.box (t := 41) (ci := ei) (co := eo) (hqI.keep (below_all w (.cells #[.slice (some ⟨bi, 0, none⟩) p.ni ci, .slice (some ⟨bo, 0, none⟩) p.no co] 41))) (hqO.keep (below_all _ _))
   simpa using h
  have HB0 : Hid (Below w.heap.size w ((w.alloc (.cells #[.slice (some ⟨bi, 0, none⟩) p.ni ci, .slice (some ⟨bo, 0, none⟩) p.no co] 41)).alloc (.cells #[.slice (some ⟨di, 0, none⟩) q.ni ei, .slice (some ⟨do', 0, none⟩) q.no eo] 41))) := (below_all _ _).alloc (by simp) _
  have hmk := fun w => run_mk0 elInt n (by omega) (by omega) w
  clear hp hq hpI hpO hqI hqO hc
  go_enter Tryz.func177, Tryz.ntmps177
  go_wp2_with fail
  have HP1 := Lib.hid (HPB.out (.cells #[.slice (some ⟨di, 0, none⟩) q.ni ei, .slice (some ⟨do', 0, none⟩) q.no eo] 41))
  generalize (w.alloc (.cells #[.slice (some ⟨bi, 0, none⟩) p.ni ci, .slice (some ⟨bo, 0, none⟩) p.no co] 41)).alloc (.cells #[.slice (some ⟨di, 0, none⟩) q.ni ei, .slice (some ⟨do', 0, none⟩) q.no eo] 41) = w1 at *
  refine (validA_ok w.heap.size 0 p n bi ci bo co _ ⟨HP1.out.c0, HP1.out.c1, HP1.out.I, HP1.out.O⟩ HOP.out).mono ?_
  rintro e w2 ⟨rfl, hd2⟩
  have HB2 : Hid (Below w1.heap.size w1 w2) := below_dr hd2 _
  have HQ2 := Lib.hid (HQB.out.keep HB2.out)
  have HP2 := Lib.hid (HP1.out.keep HB2.out)
  clear hd2
  go_wp2_with fail
  refine (validA_ok (w.heap.size + 1) 0 q n di ei do' eo _ ⟨HQ2.out.c0, HQ2.out.c1, HQ2.out.I, HQ2.out.O⟩ HOQ.out).mono ?_
  rintro e w3 ⟨rfl, hd3⟩
  have HB3 : Hid (Below w2.heap.size w2 w3) := below_dr hd3 _
  have HQ3 := Lib.hid (HQ2.out.keep HB3.out)
  have HP3 := Lib.hid (HP2.out.keep HB3.out)
  have hb1s := HB0.out.size
  have HBW := Lib.hid (HB0.out.trans ((HB2.out.trans (HB3.out.mono HB2.out.size)).mono hb1s))
  clear hd3
  go_wp2_with fail
  have HB4 : Hid (Below w3.heap.size w3 (w3.alloc (.cells (madeCells #[.int .i64 0] (n * 1)) 3))) := below_all _ _
  go_loopw [7, 8, 21] (fun o _ i wr => ∃ k c : Nat, k ≤ n ∧ i = .int .i64 k ∧ o = .slice (some ⟨w3.heap.size, 0, none⟩) 0 c ∧ Hid (Below w3.heap.size w3 wr)) (fun _ _ i _ => n - (intOf i).toNat)
  case atStart => exact ⟨0, n, Nat.zero_le _, rfl, rfl, by simpa using HB4⟩
  case round =>
   obtain ⟨k, cc, hk, rfl, rfl, HB⟩ := hrel
   by_cases hlt : k < n
   ·have hki : (k : Int) < (n : Int) := by omega
    have HCK := Lib.hid (HCL.out k hlt)
    have HPk := Lib.hid (HP3.out.keep HB.out)
    have HQk := Lib.hid (HQ3.out.keep HB.out)
    go_wp2_with fail
    refine (clashes_any w.heap.size (w.heap.size + 1) p q k _ _ _ _ _ _ _ _ _ _ _ _ _ HPk.out HQk.out (by omega) (by omega) (by omega) (by omega)).mono ?_
    rintro e w5 ⟨rfl, hd5⟩
    have HB5 : Hid (Below w3.heap.size w3 w5) := HB.out.trans (below_dr hd5 _)
    rw [HCK.out]
    clear hd5
    go_wp2_with fail
    go_roundw
    case rel => exact ⟨k + 1, cc, by omega, by go_num, rfl, HB5⟩
    case measure => simp [intOf]; omega
   ·obtain rfl : k = n := by omega
    go_wp2_with fail
    go_ret
    exact ⟨⟨_, _, rfl⟩, HBW.out.trans (HB.out.mono HBW.out.size)⟩
def pA (ps : List Pt) (i : Nat) : Pt := ps[i]?.getD ⟨fun _ => 0, 0, fun _ => 0, 0⟩
structure PsOk (n : Nat) (ps : List Pt) : Prop where
  n1 : 1 ≤ n
  n5 : n ≤ 5
  len : ps.length ≤ 8
  ok : ∀ i, i < ps.length → ptOk (pA ps i) n = true
  nc : ∀ i j k, i < ps.length → j < i → k < n → clB (pA ps j) (pA ps i) k = false
def PsV (w : World) (ao : Option Addr) (ps : List Pt) : Prop := ∀ k, k < ps.length → ∃ b bi ci bo co, ao = some ⟨b, 0, none⟩ ∧ PtA w b (k * 2) (pA ps k) bi ci bo co
theorem PsV.keep {w w' : World} {ao : Option Addr} {ps : List Pt} (h : PsV w ao ps) (hb : Below w.heap.size w w') : PsV w' ao ps := fun k hk => by
 obtain ⟨b, bi, ci, bo, co, e, h1⟩ := h k hk
 exact ⟨b, bi, ci, bo, co, e, h1.keep hb⟩
theorem PtA.s {w : World} {b o : Nat} {p : Pt} {bi ci bo co : Nat} (h : PtA w b o p bi ci bo co) : ∀ W, Below w.heap.size w W → W.cell? ⟨b, o, none⟩ = some (.slice (some ⟨bi, 0, none⟩) p.ni ci) ∧ W.cell? ⟨b, o + 1, none⟩ = some (.slice (some ⟨bo, 0, none⟩) p.no co) := fun _ hb => ⟨(h.keep hb).c0, (h.keep hb).c1⟩
set_option linter.unusedSimpArgs false in
set_option maxRecDepth 100000 in
set_option maxHeartbeats 4000000 in
theorem pathsValid_ok (ao : Option Addr) (c n : Nat) (ps : List Pt) (w : World) (hk : PsOk n ps) (hv : PsV w ao ps) :
    Calls Tryz.prog 170 #[.int .i64 n, .slice ao ps.length c] w fun e w' => e = .returned (.bool true) ∧ Below w.heap.size w w' := by
  have HN := hk.n1
  have HN5 := hk.n5
  have hlen := hk.len
  have hleni : ¬ (8 : Int) < (ps.length : Int) := by omega
  have HI : Hid (inB (n : Int) 1 5 = true) := inB_true.2 (by omega)
  have HK := Lib.hid hk
  have HV := Lib.hid hv
  have HB0 : Hid (Below w.heap.size w w) := Below.refl _ _
  clear hk hv
  go_enter Tryz.func170, Tryz.ntmps170
  go_wp2_with fail
  refine (sectionsValidP_any n _ (by omega)).mono ?_
  rintro e w' ⟨rfl, rfl⟩
  rw [HI.out]
  go_wp2_with fail
  go_loopw [5, 6, 17] (fun _ _ i wr => ∃ k : Nat, k ≤ ps.length ∧ i = .int .i64 k ∧ Hid (Below w.heap.size w wr)) (fun _ _ i _ => ps.length - (intOf i).toNat)
  case atStart => exact ⟨0, Nat.zero_le _, rfl, HB0⟩
  case round =>
   obtain ⟨i, hi, rfl, HB⟩ := hrel
   by_cases hlt : i < ps.length
   ·have hii : (i : Int) < (ps.length : Int) := by omega
    obtain ⟨b, bi, ci, bo, co, rfl, h1⟩ := HV.out i hlt
    have HP := Lib.hid h1
    have HPi := Lib.hid (h1.keep HB.out)
    have HOK := Lib.hid (HK.out.ok i hlt)
    clear h1
    go_wp2_with fail
    refine (validA_ok b (i * 2) (pA ps i) n bi ci bo co _ HPi.out HOK.out).mono ?_
    rintro e w2 ⟨rfl, hd2⟩
    have HB2 := Lib.hid (HB.out.trans (below_dr hd2 _))
    clear hd2
    go_wp2_with fail
    go_loopw [6, 27] (fun _ q wr => ∃ j : Nat, j ≤ i ∧ q = .int .i64 j ∧ Hid (Below w.heap.size w wr)) (fun _ q _ => i - (intOf q).toNat)
    case atStart => exact ⟨0, Nat.zero_le _, rfl, HB2⟩
    case round =>
     obtain ⟨j, hj, rfl, HBJ⟩ := hrel
     by_cases hjt : j < i
     ·have hjj : (j : Int) < (i : Int) := by omega
      have hjl : (j : Int) < (ps.length : Int) := by omega
      obtain ⟨b', bi', ci', bo', co', e, h1⟩ := HV.out j (by omega)
      cases e
      have HPJ := Lib.hid (h1.keep HBJ.out)
      have HPI := Lib.hid (HP.out.keep HBJ.out)
      have HOKJ := Lib.hid (HK.out.ok j (by omega))
      have HCL : Hid (∀ k, k < n → clB (pA ps j) (pA ps i) k = false) := fun k hk => HK.out.nc i j k hlt hjt hk
      have HBd : Hid (Below wr.heap.size wr wr.drew) := (Below.refl _ _).drew
      clear h1
      generalize pA ps i = p at *
      generalize pA ps j = q at *
      have HSS : Hid (∀ W, Below wr.heap.size wr W → (W.cell? ⟨b, j * 2, none⟩ = some (.slice (some ⟨bi', 0, none⟩) q.ni ci') ∧ W.cell? ⟨b, j * 2 + 1, none⟩ = some (.slice (some ⟨bo', 0, none⟩) q.no co')) ∧ W.cell? ⟨b, i * 2, none⟩ = some (.slice (some ⟨bi, 0, none⟩) p.ni ci) ∧ W.cell? ⟨b, i * 2 + 1, none⟩ = some (.slice (some ⟨bo, 0, none⟩) p.no co)) := fun W h => ⟨HPJ.out.s W h, HPI.out.s W h⟩
      go_wp2_with fail
      refine wp_region_held_drew (S := fun W => (W.cell? ⟨b, j * 2, none⟩ = some (.slice (some ⟨bi', 0, none⟩) q.ni ci') ∧ W.cell? ⟨b, j * 2 + 1, none⟩ = some (.slice (some ⟨bo', 0, none⟩) q.no co')) ∧ W.cell? ⟨b, i * 2, none⟩ = some (.slice (some ⟨bi, 0, none⟩) p.ni ci) ∧ W.cell? ⟨b, i * 2 + 1, none⟩ = some (.slice (some ⟨bo, 0, none⟩) p.no co)) (by kernel_rfl) (HSS.out _ HBd.out) (fun hHeld => ?_)
      refine tkR 0 ?_
      refine tkR 1 ?_
      refine tkR 2 ?_
      refine tkR 3 ?_
      refine tkR 4 ?_
      refine tkR 5 ?_
      refine tkR 6 ?_
      refine tkR 7 ?_
      refine tkR 8 ?_
      refine r1R 9 (fun K hK => ?_)
      go_simp
      go_at_call 177
      go_must (refine Calls.mono (pathClash_none q p n bi' ci' bo' co' bi ci bo co _ HOKJ.out HOK.out (HPJ.out.keep HBd.out).I (HPJ.out.keep HBd.out).O (HPI.out.keep HBd.out).I (HPI.out.keep HBd.out).O HCL.out) ?_)
      rintro e w5 ⟨⟨gx, cx, rfl⟩, hb5⟩
      have HB5 := Lib.hid (HBd.out.trans (hb5.mono HBd.out.size))
      clear hb5
      refine oR hK ?_ (fun hHeld => ?_)
      ·try dsimp only
       exact HSS.out _ HB5.out
      clear hK K
      refine tkR 10 ?_
      refine tkR 11 ?_
      refine wpAnyH_done (by kernel_rfl) ?_ _
      clear hHeld
      have HB6 := Lib.hid (HBJ.out.trans (HB5.out.mono HBJ.out.size))
      go_wp2_with fail
      go_roundw
      case rel => exact ⟨j + 1, by omega, by go_num, HB6⟩
      case measure => simp [intOf]; omega
     ·obtain rfl : j = i := by omega
      go_wp2_with fail
      go_roundw
      case rel => exact ⟨j + 1, by omega, by go_num, HBJ⟩
      case measure => simp [intOf]; omega
   ·obtain rfl : i = ps.length := by omega
    go_wp2_with fail
    go_ret
    exact ⟨rfl, HB.out⟩
set_option maxRecDepth 100000 in
theorem hasSection_ok (ao : Option Addr) (c n : Nat) (k : Int) (ps : List Pt) (w : World) (hk : PsOk n ps) (hv : PsV w ao ps) :
    Calls Tryz.prog 152 #[.int .i64 n, .slice ao ps.length c, .int .i64 k] w fun e w' => e = .returned (.bool (decide (0 ≤ k) && decide (k < n))) ∧ Below w.heap.size w w' := by
  have HPV := Lib.hid (pathsValid_ok ao c n ps w hk hv)
  clear hk hv
  by_cases h0 : 0 ≤ k
  ·have e1 : decide (0 ≤ k) = true := decide_eq_true h0
   go_enter Tryz.func152, Tryz.ntmps152
   go_wp2_with fail
   refine HPV.out.mono ?_
   rintro e w' ⟨rfl, hb⟩
   have HB := Lib.hid hb
   clear hb
   go_wp2_with fail
   go_ret
   exact ⟨by rw [e1]; rfl, HB.out⟩
  ·have e1 : decide (0 ≤ k) = false := decide_eq_false h0
   go_enter Tryz.func152, Tryz.ntmps152
   go_wp2_with fail
   refine HPV.out.mono ?_
   rintro e w' ⟨rfl, hb⟩
   have HB := Lib.hid hb
   clear hb
   go_wp2_with fail
   go_ret
   exact ⟨by rw [e1]; rfl, HB.out⟩
end Go.Proofs.YtlkdmpfifpkpaaaGreatDoor

