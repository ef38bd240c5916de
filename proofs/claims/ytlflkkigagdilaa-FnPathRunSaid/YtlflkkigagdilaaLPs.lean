/-
  The law FnPathStands: plain, and the walk.
-/
import Derived.Test.YtlflkkigagdilaaPd
namespace Go.Proofs.Ytlflkkigagdilaa
open Go.RowKit

theorem step_pushI {P : Program} {w : World} {t e : TypeId} (he : Elem P t e (.int .i64 0) 1 8) {ops : Array Oper} {o : Oper} {a : Act} {K : Act → World → Prop} {Q : Exit → Act → World → Prop} {E : Prop} (hgd : o.guard = none) (so xo : Operand)
    (ho : o.op = .call { callee := .builtin .append, args := #[so, xo], argTypes := #[t, t] }) {g cap n : Nat} {f : Nat → Int} (hown : Own w g cap n 1 e (fun i => .int .i64 (f i))) (hs : a.eval so = .slice (some ⟨g, 0, none⟩) n cap)
    {q : Int} (hx : a.eval xo = .slice (some ⟨w.heap.size, 0, none⟩) 1 1) (hq : q = f n) (hn : n < 1000000000000)
    (h : ∀ g' cap' w', Own w' g' cap' (n + 1) 1 e (fun i => .int .i64 (f i)) → w.grownBy w' (some g) → ((g' = g ∧ cap' = cap) ∨ w.heap.size < g') → K (a.put o.dst (.slice (some ⟨g', 0, none⟩) (n + 1) cap')) w') :
    if Region.wanted o (yielded ops a.tmps) = true then Oper.wp P o a (w.alloc (.cells #[.int .i64 q] e)) K Q else E := by
  refine step_app he hgd so xo ho (hown.alloc _) hs ⟨w.heap.size, 0, none⟩ 1 1 hx (fun j hj => ?_) (fun _ _ => rfl) (by unfold maxLen; omega) (by omega) (fun g' cap' w' h2 h3 h4 => ?_)
  · obtain rfl : j = 0 := by omega
    rw [addr_add, Nat.zero_add]
    have hh : (w.alloc (.cells #[.int .i64 q] e)).heap[w.heap.size]? = some (.cells #[.int .i64 q] e (0, 0)) := heap_alloc_new _ _
    simp only [World.cell?, hh]
    simp [hq]
  · refine h g' cap' w' h2 (grownBy_trans (World.grownBy_alloc w _ _) h3) ?_
    rcases h4 with h4 | h4
    · exact .inl h4
    · right
      have : (w.alloc (.cells #[.int .i64 q] e)).heap.size = w.heap.size + 1 := by simp
      omega

/-- two paths agree -/
def eqPt (p q : Pt) : Bool := eqSl p.ni q.ni p.I q.I && eqSl p.no q.no p.O q.O
set_option maxHeartbeats 1000000 in
theorem samePath_any (v u : Value) (p q : Pt) (w : World) (hv : PtV w v p) (hu : PtV w u q) (h1 : p.ni ≤ 1000000) (h2 : p.no ≤ 1000000) (h3 : q.ni ≤ 1000000) (h4 : q.no ≤ 1000000) :
    Calls Try.prog 21 #[v, u] w fun e w' => e = .returned (.bool (eqPt p q)) ∧ Below w.heap.size w w' := by
  obtain ⟨bi, oi, ci, bo, oo, co, rfl, a1, a2⟩ := hv
  obtain ⟨bi', oi', ci', bo', oo', co', rfl, a3, a4⟩ := hu
  have hbb : ∀ a b, Below w.heap.size w ((w.alloc a).alloc b) := fun a b => ((Below.refl _ _).alloc (Nat.le_refl _) _).alloc (by simp) _
  have A1 := Lib.hid (fun a b => a1.keep (hbb a b))
  have A2 := Lib.hid (fun a b => a2.keep (hbb a b))
  have A3 := Lib.hid (fun a b => a3.keep (hbb a b))
  have A4 := Lib.hid (fun a b => a4.keep (hbb a b))
  have HB := Lib.hid hbb
  clear hbb a1 a2 a3 a4
  go_enter Try.func21, Try.ntmps21
  go_wp2_with fail
  refine (sameInts_any bi oi _ ci bi' oi' _ ci' p.I q.I _ (by omega) (by omega) (A1.out _ _) (A3.out _ _)).mono ?_
  rintro e w1 ⟨rfl, q1, rfl⟩
  cases he : eqSl p.ni q.ni p.I q.I
  · have HE : Hid (eqPt p q = false) := by show _ = _; unfold eqPt; rw [he]; rfl
    clear he
    go_wp2_with fail
    go_ret
    exact ⟨retB HE.out.symm, (HB.out _ _).trans (below_dr (by repeat (first | exact Dr.refl _ | exact ⟨_, rfl⟩ | refine Dr.drewN ?_ _)) _)⟩
  · have HE : Hid (eqPt p q = eqSl p.no q.no p.O q.O) := by show _ = _; unfold eqPt; rw [he]; rfl
    clear he
    go_wp2_with fail
    refine (sameInts_any bo oo _ co bo' oo' _ co' p.O q.O _ (by omega) (by omega) ((A2.out _ _).drewN _) ((A4.out _ _).drewN _)).mono ?_
    rintro e w1 ⟨rfl, q2, rfl⟩
    rw [← HE.out]
    go_wp2_with fail
    go_ret
    exact ⟨rfl, (HB.out _ _).trans (below_dr (by repeat (first | exact Dr.refl _ | exact ⟨_, rfl⟩ | refine Dr.drewN ?_ _)) _)⟩

/-- the runs of a path -/
def rnF (p : Pt) (k : Nat) : Int := p.O k - p.I k
theorem stn_sum (p : Pt) : ∀ k, stnF p k + sumTo (rnF p) (k + 1) = p.O k - p.I 0
  | 0 => by simp [stnF, sumTo, rnF]
  | k + 1 => by
    have ih := stn_sum p k
    simp only [stnF]
    rw [sumTo]
    have : rnF p (k + 1) = p.O (k + 1) - p.I (k + 1) := rfl
    omega
theorem stn_I (p : Pt) : ∀ k, p.I 0 + sumTo (rnF p) k = p.I k - stnF p k
  | 0 => by simp [stnF, sumTo]
  | k + 1 => by
    have h := stn_sum p k
    simp only [stnF]
    omega
theorem stn_mono {p : Pt} {n : Int} (h : ptOk p n = true) : ∀ k j, k < p.ni → j ≤ k → stnF p j ≤ stnF p k
  | 0, j, _, hj => by obtain rfl : j = 0 := by omega
                      exact Int.le_refl _
  | k + 1, j, hk, hj => by
    by_cases e : j = k + 1
    · subst e; exact Int.le_refl _
    · have ih := stn_mono h k j (by omega) (by omega)
      have h1 := ok_bd h hk
      rw [prO_succ] at h1
      simp only [stnF]
      omega
def shB (p : Pt) (k : Nat) : Bool := allB k (fun i => decide (rnF p i ≤ 100))
theorem shB_succ (p : Pt) (k : Nat) : shB p (k + 1) = (shB p k && decide (rnF p k ≤ 100)) := by
  unfold shB allB
  rw [List.range_succ, List.all_append]
  simp
theorem run_of_short {p : Pt} {n : Nat} (h : ptOk p n = true) (hs : shB p n = true) : runOk (p.I 0) (rnF p) n = true := by
  obtain ⟨hn, h1, h2, h3⟩ := ptOk_parts h
  have hni : p.ni = n := by omega
  have hall := allB_true.1 hs
  have hr : rvB n n (rnF p) = true := rvB_yes (inB_true.2 hn) rfl (fun k hk => by
    have a1 := vkB_true.1 (h3 k (by omega))
    have a2 := of_decide_eq_true (hall k hk)
    have : rnF p k = p.O k - p.I k := rfl
    exact inB_true.2 (by omega))
  have h0 := ok_bd h (k := 0) (by omega)
  have hp0 : prO p 0 = 0 := rfl
  unfold runOk
  rw [hr, inB_true.2 (show 0 ≤ p.I 0 ∧ p.I 0 ≤ 2000 by omega)]
  simp only [Bool.true_and]
  refine ptOk_yes (inB_true.2 hn) rfl rfl (fun k hk => ?_)
  have hk' : k < p.ni := by have : k < n := hk; omega
  have a1 := ok_bd h hk'
  have a2 := stn_bd h k hk'
  have e1 : (runPt (p.I 0) (rnF p) n).I k = p.I k - stnF p k := stn_I p k
  have e2 : (runPt (p.I 0) (rnF p) n).O k = p.O k - stnF p k := by
    have := stn_sum p k
    show p.I 0 + sumTo (rnF p) (k + 1) = _
    omega
  have e3 : prO (runPt (p.I 0) (rnF p) n) k ≤ p.I k - stnF p k := by
    cases k with
    | zero => rw [show prO (runPt (p.I 0) (rnF p) n) 0 = 0 from rfl]; simp only [stnF]; omega
    | succ k =>
      rw [prO_succ]
      have b1 := stn_sum p k
      have b2 : (runPt (p.I 0) (rnF p) n).O k = p.I 0 + sumTo (rnF p) (k + 1) := rfl
      rw [prO_succ] at a1
      simp only [stnF]
      omega
  have e4 : 0 ≤ p.I 0 + sumTo (rnF p) k := by
    cases k with
    | zero => simp [sumTo]; omega
    | succ k =>
      have b1 := stn_sum p k
      have b3 := ok_bd h (k := k) (by omega)
      have b4 := stn_bd h k (by omega)
      have b5 : 0 ≤ sumTo (rnF p) (k + 1) := by
        have : ∀ j, j ≤ p.ni → 0 ≤ sumTo (rnF p) j := fun j => by
          induction j with
          | zero => intro _; simp [sumTo]
          | succ j ih =>
            intro hj
            have := ih (by omega)
            have b := ok_bd h (k := j) (by omega)
            have e : rnF p j = p.O j - p.I j := rfl
            simp only [sumTo]
            omega
        exact this _ (by omega)
      omega
  refine vkB_true.2 ⟨?_, ?_, ?_⟩
  · rw [e1]; exact e3
  · rw [e1, e2]; omega
  · rw [e2]; omega
theorem same_iff {p : Pt} {n : Nat} (h : ptOk p n = true) : eqPt (runPt (p.I 0) (rnF p) n) p = (stnV p n == 0) := by
  obtain ⟨hn, h1, h2, h3⟩ := ptOk_parts h
  have hni : p.ni = n := by omega
  have hno : p.no = n := by omega
  have e1 : ∀ k, (runPt (p.I 0) (rnF p) n).I k = p.I k - stnF p k := fun k => stn_I p k
  have e2 : ∀ k, (runPt (p.I 0) (rnF p) n).O k = p.O k - stnF p k := fun k => by
    have := stn_sum p k
    show p.I 0 + sumTo (rnF p) (k + 1) = _
    omega
  rw [stnV_yes h]
  by_cases hz : stnF p (p.ni - 1) = 0
  · have hall : ∀ k, k < n → stnF p k = 0 := fun k hk => by
      have a := stn_mono h (p.ni - 1) k (by omega) (by omega)
      have b := stn_bd h k (by omega)
      omega
    rw [hz]
    have q1 : eqSl (runPt (p.I 0) (rnF p) n).ni p.ni (runPt (p.I 0) (rnF p) n).I p.I = true := eqSl_true.2 ⟨hni.symm, fun k hk => by rw [e1, hall k hk]; omega⟩
    have q2 : eqSl (runPt (p.I 0) (rnF p) n).no p.no (runPt (p.I 0) (rnF p) n).O p.O = true := eqSl_true.2 ⟨hno.symm, fun k hk => by rw [e2, hall k hk]; omega⟩
    unfold eqPt
    rw [q1, q2]
    rfl
  · have hd : (stnF p (p.ni - 1) == 0) = false := by simpa using hz
    rw [hd]
    have hf : eqSl (runPt (p.I 0) (rnF p) n).no p.no (runPt (p.I 0) (rnF p) n).O p.O = false := by
      rw [show (runPt (p.I 0) (rnF p) n).no = p.no from hno.symm]
      exact eqSl_at (k := p.ni - 1) (by omega) (by rw [e2]; omega)
    unfold eqPt
    rw [hf]
    simp
end Go.Proofs.Ytlflkkigagdilaa
