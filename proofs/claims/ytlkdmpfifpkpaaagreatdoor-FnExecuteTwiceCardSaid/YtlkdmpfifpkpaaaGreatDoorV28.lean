/-
  Parts of the proof: Zd Ze Zf. No condition.
-/
import Derived.Test.YtlkdmpfifpkpaaaGreatDoorV27
namespace Go.Proofs.YtlkdmpfifpkpaaaGreatDoor
open Go.RowKit
def oF (l : List Nat) (i : Nat) : Int := ((l[i]?.getD 0 : Nat) : Int)
theorem oF_at {l : List Nat} {i : Nat} (h : i < l.length) : oF l i = (l[i] : Int) := by unfold oF; simp [h]
structure OrI (w wr : World) (g cap : Nat) (l : List Nat) : Prop where
  ow : Own wr g cap l.length 1 3 (fun i => .int .i64 (oF l i))
  gz : w.heap.size ≤ g
  bl : Below w.heap.size w wr
theorem OrI.keep {w wr wa : World} {g cap : Nat} {l : List Nat} (h : OrI w wr g cap l) (hb : Below wr.heap.size wr wa) : OrI w wa g cap l :=
 ⟨h.ow.below hb h.ow.lt, h.gz, h.bl.trans (hb.mono h.bl.size)⟩
def OrR (l : List Nat) (w : World) (e : Ending) (w' : World) : Prop := ∃ g c, e = .returned (.slice (some ⟨g, 0, none⟩) l.length c) ∧ OrI w w' g c l
theorem ord_old {l : List Nat} {m j i : Nat} (hm : m ≤ l.length) (hi : i < m) : oF (l.take m ++ j :: l.drop m) i = oF l i := by
 unfold oF
 rw [List.getElem?_append_left (by rw [List.length_take]; omega), List.getElem?_take_of_lt hi]
theorem ord_mid {l : List Nat} {m j : Nat} (hm : m ≤ l.length) : oF (l.take m ++ j :: l.drop m) m = (j : Int) := by
 unfold oF
 rw [List.getElem?_append_right (by rw [List.length_take]; omega), List.length_take, Nat.min_eq_left hm, Nat.sub_self]
 rfl
theorem ord_new {l : List Nat} {m j i : Nat} (hm : m ≤ l.length) : oF (l.take m ++ j :: l.drop m) (m + 1 + i) = oF l (m + i) := by
 unfold oF
 rw [List.getElem?_append_right (by rw [List.length_take]; omega), List.length_take, Nat.min_eq_left hm, show m + 1 + i - m = i + 1 by omega, List.getElem?_cons_succ, List.getElem?_drop]
set_option linter.unusedSimpArgs false in
set_option maxRecDepth 100000 in
set_option maxHeartbeats 1000000 in
theorem l2Order_any (ao : Option Addr) (c n k : Nat) (ps : List Pt) (w : World) (hk : PsOk n ps) (hkn : k < n) (hv : PsV w ao ps) :
    Calls Tryz.prog 155 #[.slice ao ps.length c, .int .i64 k] w (OrR (ordL ps k ps.length) w) := by
  have HK := Lib.hid hk
  have HV := Lib.hid hv
  have hlen := hk.len
  have hn5 := hk.n5
  clear hk hv
  have HI0 : Hid (OrI w (w.alloc (.cells #[] 3)) w.heap.size 0 []) := ⟨own_empty _ _ _ _, Nat.le_refl _, below_all _ _⟩
  go_enter Tryz.func155, Tryz.ntmps155
  go_wp2_with fail
  go_loopw [5, 6, 7, 8] (fun o i _ _ wr => ∃ j g cap : Nat, j ≤ ps.length ∧ i = .int .i64 j ∧ o = .slice (some ⟨g, 0, none⟩) j cap ∧ Hid (OrI w wr g cap (ordL ps k j))) (fun _ i _ _ _ => ps.length - (intOf i).toNat)
  case atStart => exact ⟨0, w.heap.size, 0, Nat.zero_le _, rfl, rfl, HI0⟩
  case round =>
   obtain ⟨j, g, cap, hj, rfl, rfl, HI⟩ := hrel
   have hol := ordL_len ps k j
   by_cases hlt : j < ps.length
   ·have hji : (j : Int) < (ps.length : Int) := by omega
    obtain ⟨b, bi, ci, bo, co, rfl, hp⟩ := HV.out j hlt
    have HP := Lib.hid hp
    obtain ⟨_, z1, _, _⟩ := ptOk_parts (HK.out.ok j hlt)
    have HOL := Lib.hid hol
    clear hp hol
    go_wp2_with fail
    go_loopw [7] (fun a wr2 => ∃ m : Nat, m ≤ j ∧ a = .int .i64 m ∧ Hid (∀ q, q < m → ∀ x, (ordL ps k j)[q]? = some x → (pA ps x).I k < (pA ps j).I k) ∧ Dr wr wr2) (fun a _ => j - (intOf a).toNat)
    case atStart => exact ⟨0, Nat.zero_le _, rfl, (fun q hq => by omega), Dr.refl _⟩
    case round =>
     obtain ⟨m, hm, rfl, HA, d, rfl⟩ := hrel
     have HIr : Hid (∀ q, OrI w (wr.drewN q) g cap (ordL ps k j)) := fun q => HI.out.keep (below_drewN (Below.refl _ _) q)
     have hgc := HI.out.ow.1
     rw [HOL.out] at hgc
     by_cases hmt : m < j
     ·have hmi : (m : Int) < (j : Int) := by omega
      obtain ⟨x, hx⟩ : ∃ x, (ordL ps k j)[m]? = some x := ⟨_, List.getElem?_eq_getElem (by rw [HOL.out]; exact hmt)⟩
      have hxj : x < j := (ordL_mem j).1 (List.mem_of_getElem? hx)
      have hco := HI.out.ow.cell1 (i := m) (by rw [HOL.out]; exact hmt)
      have hxo : oF (ordL ps k j) m = (x : Int) := by unfold oF; rw [hx]; rfl
      rw [hxo] at hco
      obtain ⟨b', bi', ci', bo', co', e, hq⟩ := HV.out x (by omega)
      cases e
      obtain ⟨_, y1, _, _⟩ := ptOk_parts (HK.out.ok x (by omega))
      have hp := HP.out.keep HI.out.bl
      have hq := hq.keep HI.out.bl
      have p0 := hp.c0
      have q0 := hq.c0
      have pI := hp.I.at k (by omega)
      have qI := hq.I.at k (by omega)
      rw [Nat.zero_add] at pI qI
      have i1 : (k : Int) < ((pA ps j).ni : Int) := by omega
      have i2 : (k : Int) < ((pA ps x).ni : Int) := by omega
      have i3 : (x : Int) < (ps.length : Int) := by omega
      have HXV := Lib.hid hx
      have HXF : Hid ((pA ps x).I k = (pA ps x).I k ∧ (pA ps j).I k = (pA ps j).I k) := ⟨rfl, rfl⟩
      clear hp hq y1 hx hxo
      by_cases hl : (pA ps x).I k < (pA ps j).I k
      ·have HA2 : Hid (∀ q, q < m + 1 → ∀ x, (ordL ps k j)[q]? = some x → (pA ps x).I k < (pA ps j).I k) := fun q hq y hy => by
        by_cases e : q = m
        ·subst e
         rw [HXV.out] at hy
         cases hy
         exact hl
        ·exact HA.out q (by omega) y hy
       have d1 : decide ((pA ps x).I k < (pA ps j).I k) = true := decide_eq_true hl
       clear hl
       generalize (pA ps x).I k = vx at *
       generalize (pA ps j).I k = vj at *
       go_wp2_with fail
       go_quiet (fail)
       go_wp2_with fail
       go_roundw
       case rel => exact ⟨m + 1, by omega, by go_num, HA2, (by repeat (first | exact Dr.refl _ | exact ⟨_, rfl⟩ | refine Dr.drewN ?_ _))⟩
       case measure => simp [intOf]; omega
      ·have d1 : decide ((pA ps x).I k < (pA ps j).I k) = false := decide_eq_false hl
       have HIN : Hid (ordL ps k (j + 1) = (ordL ps k j).take m ++ j :: (ordL ps k j).drop m) := insK_at (ordL ps k j) m HA.out (fun y hy => by
        rw [HXV.out] at hy
        cases hy
        exact hl) (by rw [HOL.out]; omega)
       clear hl
       generalize (pA ps x).I k = vx at *
       generalize (pA ps j).I k = vj at *
       go_wp2_with fail
       go_quiet (fail)
       have HI1 : Hid (OrI w ((wr.drewN d).drewN nq) g cap (ordL ps k j)) := HI.out.keep (below_drewN (below_drewN (Below.refl _ _) d) nq)
       generalize (wr.drewN d).drewN nq = W at *
       have HOLD : Hid (∀ i, i < m → oF (ordL ps k (j + 1)) i = oF (ordL ps k j) i) := fun i hi => by rw [HIN.out]; exact ord_old (by rw [HOL.out]; omega) hi
       have HMID : Hid (oF (ordL ps k (j + 1)) m = (j : Int)) := by show _ = _; rw [HIN.out]; exact ord_mid (by rw [HOL.out]; omega)
       have HNEW : Hid (∀ i, oF (ordL ps k (j + 1)) (m + 1 + i) = oF (ordL ps k j) (m + i)) := fun i => by rw [HIN.out]; exact ord_new (by rw [HOL.out]; omega)
       have hgW := HI1.out.ow.lt
       have hgz := HI1.out.gz
       have hwW := HI1.out.bl.size
       have HC1 : Hid (∀ i, i < m * 1 → (W.alloc (.cells #[] 3)).cell? ((⟨g, 0, none⟩ : Addr).add i) = some (.int .i64 (oF (ordL ps k (j + 1)) (0 * 1 + i)))) := fun i hi => by
        have h := (IC.of_own HI1.out.ow).keep (below_all W (.cells #[] 3)) i (by rw [HOL.out]; omega)
        rw [addr_add, h, show 0 * 1 + i = i by omega, HOLD.out i (by omega)]
       have HCF : Hid (∀ w2, Below W.heap.size W w2 → Hid (∀ i, i < (j - m) * 1 → w2.cell? ((⟨g, m, none⟩ : Addr).add i) = some (.int .i64 (oF (ordL ps k (j + 1)) ((m + 1) * 1 + i))))) := fun w2 hb i hi => by
        have hi2 : i < j - m := by omega
        first
          | omega
          | (have h := (IC.of_own (OrI.keep HI1.out hb).ow) (m + i) (by rw [HOL.out]; omega)
             rw [addr_add, show m + i = 0 + (m + i) by omega, h, show (m + 1) * 1 + i = m + 1 + i by omega, HNEW.out i])
       go_wp2_with (first
         | (at_builtin; refine wpList_app elInt rfl (.tmp 44) (.tmp 47) (by rfl) (own_empty W 1 _ (fun i => .int .i64 (oF (ordL ps k (j + 1)) i))) (by rfl) ⟨g, 0, none⟩ m cap (by rfl) HC1.out (fun _ _ => rfl) (by unfold maxLen; omega) (by omega) ?_; intro g1 c1 w1 HA1 hg1 hd1; have hz1 := hg1.size; rw [World.size_alloc] at hz1 hd1; have HB1 : Hid (Below W.heap.size W w1) := (below_all W (.cells #[] 3)).trans (below_of_grown hg1 (Nat.le_refl _) (by simp)); have hg1W : W.heap.size ≤ g1 := (by rcases hd1 with ⟨q, _⟩ | q <;> omega); rw [Nat.zero_add] at HA1; have HO1 := Lib.hid HA1; clear HA1 hg1 hd1)
         | (at_builtin; refine wpList_pushI elInt rfl (.tmp 49) (.tmp 51) (by rfl) HO1.out (by rfl) (by rfl) HMID.out.symm (by omega) ?_; intro g2 c2 w2 HA2 hg2 hd2; have hz2 := hg2.size; have HB2 : Hid (Below W.heap.size W w2) := HB1.out.trans (below_of_grown hg2 (by omega) (by omega)); have hg2W : W.heap.size ≤ g2 := (by rcases hd2 with ⟨q, _⟩ | q <;> omega); have HO2 := Lib.hid HA2; clear HA2 hg2 hd2; have HC2 := HCF.out w2 HB2.out)
         | (at_builtin; refine wpList_app elInt rfl (.tmp 53) (.tmp 56) (by rfl) HO2.out (by rfl) ⟨g, m, none⟩ (j - m) (cap - m) (by rfl) HC2.out (fun _ _ => rfl) (by unfold maxLen; omega) (by omega) ?_; intro g3 c3 w3 HA3 hg3 hd3; have hz3 := hg3.size; have HB3 : Hid (Below W.heap.size W w3) := HB2.out.trans (below_of_grown hg3 (by omega) (by omega)); have hg3W : W.heap.size ≤ g3 := (by rcases hd3 with ⟨q, _⟩ | q <;> omega); have HO3 := Lib.hid HA3; clear HA3 hg3 hd3))
       have e3 : m + 1 + (j - m) = j + 1 := by omega
       rw [e3] at HO3
       refine ⟨⟨j + 1, g3, c3, by omega, by go_num, by first | rfl | rw [e3], ⟨by show Own _ _ _ _ _ _ _; rw [ordL_len]; exact HO3.out, by omega, HI1.out.bl.trans (HB3.out.mono hwW)⟩⟩, by simp [intOf]; omega⟩
     ·obtain rfl : m = j := by omega
      have HIN : Hid (ordL ps k (m + 1) = (ordL ps k m).take m ++ m :: (ordL ps k m).drop m) := insK_at (ordL ps k m) m HA.out (fun y hy => by
       rw [List.getElem?_eq_none (by rw [HOL.out]; exact Nat.le_refl _)] at hy
       cases hy) (by rw [HOL.out]; exact Nat.le_refl _)
      go_wp2_with fail
      go_quiet (fail)
      have HI1 : Hid (OrI w ((wr.drewN d).drewN nq) g cap (ordL ps k m)) := HI.out.keep (below_drewN (below_drewN (Below.refl _ _) d) nq)
      generalize (wr.drewN d).drewN nq = W at *
      have HOLD : Hid (∀ i, i < m → oF (ordL ps k (m + 1)) i = oF (ordL ps k m) i) := fun i hi => by rw [HIN.out]; exact ord_old (by rw [HOL.out]; omega) hi
      have HMID : Hid (oF (ordL ps k (m + 1)) m = (m : Int)) := by show _ = _; rw [HIN.out]; exact ord_mid (by rw [HOL.out]; omega)
      have HNEW : Hid (∀ i, oF (ordL ps k (m + 1)) (m + 1 + i) = oF (ordL ps k m) (m + i)) := fun i => by rw [HIN.out]; exact ord_new (by rw [HOL.out]; omega)
      have hgW := HI1.out.ow.lt
      have hgz := HI1.out.gz
      have hwW := HI1.out.bl.size
      have HC1 : Hid (∀ i, i < m * 1 → (W.alloc (.cells #[] 3)).cell? ((⟨g, 0, none⟩ : Addr).add i) = some (.int .i64 (oF (ordL ps k (m + 1)) (0 * 1 + i)))) := fun i hi => by
       have h := (IC.of_own HI1.out.ow).keep (below_all W (.cells #[] 3)) i (by rw [HOL.out]; omega)
       rw [addr_add, h, show 0 * 1 + i = i by omega, HOLD.out i (by omega)]
      have HCF : Hid (∀ w2, Below W.heap.size W w2 → Hid (∀ i, i < (0) * 1 → w2.cell? (((if cap = m then ⟨g, 0, none⟩ else ⟨g, m, none⟩) : Addr).add i) = some (.int .i64 (oF (ordL ps k (m + 1)) ((m + 1) * 1 + i))))) := fun w2 hb i hi => by
       have hi2 : i < 0 := by omega
       first
         | omega
         | (have h := (IC.of_own (OrI.keep HI1.out hb).ow) (m + i) (by rw [HOL.out]; omega)
            rw [addr_add, show m + i = 0 + (m + i) by omega, h, show (m + 1) * 1 + i = m + 1 + i by omega, HNEW.out i])
      go_wp2_with (first
        | (at_builtin; refine wpList_app elInt rfl (.tmp 44) (.tmp 47) (by rfl) (own_empty W 1 _ (fun i => .int .i64 (oF (ordL ps k (m + 1)) i))) (by rfl) ⟨g, 0, none⟩ m cap (by rfl) HC1.out (fun _ _ => rfl) (by unfold maxLen; omega) (by omega) ?_; intro g1 c1 w1 HA1 hg1 hd1; have hz1 := hg1.size; rw [World.size_alloc] at hz1 hd1; have HB1 : Hid (Below W.heap.size W w1) := (below_all W (.cells #[] 3)).trans (below_of_grown hg1 (Nat.le_refl _) (by simp)); have hg1W : W.heap.size ≤ g1 := (by rcases hd1 with ⟨q, _⟩ | q <;> omega); rw [Nat.zero_add] at HA1; have HO1 := Lib.hid HA1; clear HA1 hg1 hd1)
        | (at_builtin; refine wpList_pushI elInt rfl (.tmp 49) (.tmp 51) (by rfl) HO1.out (by rfl) (by rfl) HMID.out.symm (by omega) ?_; intro g2 c2 w2 HA2 hg2 hd2; have hz2 := hg2.size; have HB2 : Hid (Below W.heap.size W w2) := HB1.out.trans (below_of_grown hg2 (by omega) (by omega)); have hg2W : W.heap.size ≤ g2 := (by rcases hd2 with ⟨q, _⟩ | q <;> omega); have HO2 := Lib.hid HA2; clear HA2 hg2 hd2; have HC2 := HCF.out w2 HB2.out)
        | (at_builtin; refine wpList_app elInt rfl (.tmp 53) (.tmp 56) (by rfl) HO2.out (by rfl) (if cap = m then ⟨g, 0, none⟩ else ⟨g, m, none⟩) (0) (cap - m) (by show Value.slice _ _ _ = _; split <;> rfl) HC2.out (fun _ _ => rfl) (by unfold maxLen; omega) (by omega) ?_; intro g3 c3 w3 HA3 hg3 hd3; have hz3 := hg3.size; have HB3 : Hid (Below W.heap.size W w3) := HB2.out.trans (below_of_grown hg3 (by omega) (by omega)); have hg3W : W.heap.size ≤ g3 := (by rcases hd3 with ⟨q, _⟩ | q <;> omega); have HO3 := Lib.hid HA3; clear HA3 hg3 hd3))
      have e3 : m + 1 + (0) = m + 1 := by omega
      rw [e3] at HO3
      refine ⟨⟨m + 1, g3, c3, by omega, by go_num, by first | rfl | rw [e3], ⟨by show Own _ _ _ _ _ _ _; rw [ordL_len]; exact HO3.out, by omega, HI1.out.bl.trans (HB3.out.mono hwW)⟩⟩, by simp [intOf]; omega⟩
   ·obtain rfl : j = ps.length := by omega
    go_wp2_with fail
    go_ret
    exact ⟨g, cap, by rw [hol]; rfl, HI.out⟩
theorem frF_take {ps : List Pt} {k : Nat} {r t : Int} {l : List Nat} {i : Nat} (h : i < l.length) : frF ps k r (l.take (i + 1)) t = frS ps k r (frF ps k r (l.take i) t) l[i] := by
 unfold frF
 rw [List.take_succ_eq_append_getElem h, List.foldl_append]
 rfl
set_option linter.unusedSimpArgs false in
set_option maxRecDepth 100000 in
set_option maxHeartbeats 1000000 in
theorem l2Free_any (ao : Option Addr) (c n k : Nat) (t r : Int) (ps : List Pt) (w : World) (hk : PsOk n ps) (hkn : k < n) (hv : PsV w ao ps) (ht : 0 ≤ t ∧ t ≤ 1000000) (hr : 0 ≤ r ∧ r ≤ 100) :
    Calls Tryz.prog 136 #[.slice ao ps.length c, .int .i64 k, .int .i64 t, .int .i64 r] w fun e w' => e = .returned (.int .i64 (frF ps k r (ordL ps k ps.length) t)) ∧ Below w.heap.size w w' := by
  have HK := Lib.hid hk
  have HV := Lib.hid hv
  have hlen := hk.len
  have hn5 := hk.n5
  have HOR := Lib.hid (l2Order_any ao c n k ps w hk hkn hv)
  have hol := ordL_len ps k ps.length
  have HFB : Hid (∀ i, i ≤ ps.length → 0 ≤ frF ps k r ((ordL ps k ps.length).take i) t ∧ frF ps k r ((ordL ps k ps.length).take i) t ≤ 1000000) := fun i hi => frF_bd hk hkn _ t (fun j hj => (ordL_mem ps.length).1 (List.mem_of_mem_take hj)) ht
  have HMM : Hid (∀ j, j ∈ ordL ps k ps.length → j < ps.length) := fun j hj => (ordL_mem ps.length).1 hj
  have HTT : Hid (∀ i, (h : i < (ordL ps k ps.length).length) → frF ps k r ((ordL ps k ps.length).take (i + 1)) t = frS ps k r (frF ps k r ((ordL ps k ps.length).take i) t) (ordL ps k ps.length)[i]) := fun i h => frF_take h
  have HT0 : Hid (frF ps k r ((ordL ps k ps.length).take 0) t = t) := rfl
  have HTN : Hid (frF ps k r ((ordL ps k ps.length).take ps.length) t = frF ps k r (ordL ps k ps.length) t) := by show _ = _; rw [List.take_of_length_le (by omega)]
  clear hk hv ht
  generalize ordL ps k ps.length = l at *
  have HOL := Lib.hid hol
  clear hol
  go_enter Tryz.func136, Tryz.ntmps136
  go_wp2_with fail
  refine HOR.out.mono ?_
  rintro e w2 ⟨g, cap, rfl, HI0⟩
  have HI := Lib.hid HI0
  rw [HOL.out]
  clear HI0 HOR
  go_wp2_with fail
  go_loopw [2, 10, 11] (fun s i _ wr => ∃ j : Nat, j ≤ ps.length ∧ i = .int .i64 j ∧ s = .int .i64 (frF ps k r (l.take j) t) ∧ Hid (Below w2.heap.size w2 wr)) (fun _ i _ _ => ps.length - (intOf i).toNat)
  case atStart => exact ⟨0, Nat.zero_le _, rfl, by rw [HT0.out], Lib.hid (Below.refl _ _)⟩
  case round =>
   obtain ⟨j, hj, rfl, rfl, HB⟩ := hrel
   by_cases hlt : j < ps.length
   ·have hji : (j : Int) < (ps.length : Int) := by omega
    have hjl : j < l.length := by rw [HOL.out]; exact hlt
    have hx := HMM.out l[j] (List.getElem_mem hjl)
    have HIr := Lib.hid (HI.out.keep HB.out)
    have hco := HIr.out.ow.cell1 (i := j) hjl
    rw [oF_at hjl] at hco
    have HST := Lib.hid (HTT.out j hjl)
    have hfb := HFB.out j hj
    generalize l[j] = x at *
    obtain ⟨b, bi, ci, bo, co, rfl, hp0⟩ := HV.out x hx
    have hp := hp0.keep HIr.out.bl
    obtain ⟨_, z1, z2, _⟩ := ptOk_parts (HK.out.ok x hx)
    have hat := ptOk_at (HK.out.ok x hx) hkn
    have p0 := hp.c0
    have p1 := hp.c1
    have pI := (hp.keep (below_all wr (.cells #[.slice (some ⟨bi, 0, none⟩) (pA ps x).ni ci, .slice (some ⟨bo, 0, none⟩) (pA ps x).no co] 41))).I.at k (by omega)
    have pO := (hp.keep (below_all wr (.cells #[.slice (some ⟨bi, 0, none⟩) (pA ps x).ni ci, .slice (some ⟨bo, 0, none⟩) (pA ps x).no co] 41))).O.at k (by omega)
    rw [Nat.zero_add] at pI pO
    have i1 : (k : Int) < ((pA ps x).ni : Int) := by omega
    have i2 : (k : Int) < ((pA ps x).no : Int) := by omega
    have i3 : (x : Int) < (ps.length : Int) := by omega
    have HFS : Hid (frS ps k r (frF ps k r (l.take j) t) x = if frK (pA ps x) k (frF ps k r (l.take j) t) r = true then (pA ps x).O k else frF ps k r (l.take j) t) := rfl
    have HFK : Hid (frK (pA ps x) k (frF ps k r (l.take j) t) r = (decide (frF ps k r (l.take j) t < (pA ps x).O k) && decide ((pA ps x).I k < frF ps k r (l.take j) t + r))) := rfl
    have HB2 := Lib.hid (HB.out.alloc HB.out.size (.cells #[.slice (some ⟨bi, 0, none⟩) (pA ps x).ni ci, .slice (some ⟨bo, 0, none⟩) (pA ps x).no co] 41))
    clear hp hp0 z1 z2
    generalize frK (pA ps x) k (frF ps k r (l.take j) t) r = fk at *
    generalize frS ps k r (frF ps k r (l.take j) t) x = fs at *
    generalize frF ps k r (l.take j) t = u at *
    generalize (pA ps x).I k = x1 at *
    generalize (pA ps x).O k = x2 at *
    have hw : IntKind.i64.wrap (u + r) = u + r := IntWalk.i64_in _ (by omega)
    by_cases d1 : u < x2
    ·have f1 : decide (u < x2) = true := decide_eq_true d1
     by_cases d2 : x1 < u + r
     ·have f2 : decide (x1 < u + r) = true := decide_eq_true d2
      have HE : Hid (frF ps k r (l.take (j + 1)) t = x2) := by show _ = _; rw [HST.out, HFS.out, HFK.out, f1, f2]; rfl
      clear HFS HFK
      go_wp2_with fail
      go_roundw
      case rel => exact ⟨j + 1, by omega, by go_num, by rw [HE.out], HB2⟩
      case measure => simp [intOf]; omega
     ·have f2 : decide (x1 < u + r) = false := decide_eq_false d2
      have HE : Hid (frF ps k r (l.take (j + 1)) t = u) := by show _ = _; rw [HST.out, HFS.out, HFK.out, f1, f2]; rfl
      clear HFS HFK
      go_wp2_with fail
      go_roundw
      case rel => exact ⟨j + 1, by omega, by go_num, by rw [HE.out], HB2⟩
      case measure => simp [intOf]; omega
    ·have f1 : decide (u < x2) = false := decide_eq_false d1
     have HE : Hid (frF ps k r (l.take (j + 1)) t = u) := by show _ = _; rw [HST.out, HFS.out, HFK.out, f1]; rfl
     clear HFS HFK
     go_wp2_with fail
     go_roundw
     case rel => exact ⟨j + 1, by omega, by go_num, by rw [HE.out], HB2⟩
     case measure => simp [intOf]; omega
   ·obtain rfl : j = ps.length := by omega
    go_wp2_with fail
    go_ret
    exact ⟨by rw [HTN.out]; rfl, HI.out.bl.trans (HB.out.mono HI.out.bl.size)⟩
set_option linter.unusedSimpArgs false in
set_option maxRecDepth 100000 in
set_option maxHeartbeats 1000000 in
theorem specPsFree_any (ao : Option Addr) (c n k : Nat) (t r : Int) (ps : List Pt) (w : World) (hk : PsOk n ps) (hkn : k < n) (hv : PsV w ao ps) (ht : 0 ≤ t ∧ t ≤ 1000000) (hr : 1 ≤ r ∧ r ≤ 100) :
    Calls Tryz.prog 111 #[.int .i64 n, .slice ao ps.length c, .int .i64 k, .int .i64 t, .int .i64 r] w fun e w' => e = .returned (frV (frO ps k t r)) ∧ Below w.heap.size w w' := by
  have HPV := Lib.hid (specPsValid_ok ao c n ps w hk hv)
  have HFR : Hid (∀ W, Below w.heap.size w W → Calls Tryz.prog 136 #[.slice ao ps.length c, .int .i64 k, .int .i64 t, .int .i64 r] W fun e w' => e = .returned (.int .i64 (frF ps k r (ordL ps k ps.length) t)) ∧ Below W.heap.size W w') := fun W h => l2Free_any ao c n k t r ps W hk hkn (hv.keep h) ht (by omega)
  have HF : Hid (frO ps k t r = if frF ps k r (ordL ps k ps.length) t ≤ 2000 - r then some (frF ps k r (ordL ps k ps.length) t) else none) := free_frO (by omega)
  have hfb := frF_bd hk hkn (ordL ps k ps.length) t (r := r) (fun j hj => (ordL_mem ps.length).1 hj) ht
  have hn5 := hk.n5
  have hn1 := hk.n1
  have hw1 : IntKind.i64.wrap ((n : Int) - 1) = (n : Int) - 1 := IntWalk.i64_in _ (by omega)
  have HI1 : Hid (inB (k : Int) 0 ((n : Int) - 1) = true) := inB_true.2 (by omega)
  have HI2 : Hid (inB r 1 100 = true) := inB_true.2 hr
  have HL : Hid (∀ a b c W, Calls Tryz.prog 43 #[.int .i64 a, .int .i64 b, .int .i64 c] W fun e w' => e = .returned (.bool (inB a b c)) ∧ W = w') := fun a b c W => l6In_any a b c W
  clear hk hv
  generalize frF ps k r (ordL ps k ps.length) t = at' at *
  by_cases hle : t ≤ 2000
  ·have HI3 : Hid (inB t 0 2000 = true) := inB_true.2 (by omega)
   have hws : IntKind.i64.wrap (at' + r) = at' + r := IntWalk.i64_in _ (by omega)
   by_cases hfit : at' ≤ 2000 - r
   ·have hgt : ¬ (2000 : Int) < at' + r := by omega
    have HE : Hid (frO ps k t r = some at') := by show _ = _; rw [HF.out, if_pos hfit]
    go_enter Tryz.func111, Tryz.ntmps111
    go_wp2_with fail
    refine HPV.out.mono ?_
    rintro e w2 ⟨rfl, hb2⟩
    have HB2 := Lib.hid hb2
    clear hb2
    go_wp2_with fail
    refine (HL.out _ _ _ _).mono ?_
    rintro e w' ⟨rfl, rfl⟩
    rw [HI1.out]
    go_wp2_with fail
    refine (HL.out _ _ _ _).mono ?_
    rintro e w' ⟨rfl, rfl⟩
    rw [HI2.out]
    go_wp2_with fail
    refine (HL.out _ _ _ _).mono ?_
    rintro e w' ⟨rfl, rfl⟩
    rw [HI3.out]
    go_wp2_with fail
    refine (HFR.out _ HB2.out).mono ?_
    rintro e w3 ⟨rfl, hb3⟩
    have HB3 := Lib.hid (HB2.out.trans (hb3.mono HB2.out.size))
    clear hb3
    go_wp2_with fail
    go_ret2
    exact ⟨by rw [HE.out]; rfl, HB3.out⟩
   ·have hgt : (2000 : Int) < at' + r := by omega
    have HE : Hid (frO ps k t r = none) := by show _ = _; rw [HF.out, if_neg hfit]
    go_enter Tryz.func111, Tryz.ntmps111
    go_wp2_with fail
    refine HPV.out.mono ?_
    rintro e w2 ⟨rfl, hb2⟩
    have HB2 := Lib.hid hb2
    clear hb2
    go_wp2_with fail
    refine (HL.out _ _ _ _).mono ?_
    rintro e w' ⟨rfl, rfl⟩
    rw [HI1.out]
    go_wp2_with fail
    refine (HL.out _ _ _ _).mono ?_
    rintro e w' ⟨rfl, rfl⟩
    rw [HI2.out]
    go_wp2_with fail
    refine (HL.out _ _ _ _).mono ?_
    rintro e w' ⟨rfl, rfl⟩
    rw [HI3.out]
    go_wp2_with fail
    refine (HFR.out _ HB2.out).mono ?_
    rintro e w3 ⟨rfl, hb3⟩
    have HB3 := Lib.hid (HB2.out.trans (hb3.mono HB2.out.size))
    clear hb3
    go_wp2_with fail
    go_ret2
    exact ⟨by rw [HE.out]; rfl, HB3.out⟩
  ·have HI3 : Hid (inB t 0 2000 = false) := inB_false.2 (by omega)
   have HE : Hid (frO ps k t r = none) := frO_late (by omega)
   go_enter Tryz.func111, Tryz.ntmps111
   go_wp2_with fail
   refine HPV.out.mono ?_
   rintro e w2 ⟨rfl, hb2⟩
   have HB2 := Lib.hid hb2
   clear hb2
   go_wp2_with fail
   refine (HL.out _ _ _ _).mono ?_
   rintro e w' ⟨rfl, rfl⟩
   rw [HI1.out]
   go_wp2_with fail
   refine (HL.out _ _ _ _).mono ?_
   rintro e w' ⟨rfl, rfl⟩
   rw [HI2.out]
   go_wp2_with fail
   refine (HL.out _ _ _ _).mono ?_
   rintro e w' ⟨rfl, rfl⟩
   rw [HI3.out]
   go_wp2_with fail
   go_ret2
   exact ⟨by rw [HE.out]; rfl, HB2.out⟩
set_option linter.unusedSimpArgs false in
set_option maxRecDepth 100000 in
set_option maxHeartbeats 1000000 in
theorem specPsBusy_any (ao : Option Addr) (c n : Nat) (k : Int) (ps : List Pt) (w : World) (hk : PsOk n ps) (hv : PsV w ao ps) :
    Calls Tryz.prog 114 #[.int .i64 n, .slice ao ps.length c, .int .i64 k] w fun e w' => e = .returned (.int .i64 (byV ps n k)) ∧ Below w.heap.size w w' := by
  have HPV := Lib.hid (specPsValid_ok ao c n ps w hk hv)
  have HK := Lib.hid hk
  have HV := Lib.hid hv
  have hlen := hk.len
  have hn5 := hk.n5
  have hn1 := hk.n1
  have hw1 : IntKind.i64.wrap ((n : Int) - 1) = (n : Int) - 1 := IntWalk.i64_in _ (by omega)
  have HL : Hid (∀ a b c W, Calls Tryz.prog 43 #[.int .i64 a, .int .i64 b, .int .i64 c] W fun e w' => e = .returned (.bool (inB a b c)) ∧ W = w') := fun a b c W => l6In_any a b c W
  clear hk hv
  by_cases hin : 0 ≤ k ∧ k < n
  ·obtain ⟨k, rfl⟩ := Int.eq_ofNat_of_zero_le hin.1
   have hkn : k < n := by omega
   have HN : Hid (byV ps n (k : Int) = byF ps k ps.length) := by show _ = _; unfold byV; rw [if_pos hin]; rfl
   have HI1 : Hid (inB (k : Int) 0 ((n : Int) - 1) = true) := inB_true.2 (by omega)
   have HBF : Hid (∀ j, j ≤ ps.length → 0 ≤ byF ps k j ∧ byF ps k j ≤ 2000 * j) := byF_bd HK.out hkn
   clear hin
   go_enter Tryz.func114, Tryz.ntmps114
   go_wp2_with fail
   refine HPV.out.mono ?_
   rintro e w2 ⟨rfl, hb2⟩
   have HB2 := Lib.hid hb2
   clear hb2
   go_wp2_with fail
   refine (HL.out _ _ _ _).mono ?_
   rintro e w' ⟨rfl, rfl⟩
   rw [HI1.out]
   go_wp2_with fail
   go_loopw [7, 8] (fun s i wr => ∃ j : Nat, j ≤ ps.length ∧ i = .int .i64 j ∧ s = .int .i64 (byF ps k j) ∧ Dr w2 wr) (fun _ i _ => ps.length - (intOf i).toNat)
   case atStart => exact ⟨0, Nat.zero_le _, rfl, rfl, Dr.refl _⟩
   case round =>
    obtain ⟨j, hj, rfl, rfl, d, rfl⟩ := hrel
    have hbj := HBF.out j hj
    by_cases hlt : j < ps.length
    ·have hji : (j : Int) < (ps.length : Int) := by omega
     obtain ⟨b, bi, ci, bo, co, rfl, hp0⟩ := HV.out j hlt
     have hp := hp0.keep HB2.out
     obtain ⟨_, e1, e2, _⟩ := ptOk_parts (HK.out.ok j hlt)
     have hat := ptOk_at (HK.out.ok j hlt) hkn
     have c0 := hp.c0
     have c1 := hp.c1
     have cI := hp.I.at k (by omega)
     have cO := hp.O.at k (by omega)
     rw [Nat.zero_add] at cI cO
     have i1 : (k : Int) < ((pA ps j).ni : Int) := by omega
     have i2 : (k : Int) < ((pA ps j).no : Int) := by omega
     have HS : Hid (byF ps k (j + 1) = byF ps k j + (pA ps j).O k - (pA ps j).I k) := by show byF ps k j + ((pA ps j).O k - (pA ps j).I k) = _; omega
     clear hp hp0 e1 e2
     generalize (pA ps j).I k = x1 at *
     generalize (pA ps j).O k = x2 at *
     have hw2 : IntKind.i64.wrap (byF ps k j + x2) = byF ps k j + x2 := IntWalk.i64_in _ (by omega)
     have hw3 : IntKind.i64.wrap (byF ps k j + x2 - x1) = byF ps k j + x2 - x1 := IntWalk.i64_in _ (by omega)
     go_wp2_with fail
     go_quiet (fail)
     go_wp2_with fail
     go_roundw
     case rel => exact ⟨j + 1, by omega, by go_num, by rw [HS.out], (by repeat (first | exact Dr.refl _ | exact ⟨_, rfl⟩ | refine Dr.drewN ?_ _))⟩
     case measure => simp [intOf]; omega
    ·obtain rfl : j = ps.length := by omega
     go_wp2_with fail
     go_ret
     exact ⟨by rw [HN.out]; rfl, below_drewN HB2.out d⟩
  ·have HN : Hid (byV ps n k = -1) := by show _ = _; unfold byV; rw [if_neg hin]
   have HI1 : Hid (inB k 0 ((n : Int) - 1) = false) := inB_false.2 (by omega)
   clear hin
   go_enter Tryz.func114, Tryz.ntmps114
   go_wp2_with fail
   refine HPV.out.mono ?_
   rintro e w2 ⟨rfl, hb2⟩
   have HB2 := Lib.hid hb2
   clear hb2
   go_wp2_with fail
   refine (HL.out _ _ _ _).mono ?_
   rintro e w' ⟨rfl, rfl⟩
   rw [HI1.out]
   go_wp2_with fail
   go_ret
   exact ⟨by rw [HN.out]; rfl, HB2.out⟩
structure RvM (w wr : World) (bp gI cI gO cO k : Nat) (I O : Nat → Int) : Prop where
  res : Bx wr w.heap.size 41 #[.slice none 0 0, .slice none 0 0]
  box : Bx wr bp 41 #[.slice (some ⟨gI, 0, none⟩) k cI, .slice (some ⟨gO, 0, none⟩) k cO]
  oI : Own wr gI cI k 1 3 (fun i => .int .i64 (I i))
  oO : Own wr gO cO k 1 3 (fun i => .int .i64 (O i))
  hb : w.heap.size < bp
  hI : w.heap.size < gI
  hO : w.heap.size < gO
  nI : gI ≠ bp
  nO : gO ≠ bp
  nIO : gI ≠ gO
  bl : Below w.heap.size w wr
structure RvI (w wr : World) (bp gI cI gO cO k : Nat) (I O : Nat → Int) : Prop where
  res : Bx wr w.heap.size 41 #[.slice none 0 0, .slice none 0 0]
  box : Bx wr bp 41 #[.slice (some ⟨gI, 0, none⟩) (k + 1) cI, .slice (some ⟨gO, 0, none⟩) k cO]
  oI : Own wr gI cI (k + 1) 1 3 (fun i => .int .i64 (I i))
  oO : Own wr gO cO k 1 3 (fun i => .int .i64 (O i))
  hb : w.heap.size < bp
  hI : w.heap.size < gI
  hO : w.heap.size < gO
  nI : gI ≠ bp
  nO : gO ≠ bp
  nIO : gI ≠ gO
  bl : Below w.heap.size w wr
section
variable {w wr wa : World} {bp gI cI gO cO k : Nat} {I O : Nat → Int}
theorem RvM.pushI (h : RvM w wr bp gI cI gO cO k I O) {g c : Nat} (hA : Own wa g c (k + 1) 1 3 (fun i => .int .i64 (I i))) (hg : wr.grownBy wa (some gI)) (hd : (g = gI ∧ c = cI) ∨ wr.heap.size < g) :
    RvI w (wa.setCell ⟨bp, 0, none⟩ (.slice (some ⟨g, 0, none⟩) (k + 1) c)) bp g c gO cO k I O := by
  have h0 := h.hb
  have h1 := h.nI
  have h2 := h.nO
  have h3 := h.nIO
  have h4 := h.hI
  have h5 := h.hO
  have h6 := h.box.lt
  have h7 := h.oO.lt
  have h8 := h.bl.size
  exact ⟨(h.res.kept hg (by omega)).setOther (by dsimp only; omega) _, (h.box.kept hg (by omega)).set 0 _, hA.setOther (by dsimp only; omega) _, (h.oO.kept hg (by simp; omega)).setOther (by dsimp only; omega) _, h0, by omega, h.hO, by omega, h.nO, by omega,
    (h.bl.trans (below_of_grown hg (by omega) h8)).setCell (by dsimp only; omega) _⟩
theorem RvI.pushO (h : RvI w wr bp gI cI gO cO k I O) {g c : Nat} (hA : Own wa g c (k + 1) 1 3 (fun i => .int .i64 (O i))) (hg : wr.grownBy wa (some gO)) (hd : (g = gO ∧ c = cO) ∨ wr.heap.size < g) :
    RvM w (wa.setCell ⟨bp, 1, none⟩ (.slice (some ⟨g, 0, none⟩) (k + 1) c)) bp gI cI g c (k + 1) I O := by
  have h0 := h.hb
  have h1 := h.nI
  have h2 := h.nO
  have h3 := h.nIO
  have h4 := h.hI
  have h5 := h.hO
  have h6 := h.box.lt
  have h7 := h.oI.lt
  have h8 := h.bl.size
  exact ⟨(h.res.kept hg (by omega)).setOther (by dsimp only; omega) _, (h.box.kept hg (by omega)).set 1 _, (h.oI.kept hg (by simp; omega)).setOther (by dsimp only; omega) _, hA.setOther (by dsimp only; omega) _, h0, h.hI, by omega, h.nI, by omega, by omega,
    (h.bl.trans (below_of_grown hg (by omega) h8)).setCell (by dsimp only; omega) _⟩
theorem RvM.below {w' : World} {B : Nat} (h : RvM w wr bp gI cI gO cO k I O) (hb : Below B wr w') (hB : B = wr.heap.size) : RvM w w' bp gI cI gO cO k I O := by
 subst hB
 exact ⟨h.res.below hb h.res.lt, h.box.below hb h.box.lt, h.oI.below hb h.oI.lt, h.oO.below hb h.oO.lt, h.hb, h.hI, h.hO, h.nI, h.nO, h.nIO, h.bl.trans (hb.mono h.bl.size)⟩
theorem RvM.congr (h : RvM w wr bp gI cI gO cO k I O) {I' O' : Nat → Int} (hI : ∀ i, i < k → I i = I' i) (hO : ∀ i, i < k → O i = O' i) : RvM w wr bp gI cI gO cO k I' O' :=
 ⟨h.res, h.box, h.oI.congr (fun i hi => by rw [hI i (by omega)]), h.oO.congr (fun i hi => by rw [hO i (by omega)]), h.hb, h.hI, h.hO, h.nI, h.nO, h.nIO, h.bl⟩
end
def FsR (o : Option (List Int)) (f : Nat → Int) (n : Nat) (w : World) (e : Ending) (w' : World) : Prop :=
 Below w.heap.size w w' ∧ match o with
  | none => e = .returned (.tuple #[.agg #[.slice none 0 0, .slice none 0 0], .bool false])
  | some l => ∃ gI cI gO cO, e = .returned (.tuple #[.agg #[.slice (some ⟨gI, 0, none⟩) n cI, .slice (some ⟨gO, 0, none⟩) n cO], .bool true]) ∧ w.heap.size ≤ gI ∧ w.heap.size ≤ gO ∧ IC w' gI 0 n (ftP l f n).I ∧ IC w' gO 0 n (ftP l f n).O
theorem FsR.no {o : Option (List Int)} {f : Nat → Int} {n : Nat} {w w' : World} {e : Ending} (h : o = none) (he : e = .returned (.tuple #[.agg #[.slice none 0 0, .slice none 0 0], .bool false])) (hb : Below w.heap.size w w') : FsR o f n w e w' := by
 subst h
 exact ⟨hb, he⟩
set_option linter.unusedSimpArgs false in
set_option maxRecDepth 100000 in
set_option maxHeartbeats 2000000 in
theorem specPsFit_any (ao : Option Addr) (c0 n : Nat) (t : Int) (b off n' c : Nat) (f : Nat → Int) (ps : List Pt) (w : World) (hk : PsOk n ps) (hv : PsV w ao ps) (hn' : n' ≤ 1000000) (hc : IC w b off n' f) (ht : 0 ≤ t ∧ t ≤ 1000000) :
    Calls Tryz.prog 84 #[.int .i64 n, .slice ao ps.length c0, .int .i64 t, .slice (some ⟨b, off, none⟩) n' c] w (FsR (ftO ps n n' f t) f n w) := by
  have HC := Lib.hid hc
  have HK := Lib.hid hk
  have HV := Lib.hid hv
  have hn1 := hk.n1
  have hn5 := hk.n5
  have HBB : Hid (∀ o, Below w.heap.size w (w.alloc o)) := fun o => below_all _ _
  have HPV : Hid (∀ W, Below w.heap.size w W → Calls Tryz.prog 85 #[.int .i64 n, .slice ao ps.length c0] W fun e w' => e = .returned (.bool true) ∧ Below W.heap.size W w') := fun W h => specPsValid_ok ao c0 n ps W hk (hv.keep h)
  clear hc hk hv
  cases hr : rvB n n' f
  ·have HR := Lib.hid hr
   have HO : Hid (ftO ps n n' f t = none) := by show _ = _; unfold ftO; rw [hr]; rfl
   clear hr
   go_enter Tryz.func84, Tryz.ntmps84
   go_wp2_with fail
   refine (HPV.out _ (HBB.out _)).mono ?_
   rintro e w2 ⟨rfl, hb2⟩
   have HX2 : Hid (Bx w2 w.heap.size 41 #[.slice none 0 0, .slice none 0 0]) := (Bx.new w _ _).below hb2 (Bx.new w _ _).lt
   have HB2 := Lib.hid ((HBB.out (.cells #[.slice none 0 0, .slice none 0 0] 41)).trans (hb2.mono (by simp)))
   clear hb2
   go_wp2_with fail
   refine (l2Runs_any b off n' c f n _ (by omega) (HC.out.keep HB2.out)).mono ?_
   rintro e w' ⟨rfl, rfl⟩
   rw [HR.out]
   have hrc := HX2.out.cell
   have hrf := HX2.out.free
   have hrl := HX2.out.lt
   go_wp2_with fail
   refine bodyPost_ret (v := .tuple #[.agg #[.slice none 0 0, .slice none 0 0], .bool false]) (by simp [results, Tryz.results84, go_sem, hrc]) rfl (FsR.no HO.out rfl ?_)
   exact (HB2.out.setCell (Nat.le_refl _) _).setCell (Nat.le_refl _) _
  ·have HR := Lib.hid hr
   obtain ⟨_, hnn, hfb⟩ := rvB_parts hr
   obtain rfl : n' = n := by omega
   have HF := Lib.hid hfb
   have HO : Hid (ftO ps n' n' f t = fitL ps f t n') := by show _ = _; unfold ftO; rw [if_pos hr]
   clear hr hfb hnn
   obtain ⟨ht1, ht2⟩ := ht
   go_enter Tryz.func84, Tryz.ntmps84
   go_wp2_with fail
   refine (HPV.out _ (HBB.out _)).mono ?_
   rintro e w2 ⟨rfl, hb2⟩
   have HX2 : Hid (Bx w2 w.heap.size 41 #[.slice none 0 0, .slice none 0 0]) := (Bx.new w _ _).below hb2 (Bx.new w _ _).lt
   have HB2 := Lib.hid ((HBB.out (.cells #[.slice none 0 0, .slice none 0 0] 41)).trans (hb2.mono (by simp)))
   clear hb2
   go_wp2_with fail
   refine (l2Runs_any b off n' c f n' _ (by omega) (HC.out.keep HB2.out)).mono ?_
   rintro e w' ⟨rfl, rfl⟩
   rw [HR.out]
   have hx2 := HX2.out.lt
   have HL0 : Hid (fitL ps f t 0 = some []) := rfl
   go_wp2_with fail
   go_loopw [2, 11, 12, 13] (fun s i _ _ wr => ∃ (k : Nat) (l : List Int) (gI cI gO cO : Nat), k ≤ n' ∧ i = .int .i64 k ∧ s = .int .i64 (rdyT t f l) ∧ Hid (l.length = k) ∧ Hid (fitL ps f t k = some l) ∧ Hid (RvM w wr (w2.heap.size + 1 + 1) gI cI gO cO k (ftP l f n').I (ftP l f n').O)) (fun _ i _ _ _ => n' - (intOf i).toNat)
   case atStart =>
    refine ⟨0, [], w2.heap.size, 0, w2.heap.size + 1, 0, Nat.zero_le _, rfl, rfl, Lib.hid rfl, HL0, ?_⟩
    exact ⟨((HX2.out.alloc _).alloc _).alloc _, Bx.newAt (by simp), ((own_emptyAt (by simp)).alloc _).alloc _, (own_emptyAt (by simp)).alloc _, by omega, by omega, by omega, by omega, by omega, by omega, ((HB2.out.alloc HB2.out.size _).alloc (by simp; omega) _).alloc (by simp; omega) _⟩
   case round =>
    obtain ⟨k, l, gI, cI, gO, cO, hkn, rfl, rfl, HLL, HL, HMk⟩ := hrel
    have hrb := rdyT_bd HF.out ⟨ht1, ht2⟩ k l hkn HL.out
    by_cases hlt : k < n'
    ·have hki : (k : Int) < (n' : Int) := by omega
     have hck := (HC.out.keep HMk.out.bl).at k hlt
     have hfk := HF.out k hlt
     have HPF := Lib.hid (specPsFree_any ao c0 n' k (rdyT t f l) (f k) ps wr HK.out hlt (HV.out.keep HMk.out.bl) hrb hfk)
     cases ho : frO ps k (rdyT t f l) (f k) with
     | none =>
      have HN := Lib.hid (HO.out.trans (fitL_stop HL.out ho n' hlt))
      rw [ho] at HPF
      clear ho
      go_wp2_with fail
      refine HPF.out.mono ?_
      rintro e w5 ⟨rfl, hb5⟩
      have HM5 := Lib.hid (HMk.out.below hb5 rfl)
      have hrc := HM5.out.res.cell
      have hrf := HM5.out.res.free
      have hrl := HM5.out.res.lt
      unfold frV
      clear hb5 hck
      go_wp2_with fail
      refine bodyPost_ret (v := .tuple #[.agg #[.slice none 0 0, .slice none 0 0], .bool false]) (by simp [results, Tryz.results84, go_sem, hrc]) rfl (FsR.no HN.out rfl ?_)
      exact (HM5.out.bl.setCell (Nat.le_refl _) _).setCell (Nat.le_refl _) _
     | some u =>
      have HN := Lib.hid (fitL_next HL.out ho)
      have hub := frO_bd ho
      have hwu : IntKind.i64.wrap (u + f k) = u + f k := IntWalk.i64_in _ (by omega)
      rw [ho] at HPF
      have HRS : Hid (rdyT t f (l ++ [u]) = u + f k) := by show _ = _; rw [rdyT_snoc, HLL.out]
      have HNI := ftP_new l u f n'
      rw [HLL.out] at HNI
      have HNW := Lib.hid HNI
      have HOLD : Hid (∀ i, i < k → (ftP l f n').I i = (ftP (l ++ [u]) f n').I i ∧ (ftP l f n').O i = (ftP (l ++ [u]) f n').O i) := fun i hi => by
       have := ftP_old l u f n' (i := i) (by rw [HLL.out]; exact hi)
       exact ⟨this.1.symm, this.2.symm⟩
      clear ho hub HNI
      go_wp2_with fail
      refine HPF.out.mono ?_
      rintro e w5 ⟨rfl, hb5⟩
      have HM := Lib.hid ((HMk.out.below hb5 rfl).congr (fun i hi => (HOLD.out i hi).1) (fun i hi => (HOLD.out i hi).2))
      have hbx := HM.out.box.cell
      unfold frV
      clear hb5 hck
      go_wp2_with (first
        | (at_builtin; refine wpList_pushI elInt rfl (.tmp 49) (.tmp 51) (by rfl) HM.out.oI (by rfl) (by rfl) HNW.out.1.symm (by omega) ?_; intro g' c' wa HA hgr hd; have hbx2 := (HM.out.box.kept hgr (by have := HM.out.nI; omega)).cell; have hbf2 := (HM.out.box.kept hgr (by have := HM.out.nI; omega)).free; have HMa := Lib.hid (HM.out.pushI HA hgr hd); have hck2 := (HC.out.keep HMa.out.bl).at k hlt; clear HA hgr hd)
        | (at_builtin; go_must (refine wpList_pushI elInt rfl (.tmp 61) (.tmp 63) (by rfl) HMa.out.oO (by rfl) (by show Value.slice (some ⟨wa.heap.size, 0, none⟩) 1 1 = _; simp [World.setCell]) HNW.out.2.symm (by omega) ?_); intro g2 c2 wb HA hgr hd; have hbx3 := (HMa.out.box.kept hgr (by have := HMa.out.nO; omega)).cell; have hbf3 := (HMa.out.box.kept hgr (by have := HMa.out.nO; omega)).free; have HMb := Lib.hid (HMa.out.pushO HA hgr hd); clear HA hgr hd))
      go_roundw
      case rel => exact ⟨k + 1, l ++ [u], _, _, _, _, by omega, by go_num, by rw [HRS.out], by show _ = _; simp [HLL.out], HN, HMb⟩
      case measure => simp [intOf]; omega
    ·obtain rfl : k = n' := by omega
     have HN := Lib.hid (HO.out.trans HL.out)
     have hpc := HMk.out.box.cell
     have hrc := HMk.out.res.cell
     have hrf := HMk.out.res.free
     go_wp2_with fail
     refine bodyPost_ret (v := .tuple #[.agg #[.slice (some ⟨gI, 0, none⟩) k cI, .slice (some ⟨gO, 0, none⟩) k cO], .bool true]) (by simp [results, Tryz.results84, go_sem, hrc]) rfl ⟨(HMk.out.bl.setCell (Nat.le_refl _) _).setCell (Nat.le_refl _) _, ?_⟩
     rw [HN.out]
     have h1 := HMk.out.hI
     have h2 := HMk.out.hO
     exact ⟨gI, cI, gO, cO, rfl, by omega, by omega, IC.of_own (t := 3) ((HMk.out.oI.setOther (by dsimp only; omega) _).setOther (by dsimp only; omega) _), IC.of_own (t := 3) ((HMk.out.oO.setOther (by dsimp only; omega) _).setOther (by dsimp only; omega) _)⟩
end Go.Proofs.YtlkdmpfifpkpaaaGreatDoor

