/-
  The iterator over all moves of a railway that can be done.
-/
import Derived.RangeFuncNested
import Derived.RangeFuncBound
import Derived.RangeFuncCalls
import Derived.RangeFuncLeaves
import Derived.RangeFuncBox
import Derived.Shelf.Abstract
import Derived.OwnWalkIn
import Derived.TacticsInMore
import Derived.LoopNIn
import Derived.LoopIn
import Derived.Test.YtbachpfgakjncaaRa
import Derived.Test.YtbachpfgakjncaaMo
namespace Go.Proofs.Ytbachpfgakjncaa
open Go.RowKit

/-- the letters of a section that can come next -/
def mvLt (x : Ln) (k : Nat) : List UInt8 := nxT (stI (x.N k) (x.I k) (x.O k)) 7
/-- such a letter is passed over: no train waits -/
def mvSk (x : Ln) (k : Nat) (c : UInt8) : Bool := decide (c = 101) && decide (cntA x.T (2 * k) x.m = 0)
/-- the moves of a section by its first i letters -/
def mvI (x : Ln) (k i : Nat) : List (Int × ByteArray) := (((mvLt x k).take i).filter (fun c => !mvSk x k c)).map fun c => ((k : Int), chr c)
def mvK (x : Ln) (k : Nat) : List (Int × ByteArray) := mvI x k (mvLt x k).length
def mvU (x : Ln) (k : Nat) : List (Int × ByteArray) := (List.range k).flatMap (mvK x)
def mvsL (x : Ln) : List (Int × ByteArray) := mvU x x.n
theorem mvU_succ (x : Ln) (k : Nat) : mvU x (k + 1) = mvU x k ++ mvK x k := by simp [mvU, List.range_succ]
theorem mvI_zero (x : Ln) (k : Nat) : mvI x k 0 = [] := rfl
theorem mvI_yes {x : Ln} {k i : Nat} {c : UInt8} (hc : (mvLt x k)[i]? = some c) (h : mvSk x k c = false) : mvI x k (i + 1) = mvI x k i ++ [((k : Int), chr c)] := by
  simp [mvI, List.take_add_one, hc, h]
theorem mvI_skip {x : Ln} {k i : Nat} {c : UInt8} (hc : (mvLt x k)[i]? = some c) (h : mvSk x k c = true) : mvI x k (i + 1) = mvI x k i := by
  simp [mvI, List.take_add_one, hc, h]
theorem mvI_len (x : Ln) (k i : Nat) : (mvI x k i).length ≤ i := by
  simp only [mvI, List.length_map]
  exact Nat.le_trans (List.length_filter_le _ _) (by simp; omega)
theorem mvLt_len (x : Ln) (k : Nat) : (mvLt x k).length ≤ 7 := nxT_len _ _
theorem mvU_len (x : Ln) : ∀ k, (mvU x k).length ≤ 7 * k
  | 0 => by simp [mvU]
  | k + 1 => by
    rw [mvU_succ, List.length_append]
    have h1 := mvU_len x k
    have h2 := mvI_len x k (mvLt x k).length
    have h3 := mvLt_len x k
    unfold mvK
    omega
theorem mvI_pre (x : Ln) (k i : Nat) : mvI x k i <+: mvK x k := by
  unfold mvK mvI
  rw [List.take_length]
  have h : (mvLt x k).take i <+: mvLt x k := List.take_prefix _ _
  obtain ⟨t, ht⟩ := h
  refine ⟨((t.filter (fun c => !mvSk x k c)).map fun c => ((k : Int), chr c)), ?_⟩
  rw [← List.map_append, ← List.filter_append, ht]
theorem mvU_pre (x : Ln) {k : Nat} : ∀ {m : Nat}, k ≤ m → mvU x k <+: mvU x m
  | 0, h => by obtain rfl : k = 0 := by omega
               exact List.prefix_refl _
  | m + 1, h => by
    by_cases e : k = m + 1
    · subst e; exact List.prefix_refl _
    · exact (mvU_pre x (show k ≤ m by omega)).trans (by rw [mvU_succ]; exact List.prefix_append _ _)
theorem mv_pre {x : Ln} {k i : Nat} (hk : k < x.n) : mvU x k ++ mvI x k i <+: mvsL x := by
  have h1 : mvU x k ++ mvI x k i <+: mvU x (k + 1) := by
    rw [mvU_succ]
    exact List.prefix_append_right_inj _ |>.2 (mvI_pre x k i)
  exact h1.trans (mvU_pre x (by omega))
theorem ext_one {l : List UInt8} {i : Nat} {c : UInt8} (h : l[i]? = some c) : (⟨l.toArray⟩ : ByteArray).extract i (i + 1) = chr c := by
  have hi : i < l.length := (List.getElem?_eq_some_iff.1 h).1
  apply ByteArray.ext
  apply Array.toList_inj.1
  rw [show ((⟨l.toArray⟩ : ByteArray).extract i (i + 1)).data = l.toArray.extract i (i + 1) from ByteArray.data_extract]
  rw [Array.toList_extract]
  simp only [List.extract, show i + 1 - i = 1 by omega]
  rw [List.take_one, List.head?_drop, h]
  rfl
theorem RwC.belowN {B : Nat} {w w' : World} {r gb cb gt ct : Nat} {x : Ln} (h : RwC w r gb cb gt ct x) (hb : Below B w w') (h1 : r < B) (h2 : gb < B) (h3 : gt < B) : RwC w' r gb cb gt ct x :=
  ⟨h.box.below hb h1, h.bs.below hb h2, h.ts.below hb h3, h.d1, h.d2, h.d3⟩
attribute [local go_sem] Oper.semAt_some
set_option linter.unusedSimpArgs false in
set_option maxRecDepth 100000 in
set_option maxHeartbeats 4000000 in
theorem mv1_in (n : Nat) (hn : 1 ≤ n) (l Bs n₀ r gb cb gt ct : Nat) (x : Ln) (hxn : x.n ≤ 1000000) (hxm : x.m ≤ 1000000) (J Jx : List (Int × ByteArray) → World → Prop) (W : World)
    (hJ : AbidesFrom W.heap.size J)
    (hY : ∀ pre y W1, J pre W1 → pre.length < 7 * x.n + 1 → YieldAt Fence.wide (n - 1) Try.prog l #[.agg #[.int .i64 y.1, .string y.2]] W1 fun e W' =>
      (e = .returned (.bool true) ∧ J (pre ++ [y]) W' ∧ Below n₀ W1 W') ∨ (e = .returned (.bool false) ∧ Jx (pre ++ [y]) W'))
    (hBs : W.cell? ⟨Bs, 0, none⟩ = some (.pointer (some ⟨r, 0, none⟩))) (hB1 : Bs < n₀) (hr : RwC W r gb cb gt ct x) (hB2 : r < n₀) (hB3 : gb < n₀) (hB4 : gt < n₀) (hn0 : n₀ ≤ W.heap.size) (h0 : J [] W) :
    CallsIn Fence.wide n Try.prog 84 #[.func (.yield l) #[] #[], .pointer (some ⟨Bs, 0, none⟩)] W fun e W' => (∃ v, e = .returned v) ∧
      ((∃ ys, ys = mvsL x ∧ J ys W') ∨ (∃ pre, pre <+: mvsL x ∧ Jx pre W')) := by
  have HR := Lib.hid hr
  have hrc := hr.box.cell
  have HJ : Hid (∀ s w1 w2, J s w1 → Below w1.heap.size w1 w2 → J s w2) := fun s w1 w2 hs hb => hJ s w1 w2 none hs (grownBy_below hb none) (fun r e => by cases e)
  have HY := Lib.hid hY
  have HC : Hid (∀ w', Below n₀ W w' → w'.cell? ⟨Bs, 0, none⟩ = some (.pointer (some ⟨r, 0, none⟩))) := fun w' hb => by rw [hb.cell (p := ⟨Bs, 0, none⟩) hB1]; exact hBs
  have H0 := Lib.hid h0
  clear hr hJ hY h0
  refine callsIn_of_wp Try.func84 rfl trivial ?_ rfl
  simp only [Try.ntmps84, List.size_toArray, List.length_cons, List.length_nil, Nat.reduceAdd, Nat.reduceSub, Array.replicate_succ, Array.replicate_zero, List.push_toArray, List.append_toArray, List.nil_append, List.cons_append]
  gi_wp2
  clear hrc hBs
  gi_loopw [3, 4, 5, 6, 12] (fun _ _ _ _ i wr => ∃ k : Nat, k ≤ x.n ∧ i = .int .i64 k ∧ Hid (J (mvU x k) wr) ∧ Hid (Below n₀ W wr)) (fun _ _ _ _ i _ => x.n - (intOf i).toNat)
  case atStart => exact ⟨0, Nat.zero_le _, rfl, H0, Below.refl _ _⟩
  case round =>
    obtain ⟨k, hk, rfl, HJk, HB⟩ := hrel
    have HRk := Lib.hid (HR.out.belowN HB.out hB2 hB3 hB4)
    have hbc := HC.out _ HB.out
    have hrc := HRk.out.box.cell
    by_cases hlt : k < x.n
    · have hblk := HRk.out.bl hlt
      gi_wp2
      refine ⟨trivial, ?_⟩
      refine (callsIn_wide.2 (next_any _ _ _ _)).mono ?_
      rintro e w2 ⟨rfl, hb2⟩
      have HJ2 := Lib.hid (HJ.out _ _ _ HJk.out hb2)
      have HB2 := Lib.hid (HB.out.trans (hb2.mono (Nat.le_trans hn0 HB.out.size)))
      obtain ⟨lt, hlt7⟩ : ∃ lt, lt = nxT (stI (x.N k) (x.I k) (x.O k)) 7 := ⟨_, rfl⟩
      rw [← hlt7]
      have HLT : Hid (mvLt x k = lt) := hlt7.symm
      have hlen : lt.length ≤ 7 := by rw [hlt7]; exact nxT_len _ _
      have hsz : (⟨lt.toArray⟩ : ByteArray).size = lt.length := by simp [ByteArray.size]
      clear hlt7 hb2 hbc hrc hblk
      gi_wp2
      gi_loopw [5, 6, 25] (fun _ _ i wr => ∃ j : Nat, j ≤ lt.length ∧ i = .int .i64 j ∧ Hid (J (mvU x k ++ mvI x k j) wr) ∧ Hid (Below n₀ W wr)) (fun _ _ i _ => lt.length - (intOf i).toNat)
      case atStart => exact ⟨0, Nat.zero_le _, rfl, by rw [mvI_zero, List.append_nil]; exact HJ2, HB2⟩
      case round =>
        obtain ⟨j, hj, rfl, HJj, HBj⟩ := hrel
        have HRj := Lib.hid (HR.out.belowN HBj.out hB2 hB3 hB4)
        have hbc := HC.out _ HBj.out
        have hrc := HRj.out.box.cell
        by_cases hjt : j < lt.length
        · obtain ⟨c, hc⟩ : ∃ c, lt[j]? = some c := ⟨_, List.getElem?_eq_getElem hjt⟩
          have hex := ext_one hc
          have HCJ : Hid ((mvLt x k)[j]? = some c) := by show _ = _; rw [HLT.out]; exact hc
          clear hc
          have hpl : (mvU x k ++ mvI x k j).length < 7 * x.n + 1 := by
            rw [List.length_append]
            have h1 := mvU_len x k
            have h2 := mvI_len x k j
            omega
          have HPL := Lib.hid hpl
          clear hpl
          have HCN : Hid (Calls Try.prog 73 #[.pointer (some ⟨r, 0, none⟩), .int .i64 (2 * k)] wr fun e w' => e = .returned (.int .i64 (cntA x.T (2 * k) x.m)) ∧ wr = w') := count_any r _ gt 0 x.m ct x.T (2 * k) wr (by omega) HRj.out.box HRj.out.ic
          have hjI : (j : Int) < (lt.length : Int) := by omega
          by_cases h1 : c = 101
          · subst h1
            have t1 : ((chr 101).toList == [101]) = true := tl_some rfl
            by_cases h2 : cntA x.T (2 * k) x.m = 0
            · have HE := Lib.hid (mvI_skip HCJ.out (show mvSk x k 101 = true by simp [mvSk, h2]))
              have HZ := Lib.hid h2
              clear h2
              gi_wp2
              refine ⟨trivial, ?_⟩
              refine (callsIn_wide.2 HCN.out).mono ?_
              rintro e w3 ⟨rfl, rfl⟩
              rw [HZ.out]
              gi_wp2
              go_roundw
              case rel => exact ⟨j + 1, by omega, by go_num, by rw [HE.out]; exact HJj, HBj⟩
              case measure => simp [intOf]; omega
            · have HE := Lib.hid (mvI_yes HCJ.out (show mvSk x k 101 = false by simp [mvSk, h2]))
              have h3 : ((cntA x.T (2 * k) x.m : Int) == 0) = false := by simp; exact h2
              clear h2
              obtain ⟨fn, tmps, assign, body, hy, hR⟩ := HY.out _ ((k : Int), chr 101) wr HJj.out HPL.out
              dsimp only at hy
              gi_wp2
              refine ⟨trivial, ?_⟩
              refine (callsIn_wide.2 HCN.out).mono ?_
              rintro e w3 ⟨rfl, rfl⟩
              gi_wp2
              refine hR.mono ?_
              rintro e W3 (⟨rfl, hJ3, hk3⟩ | ⟨rfl, hJx3⟩)
              · gi_wp2
                go_roundw
                case rel => exact ⟨j + 1, by omega, by go_num, by rw [HE.out, ← List.append_assoc]; exact hJ3, HBj.out.trans hk3⟩
                case measure => simp [intOf]; omega
              · gi_wp2
                refine bodyPost_ret (results_none rfl _ _ _) rfl ?_
                exact ⟨⟨_, rfl⟩, .inr ⟨_, by rw [List.append_assoc, ← HE.out]; exact mv_pre hlt, hJx3⟩⟩
          · have t1 : ((chr c).toList == [101]) = false := tl_one (fun e => h1 (by simpa [chr] using e))
            have HE := Lib.hid (mvI_yes HCJ.out (show mvSk x k c = false by simp [mvSk, h1]))
            clear h1
            generalize chr c = s at *
            obtain ⟨fn, tmps, assign, body, hy, hR⟩ := HY.out _ ((k : Int), s) wr HJj.out HPL.out
            dsimp only at hy
            gi_wp2
            refine ⟨trivial, ?_⟩
            gi_wp2
            refine hR.mono ?_
            rintro e W3 (⟨rfl, hJ3, hk3⟩ | ⟨rfl, hJx3⟩)
            · gi_wp2
              go_roundw
              case rel => exact ⟨j + 1, by omega, by go_num, by rw [HE.out, ← List.append_assoc]; exact hJ3, HBj.out.trans hk3⟩
              case measure => simp [intOf]; omega
            · gi_wp2
              refine bodyPost_ret (results_none rfl _ _ _) rfl ?_
              exact ⟨⟨_, rfl⟩, .inr ⟨_, by rw [List.append_assoc, ← HE.out]; exact mv_pre hlt, hJx3⟩⟩
        · obtain e : j = lt.length := by omega
          subst e
          have HE : Hid (mvU x k ++ mvI x k lt.length = mvU x (k + 1)) := by
            show _ = _
            rw [mvU_succ]
            unfold mvK
            rw [HLT.out]
          gi_wp2
          go_roundw
          case rel => exact ⟨k + 1, by omega, by go_num, by rw [← HE.out]; exact HJj, HBj⟩
          case measure => simp [intOf]; omega
    · obtain e : k = x.n := by omega
      subst e
      gi_wp2
      go_end0
      exact ⟨⟨_, rfl⟩, .inl ⟨_, rfl, HJk.out⟩⟩
end Go.Proofs.Ytbachpfgakjncaa
