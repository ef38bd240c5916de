/-
  Parts of the proof: Ia Ib Ih Yk Za Zb Zc. No condition.
-/
import Derived.Laws.IdiomStrings
import Derived.Test.YtlkdmpfifpkpaaaGreatDoorV26
namespace Go.Proofs.YtlkdmpfifpkpaaaGreatDoor
open Go.RowKit
theorem itT_small {n : Int} (h0 : 0 ≤ n) (h : n < 10) : itT n = ⟨#[UInt8.ofNat (48 + n.toNat)]⟩ := by
 unfold itT Lib.itoa
 rw [if_neg (by omega), Lib.decDigits_one (by omega)]
def dg1 (n : Int) : ByteArray := ⟨#[UInt8.ofNat (48 + n.toNat % 10)]⟩
theorem itT_big {n : Int} (h0 : 10 ≤ n) : itT n = itT (n / 10) ++ dg1 n := by
 refine ba_ext ?_
 unfold itT dg1 Lib.itoa
 rw [if_neg (by omega), if_neg (by omega), Lib.decDigits, dif_neg (by omega), show (n / 10).toNat = n.toNat / 10 by omega]
 simp
theorem conv1 {d : Int} {k : Nat} {tx : ByteArray} (hd : d = (k : Int)) (hk : k < 256) (htx : tx = ⟨#[UInt8.ofNat k]⟩) (w : World) :
    (convert 22 9 (.slice (some ⟨w.heap.size, 0, none⟩) 1 1)).run Tryz.prog (w.alloc (.cells #[.int .u8 d] 5)) = .ok (.string tx) (w.alloc (.cells #[.int .u8 d] 5)) := by
  subst hd htx
  have q := run_convert_bytes_back (P := Tryz.prog) (w.alloc (.cells #[.int .u8 (k : Int)] 5)) 22 9 5 ⟨w.heap.size, 0, none⟩ 1 [UInt8.ofNat k] Tryz.underlying22 Tryz.underlying5 Tryz.underlying9 (fun j hj => by
   obtain rfl : j = 0 := by simp at hj; omega
   rw [addr_add, World.cell?_alloc_mark]
   simp
   omega)
  exact q
theorem conv2 {d : Int} {k b : Nat} {tx : ByteArray} (hd : d = (k : Int)) (hk : k < 256) (htx : tx = ⟨#[UInt8.ofNat k]⟩) (w : World) (hc : w.cell? ⟨b, 0, none⟩ = some (.int .u8 d)) :
    (convert 22 9 (.slice (some ⟨b, 0, none⟩) 1 1)).run Tryz.prog w = .ok (.string tx) w := by
  subst hd htx
  have q := run_convert_bytes_back (P := Tryz.prog) w 22 9 5 ⟨b, 0, none⟩ 1 [UInt8.ofNat k] Tryz.underlying22 Tryz.underlying5 Tryz.underlying9 (fun j hj => by
   obtain rfl : j = 0 := by simp at hj; omega
   rw [addr_add, hc]
   simp
   omega)
  exact q
theorem exT_it (a b : Nat) : exT a b = ⟨#[116, 114, 97, 105, 110, 115, 32]⟩ ++ itT a ++ ⟨#[32, 112, 97, 116, 104, 115, 32]⟩ ++ itT b ++ ⟨#[10]⟩ := by
 unfold exT itT
 rw [Lib.itoa_nonneg, Lib.itoa_nonneg]
theorem join_snoc (xs : List (List UInt8)) (y : List UInt8) (h : xs ≠ []) : Lib.join (xs ++ [y]) [32] = Lib.join xs [32] ++ 32 :: y := by
 cases xs with
 | nil => exact absurd rfl h
 | cons x r =>
  rw [List.cons_append, Lib.join_cons, Lib.join_cons]
  simp [Lib.joinTail]
theorem jn_snoc (tx : Nat → ByteArray) (n : Nat) (h : 0 < n) : (jnT tx (n + 1)).data.toList = (jnT tx n).data.toList ++ 32 :: (tx n).data.toList := by
 unfold jnT
 show (Lib.join _ [32]).toArray.toList = (Lib.join _ [32]).toArray.toList ++ _
 rw [List.range_succ, List.map_append, List.map_cons, List.map_nil, List.toList_toArray, List.toList_toArray, join_snoc _ _ (by
  intro e
  have := congrArg List.length e
  simp at this
  omega)]
theorem ans_finish {st : Ses} {t : ByteArray} (ht : t.size ≤ 1000) (hk : SesOk st) (hc : cmdK (wd0 t) (wdL t).length = 3) : Ans st t (fiSS st) (fiO st) :=
 fun z s m own w hz hz2 hW hS => line_some z s 3 t m st _ _ own w ht hW.mx hc (by omega) hS fun W bw hS2 hb hw _ =>
  doFinish_any z s bw (wdL t).length (wdL t).length m st own W (Nat.le_trans hz hb.size) hz2 (hW.below hb) hS2 hk
theorem SesOk.tb {st : Ses} (h : SesOk st) : ∀ k, k < st.x.m → -1000000 ≤ st.x.T k ∧ st.x.T k ≤ 1000000 := fun k hk => by
 have hb := vldL_true h.xv
 have ht := (trOk_true.1 (hb.2.2.2.2.1 k hk)).1
 omega
theorem ans_where {st : Ses} {t : ByteArray} (ht : t.size ≤ 1000) (hk : SesOk st) (hc : cmdK (wd0 t) (wdL t).length = 4) : Ans st t st (whO st) :=
 fun z s m own w hz _ hW hS => line_some z s 4 t m st _ _ own w ht hW.mx hc (by omega) hS fun W bw hS2 hb hw _ =>
  doWhere_any z s bw (wdL t).length (wdL t).length m st own W (hW.below hb) hS2 (by have := hk.xn; omega) hk.tb
theorem ans_next {st : Ses} {t : ByteArray} (ht : t.size ≤ 1000) (hk : SesOk st) (hc : cmdK (wd0 t) (wdL t).length = 5) : Ans st t st (nxO st) :=
 fun z s m own w hz _ hW hS => line_some z s 5 t m st _ _ own w ht hW.mx hc (by omega) hS fun W bw hS2 hb hw _ =>
  doNext_any z s bw (wdL t).length (wdL t).length m st own W (hW.below hb) hS2 (by have := hk.xn; omega)
theorem jn_size {tx : Nat → ByteArray} {n B : Nat} (h : ∀ i, i < n → (tx i).size ≤ B) : (jnT tx n).size ≤ n * (B + 1) := by
 have := join_len ((List.range n).map fun i => (tx i).data.toList) 32 B (fun x hx => by
  simp only [List.mem_map, List.mem_range] at hx
  obtain ⟨i, hi, rfl⟩ := hx
  simpa using h i hi)
 simp only [List.length_map, List.length_range] at this
 show (Lib.join _ [32]).toArray.size ≤ _
 simpa using this
theorem PsOk.nil {n : Nat} (h1 : 1 ≤ n) (h2 : n ≤ 5) : PsOk n [] := ⟨h1, h2, Nat.zero_le _, fun i hi => by simp at hi, fun i j k hi => by simp at hi⟩
theorem clB_free {p q : Pt} {n k : Nat} {t r : Int} (hp : ptOk p n = true) (hk : k < n) (h : frK p k t r = false) (hI : q.I k = t) (hO : q.O k = t + r) : clB p q k = false := by
 have h1 := ptOk_at hp hk
 unfold frK at h
 unfold clB
 rw [hI, hO]
 by_cases a : p.I k < t + r
 ·by_cases b : t < p.O k
  ·rw [decide_eq_true a, decide_eq_true b] at h
   cases h
  ·rw [decide_eq_false b, Bool.and_false]
 ·rw [decide_eq_false a, Bool.false_and]
theorem fitL_ok {ps : List Pt} {f : Nat → Int} {t : Int} {n : Nat} (hk : PsOk n ps) (hf : ∀ k, k < n → 1 ≤ f k ∧ f k ≤ 100) (ht : 0 ≤ t ∧ t ≤ 1000000) : ∀ (k : Nat) (l : List Int), k ≤ n → fitL ps f t k = some l → ∀ i, i < k → ((if i = 0 then t else (ftP l f n).O (i - 1)) ≤ (ftP l f n).I i ∧ (ftP l f n).O i = (ftP l f n).I i + f i ∧ (ftP l f n).O i ≤ 2000) ∧ ∀ j, j < ps.length → frK (pA ps j) i ((ftP l f n).I i) (f i) = false
  | 0, l, _, _, i, hi => by omega
  | k + 1, l, hkn, h, i, hi => by
   unfold fitL at h
   split at h
   ·cases h
   ·rename_i l0 h0
    split at h
    ·cases h
    ·rename_i u hu
     cases h
     have hl := fitL_len k l0 h0
     by_cases e : i = k
     ·subst e
      have h2 := frO_bd hu
      have h3 := hf i (by omega)
      have h4 := ftP_new l0 u f n
      rw [hl] at h4
      refine ⟨⟨?_, by rw [h4.1, h4.2], by rw [h4.2]; omega⟩, fun j hj => ?_⟩
      ·rw [h4.1]
       by_cases e0 : i = 0
       ·subst e0
        rw [if_pos rfl]
        have : l0 = [] := List.length_eq_zero_iff.1 hl
        subst this
        exact h2.1
       ·rw [if_neg e0, (ftP_old l0 u f n (i := i - 1) (by omega)).2]
        have h5 := h2.1
        unfold rdyT at h5
        obtain ⟨v, hv⟩ : ∃ v, l0[i - 1]? = some v := ⟨_, List.getElem?_eq_getElem (by omega)⟩
        have h6 : l0.getLast? = some v := by
         rw [List.getLast?_eq_getElem?, hl]
         exact hv
        rw [h6, hl] at h5
        have h7 : (ftP l0 f n).O (i - 1) = v + f (i - 1) := by
         unfold ftP
         simp [hv]
        rw [h7]
        exact h5
      ·rw [h4.1]
       have h8 := allB_true.1 h2.2.2 j hj
       simpa using h8
     ·have ih := fitL_ok hk hf ht k l0 (by omega) h0 i (by omega)
      have h1 := ftP_old l0 u f n (i := i) (by omega)
      rw [h1.1, h1.2]
      refine ⟨⟨?_, ih.1.2.1, ih.1.2.2⟩, ih.2⟩
      by_cases e0 : i = 0
      ·have := ih.1.1
       rw [if_pos e0] at this ⊢
       exact this
      ·have := ih.1.1
       rw [if_neg e0] at this ⊢
       rw [(ftP_old l0 u f n (i := i - 1) (by omega)).2]
       exact this
theorem psOk_add {ps : List Pt} {n : Nat} {f : Nat → Int} {t : Int} {l : List Int} (hk : PsOk n ps) (ht : 0 ≤ t ∧ t ≤ 1000000) (h : adO ps n n f t = some l) : PsOk n (ps ++ [ftP l f n]) := by
 unfold adO at h
 split at h
 ·cases h
 ·rename_i h8
  unfold ftO at h
  split at h
  ·rename_i hr
   have hrp := rvB_parts hr
   have hf := hrp.2.2
   have key := fitL_ok hk hf ht n l (Nat.le_refl _) h
   have hlen := hk.len
   have hok : ptOk (ftP l f n) n = true := ptOk_yes (inB_true.2 hrp.1) rfl rfl (fun k hkn => vkB_true.2 (by
    have h1 := (key k hkn).1
    have h2 := hf k hkn
    unfold prO
    by_cases e : k = 0
    ·rw [if_pos e] at h1 ⊢
     omega
    ·rw [if_neg e] at h1 ⊢
     omega))
   refine ⟨hk.n1, hk.n5, by simp; omega, fun i hi => ?_, fun i j k hi hj hkn => ?_⟩
   ·by_cases e : i = ps.length
    ·subst e
     rw [pA_new]
     exact hok
    ·have : i < ps.length := by simp at hi; omega
     rw [← pA_old this]
     exact hk.ok i this
   ·by_cases e : i = ps.length
    ·subst e
     rw [pA_new, ← pA_old hj]
     have h1 := key k hkn
     exact clB_free (hk.ok j hj) hkn (h1.2 j hj) rfl h1.1.2.1
    ·have hi2 : i < ps.length := by simp at hi; omega
     rw [← pA_old hi2, ← pA_old (by omega)]
     exact hk.nc i j k hi2 hj hkn
  ·cases h
theorem ansP_busy {st : Ses} {ps : List Pt} {t : ByteArray} (ht : t.size ≤ 1000) (hk : PsOk st.x.n ps) (hc : cmdK (wd0 t) (wdL t).length = 8) (hl : (wdL t).length = 2) : AnsP st ps t st ps (byO st ps (wdI t 1)) :=
 fun z s m own w _ _ hW hS => lineP_some z s 8 t m st _ ps _ _ own w ht hW.mx hc (by omega) hS fun W bw hS2 hb hw _ =>
  doBusy_any z s bw (wdL t).length (wdL t).length (wdI t 1) m st ps own W (by omega) (hW.below hb) hS2 hk (hw 1 (by omega))
theorem ansP_fit {st : Ses} {ps : List Pt} {t : ByteArray} (ht : t.size ≤ 1000) (hk : PsOk st.x.n ps) (hc : cmdK (wd0 t) (wdL t).length = 7) (hl : (wdL t).length = st.x.n + 2) : AnsP st ps t st (ftS st ps t) (ftT st ps t) :=
 fun z s m own w hz hz2 hW hS => lineP_some z s 7 t m st _ ps _ _ own w ht hW.mx hc (by omega) hS fun W bw hS2 hb hw _ =>
  doFit_any z s bw t m st ps own W (Nat.le_trans hz hb.size) hz2 (hW.below hb) hS2 hk hl hw
theorem ansP_fitBad {st : Ses} {ps : List Pt} {t : ByteArray} (ht : t.size ≤ 1000) (hx : st.x.n ≤ 1000000) (hc : cmdK (wd0 t) (wdL t).length = 7) (hl : (wdL t).length ≠ st.x.n + 2) : AnsP st ps t st ps whatT :=
 fun z s m own w _ _ hW hS => (answer_mal s 7 t m w ht hW.mx hc (by omega) (by decide) (fun W bw hb => doFit_bad z s bw (wdL t).length (wdL t).length st ps own W (hS.keep (Fr.of_below hb _)) hl hx)).mono fun _ _ ⟨h1, h2⟩ => MdP.same hS h1 h2
set_option maxRecDepth 100000 in
set_option maxHeartbeats 2000000 in
theorem l2Clash_any (p q : Pt) (k : Nat) (pi pj po pk qi qj qo qk : Nat) (w : World) (hpI : IC w pi 0 p.ni p.I) (hpO : IC w po 0 p.no p.O) (hqI : IC w qi 0 q.ni q.I) (hqO : IC w qo 0 q.no q.O) (h1 : k < p.ni) (h2 : k < p.no) (h3 : k < q.ni) (h4 : k < q.no) :
    Calls Tryz.prog 137 #[.agg #[.slice (some ⟨pi, 0, none⟩) p.ni pj, .slice (some ⟨po, 0, none⟩) p.no pk], .agg #[.slice (some ⟨qi, 0, none⟩) q.ni qj, .slice (some ⟨qo, 0, none⟩) q.no qk], .int .i64 k] w fun e w' => e = .returned (.bool (clB p q k)) ∧ Below w.heap.size w w' := by
  have HPB : Hid (∀ o, PtB ((w.alloc (.cells #[.slice (some ⟨pi, 0, none⟩) p.ni pj, .slice (some ⟨po, 0, none⟩) p.no pk] 41)).alloc o) w.heap.size p pi 0 pj po 0 pk) := fun o => (PtV.box hpI hpO).keep (below_all _ _)
  have HQB : Hid (PtB ((w.alloc (.cells #[.slice (some ⟨pi, 0, none⟩) p.ni pj, .slice (some ⟨po, 0, none⟩) p.no pk] 41)).alloc (.cells #[.slice (some ⟨qi, 0, none⟩) q.ni qj, .slice (some ⟨qo, 0, none⟩) q.no qk] 41)) (w.heap.size + 1) q qi 0 qj qo 0 qk) := by
   show PtB _ _ _ _ _ _ _ _ _
   have h := PtV.box (t := 41) (ci := qj) (co := qk) (hqI.keep (below_all w (.cells #[.slice (some ⟨pi, 0, none⟩) p.ni pj, .slice (some ⟨po, 0, none⟩) p.no pk] 41))) (hqO.keep (below_all _ _))
   simpa using h
  have HB0 : Hid (Below w.heap.size w ((w.alloc (.cells #[.slice (some ⟨pi, 0, none⟩) p.ni pj, .slice (some ⟨po, 0, none⟩) p.no pk] 41)).alloc (.cells #[.slice (some ⟨qi, 0, none⟩) q.ni qj, .slice (some ⟨qo, 0, none⟩) q.no qk] 41))) := (below_all _ _).alloc (by simp) _
  have i1 : (k : Int) < (p.ni : Int) := by omega
  have i2 : (k : Int) < (p.no : Int) := by omega
  have i3 : (k : Int) < (q.ni : Int) := by omega
  have i4 : (k : Int) < (q.no : Int) := by omega
  have HC : Hid (clB p q k = (decide (p.I k < q.O k) && decide (q.I k < p.O k))) := rfl
  clear hpI hpO hqI hqO
  by_cases d : p.I k < q.O k
  ·have e1 : decide (p.I k < q.O k) = true := decide_eq_true d
   have HC2 : Hid (clB p q k = decide (q.I k < p.O k)) := by show _ = _; rw [HC.out, e1]; rfl
   clear HC d
   go_enter Tryz.func137, Tryz.ntmps137
   go_wp2_with fail
   have HP1 := HPB.out (.cells #[.slice (some ⟨qi, 0, none⟩) q.ni qj, .slice (some ⟨qo, 0, none⟩) q.no qk] 41)
   generalize (w.alloc (.cells #[.slice (some ⟨pi, 0, none⟩) p.ni pj, .slice (some ⟨po, 0, none⟩) p.no pk] 41)).alloc (.cells #[.slice (some ⟨qi, 0, none⟩) q.ni qj, .slice (some ⟨qo, 0, none⟩) q.no qk] 41) = w1 at *
   have a0 := HP1.c0
   have a1 := HP1.c1
   have b0 := HQB.out.c0
   have b1 := HQB.out.c1
   have aI := HP1.I.at k h1
   have aO := HP1.O.at k h2
   have bI := HQB.out.I.at k h3
   have bO := HQB.out.O.at k h4
   rw [Nat.zero_add] at aI aO bI bO
   clear HP1
   go_quiet (fail)
   go_wp2_with fail
   go_ret
   exact ⟨retB HC2.out.symm, HB0.out.trans (below_dr (by repeat (first | exact Dr.refl _ | exact ⟨_, rfl⟩ | refine Dr.drewN ?_ _)) _)⟩
  ·have e1 : decide (p.I k < q.O k) = false := decide_eq_false d
   have HC2 : Hid (clB p q k = false) := by show _ = _; rw [HC.out, e1]; rfl
   clear HC d
   go_enter Tryz.func137, Tryz.ntmps137
   go_wp2_with fail
   have HP1 := HPB.out (.cells #[.slice (some ⟨qi, 0, none⟩) q.ni qj, .slice (some ⟨qo, 0, none⟩) q.no qk] 41)
   generalize (w.alloc (.cells #[.slice (some ⟨pi, 0, none⟩) p.ni pj, .slice (some ⟨po, 0, none⟩) p.no pk] 41)).alloc (.cells #[.slice (some ⟨qi, 0, none⟩) q.ni qj, .slice (some ⟨qo, 0, none⟩) q.no qk] 41) = w1 at *
   have a0 := HP1.c0
   have a1 := HP1.c1
   have b0 := HQB.out.c0
   have b1 := HQB.out.c1
   have aI := HP1.I.at k h1
   have aO := HP1.O.at k h2
   have bI := HQB.out.I.at k h3
   have bO := HQB.out.O.at k h4
   rw [Nat.zero_add] at aI aO bI bO
   clear HP1
   go_quiet (fail)
   go_wp2_with fail
   go_ret
   exact ⟨retB HC2.out.symm, HB0.out.trans (below_dr (by repeat (first | exact Dr.refl _ | exact ⟨_, rfl⟩ | refine Dr.drewN ?_ _)) _)⟩
set_option linter.unusedSimpArgs false in
set_option maxRecDepth 100000 in
set_option maxHeartbeats 2000000 in
theorem specClash_none (p q : Pt) (n : Nat) (bi ci bo co di ei do' eo : Nat) (w : World) (hp : ptOk p n = true) (hq : ptOk q n = true) (hpI : IC w bi 0 p.ni p.I) (hpO : IC w bo 0 p.no p.O) (hqI : IC w di 0 q.ni q.I) (hqO : IC w do' 0 q.no q.O) (hc : ∀ k, k < n → clB p q k = false) :
    Calls Tryz.prog 112 #[.int .i64 n, .agg #[.slice (some ⟨bi, 0, none⟩) p.ni ci, .slice (some ⟨bo, 0, none⟩) p.no co], .agg #[.slice (some ⟨di, 0, none⟩) q.ni ei, .slice (some ⟨do', 0, none⟩) q.no eo]] w fun e w' => (∃ g c, e = .returned (.slice (some ⟨g, 0, none⟩) 0 c)) ∧ Below w.heap.size w w' := by
  have HOP := Lib.hid hp
  have HOQ := Lib.hid hq
  obtain ⟨hn, p1, p2, _⟩ := ptOk_parts hp
  obtain ⟨_, q1, q2, _⟩ := ptOk_parts hq
  have HCL := Lib.hid hc
  have HX0 : Hid (Bx ((w.alloc (.cells #[.slice (some ⟨bi, 0, none⟩) p.ni ci, .slice (some ⟨bo, 0, none⟩) p.no co] 41)).alloc (.cells #[.slice (some ⟨di, 0, none⟩) q.ni ei, .slice (some ⟨do', 0, none⟩) q.no eo] 41)) w.heap.size 41 #[.slice (some ⟨bi, 0, none⟩) p.ni ci, .slice (some ⟨bo, 0, none⟩) p.no co]) := (Bx.new _ _ _).alloc _
  have HY0 : Hid (Bx ((w.alloc (.cells #[.slice (some ⟨bi, 0, none⟩) p.ni ci, .slice (some ⟨bo, 0, none⟩) p.no co] 41)).alloc (.cells #[.slice (some ⟨di, 0, none⟩) q.ni ei, .slice (some ⟨do', 0, none⟩) q.no eo] 41)) (w.heap.size + 1) 41 #[.slice (some ⟨di, 0, none⟩) q.ni ei, .slice (some ⟨do', 0, none⟩) q.no eo]) := Bx.newAt (by simp)
  have HB0 : Hid (Below w.heap.size w ((w.alloc (.cells #[.slice (some ⟨bi, 0, none⟩) p.ni ci, .slice (some ⟨bo, 0, none⟩) p.no co] 41)).alloc (.cells #[.slice (some ⟨di, 0, none⟩) q.ni ei, .slice (some ⟨do', 0, none⟩) q.no eo] 41))) := (below_all _ _).alloc (by simp) _
  have HPI := Lib.hid hpI
  have HPO := Lib.hid hpO
  have HQI := Lib.hid hqI
  have HQO := Lib.hid hqO
  clear hp hq hpI hpO hqI hqO hc
  go_enter Tryz.func112, Tryz.ntmps112
  go_wp2_with fail
  generalize (w.alloc (.cells #[.slice (some ⟨bi, 0, none⟩) p.ni ci, .slice (some ⟨bo, 0, none⟩) p.no co] 41)).alloc (.cells #[.slice (some ⟨di, 0, none⟩) q.ni ei, .slice (some ⟨do', 0, none⟩) q.no eo] 41) = w1 at *
  have HBa : Hid (Below w1.heap.size w1 (w1.alloc (.cells #[] 3))) := below_all _ _
  go_loopw [7, 8] (fun o i wr => ∃ k g c : Nat, k ≤ n ∧ i = .int .i64 k ∧ o = .slice (some ⟨g, 0, none⟩) 0 c ∧ Hid (Below w1.heap.size w1 wr)) (fun _ i _ => n - (intOf i).toNat)
  case atStart => exact ⟨0, _, 0, Nat.zero_le _, rfl, rfl, HBa⟩
  case round =>
   obtain ⟨k, gg, cc, hk, rfl, rfl, HB⟩ := hrel
   by_cases hlt : k < n
   ·have hki : (k : Int) < (n : Int) := by omega
    have HCK := Lib.hid (HCL.out k hlt)
    have hs1 := HB0.out.size
    have HBW := Lib.hid (HB0.out.trans (HB.out.mono hs1))
    have hx := (HX0.out.below HB.out HX0.out.lt).cell
    have hy := (HY0.out.below HB.out HY0.out.lt).cell
    go_wp2_with fail
    refine (specPValid_any _ p n _ ⟨_, _, _, _, _, _, rfl, HPI.out.keep HBW.out, HPO.out.keep HBW.out⟩ (by omega) (by omega) (by omega)).mono ?_
    rintro e w3 ⟨rfl, hb3⟩
    have HB3 := Lib.hid (HB.out.trans (hb3.mono HB.out.size))
    have HW3 := Lib.hid (HB0.out.trans (HB3.out.mono hs1))
    rw [HOP.out]
    clear hb3 hx hy
    have hx := (HX0.out.below HB3.out HX0.out.lt).cell
    have hy := (HY0.out.below HB3.out HY0.out.lt).cell
    go_wp2_with fail
    refine (specPValid_any _ q n _ ⟨_, _, _, _, _, _, rfl, HQI.out.keep HW3.out, HQO.out.keep HW3.out⟩ (by omega) (by omega) (by omega)).mono ?_
    rintro e w4 ⟨rfl, hb4⟩
    have HB4 := Lib.hid (HB3.out.trans (hb4.mono HB3.out.size))
    have HW4 := Lib.hid (HB0.out.trans (HB4.out.mono hs1))
    rw [HOQ.out]
    clear hb4 hx hy
    have hx := (HX0.out.below HB4.out HX0.out.lt).cell
    have hy := (HY0.out.below HB4.out HY0.out.lt).cell
    go_wp2_with fail
    refine (l2Clash_any p q k bi ci bo co di ei do' eo _ (HPI.out.keep HW4.out) (HPO.out.keep HW4.out) (HQI.out.keep HW4.out) (HQO.out.keep HW4.out) (by omega) (by omega) (by omega) (by omega)).mono ?_
    rintro e w5 ⟨rfl, hb5⟩
    have HB5 := Lib.hid (HB4.out.trans (hb5.mono HB4.out.size))
    rw [HCK.out]
    clear hb5 hx hy
    go_wp2_with fail
    go_roundw
    case rel => exact ⟨k + 1, gg, cc, by omega, by go_num, rfl, HB5⟩
    case measure => simp [intOf]; omega
   ·obtain rfl : k = n := by omega
    have hs1 := HB0.out.size
    go_wp2_with fail
    go_ret
    exact ⟨⟨_, _, rfl⟩, HB0.out.trans (HB.out.mono hs1)⟩
set_option linter.unusedSimpArgs false in
set_option maxRecDepth 100000 in
set_option maxHeartbeats 4000000 in
theorem specPsValid_ok (ao : Option Addr) (c n : Nat) (ps : List Pt) (w : World) (hk : PsOk n ps) (hv : PsV w ao ps) :
    Calls Tryz.prog 85 #[.int .i64 n, .slice ao ps.length c] w fun e w' => e = .returned (.bool true) ∧ Below w.heap.size w w' := by
  have HN := hk.n1
  have HN5 := hk.n5
  have hlen := hk.len
  have hleni : ¬ (8 : Int) < (ps.length : Int) := by omega
  have HI : Hid (inB (n : Int) 1 5 = true) := inB_true.2 (by omega)
  have HK := Lib.hid hk
  have HV := Lib.hid hv
  have HB0 : Hid (Below w.heap.size w w) := Below.refl _ _
  clear hk hv
  go_enter Tryz.func85, Tryz.ntmps85
  go_wp2_with fail
  refine (l6In_any n 1 5 _).mono ?_
  rintro e w' ⟨rfl, rfl⟩
  rw [HI.out]
  go_wp2_with fail
  go_loopw [5, 6] (fun i _ wr => ∃ k : Nat, k ≤ ps.length ∧ i = .int .i64 k ∧ Hid (Below w.heap.size w wr)) (fun i _ _ => ps.length - (intOf i).toNat)
  case atStart => exact ⟨0, Nat.zero_le _, rfl, HB0⟩
  case round =>
   obtain ⟨i, hi, rfl, HB⟩ := hrel
   by_cases hlt : i < ps.length
   ·have hii : (i : Int) < (ps.length : Int) := by omega
    obtain ⟨b, bi, ci, bo, co, rfl, h1⟩ := HV.out i hlt
    have HP := Lib.hid h1
    have HPi := Lib.hid (h1.keep HB.out)
    have HOK := Lib.hid (HK.out.ok i hlt)
    obtain ⟨_, z1, z2, _⟩ := ptOk_parts HOK.out
    have c0 := HPi.out.c0
    have c1 := HPi.out.c1
    clear h1
    go_wp2_with fail
    refine (specPValid_any _ (pA ps i) n _ HPi.out.val (by omega) (by omega) (by omega)).mono ?_
    rintro e w2 ⟨rfl, hb2⟩
    have HB2 := Lib.hid (HB.out.trans (hb2.mono HB.out.size))
    rw [HOK.out]
    clear hb2 c0 c1
    go_wp2_with fail
    go_loopw [6] (fun q wr => ∃ j : Nat, j ≤ i ∧ q = .int .i64 j ∧ Hid (Below w.heap.size w wr)) (fun q _ => i - (intOf q).toNat)
    case atStart => exact ⟨0, Nat.zero_le _, rfl, HB2⟩
    case round =>
     obtain ⟨j, hj, rfl, HBJ⟩ := hrel
     by_cases hjt : j < i
     ·have hjj : (j : Int) < (i : Int) := by omega
      have hjl : (j : Int) < (ps.length : Int) := by omega
      obtain ⟨b', bi', ci', bo', co', e, h1⟩ := HV.out j (by omega)
      cases e
      have HPJ := Lib.hid (h1.keep HBJ.out)
      have HPI := Lib.hid (HP.out.keep HBJ.out)
      have HOKJ := Lib.hid (HK.out.ok j (by omega))
      have HCL : Hid (∀ k, k < n → clB (pA ps i) (pA ps j) k = false) := fun k hk => by
       have h := HK.out.nc i j k hlt hjt hk
       unfold clB at h ⊢
       rw [Bool.and_comm]
       exact h
      have HBd : Hid (Below wr.heap.size wr wr.drew) := (Below.refl _ _).drew
      clear h1 z1 z2
      generalize pA ps i = p at *
      generalize pA ps j = q at *
      have HSS : Hid (∀ W, Below wr.heap.size wr W → (W.cell? ⟨b, j * 2, none⟩ = some (.slice (some ⟨bi', 0, none⟩) q.ni ci') ∧ W.cell? ⟨b, j * 2 + 1, none⟩ = some (.slice (some ⟨bo', 0, none⟩) q.no co')) ∧ W.cell? ⟨b, i * 2, none⟩ = some (.slice (some ⟨bi, 0, none⟩) p.ni ci) ∧ W.cell? ⟨b, i * 2 + 1, none⟩ = some (.slice (some ⟨bo, 0, none⟩) p.no co)) := fun W h => ⟨HPJ.out.s W h, HPI.out.s W h⟩
      go_wp2_with fail
      refine wp_region_held_drew (S := fun W => (W.cell? ⟨b, j * 2, none⟩ = some (.slice (some ⟨bi', 0, none⟩) q.ni ci') ∧ W.cell? ⟨b, j * 2 + 1, none⟩ = some (.slice (some ⟨bo', 0, none⟩) q.no co')) ∧ W.cell? ⟨b, i * 2, none⟩ = some (.slice (some ⟨bi, 0, none⟩) p.ni ci) ∧ W.cell? ⟨b, i * 2 + 1, none⟩ = some (.slice (some ⟨bo, 0, none⟩) p.no co)) (by kernel_rfl) (HSS.out _ HBd.out) (fun hHeld => ?_)
      refine tkR 0 ?_
      refine tkR 1 ?_
      refine tkR 2 ?_
      refine tkR 3 ?_
      refine tkR 4 ?_
      refine tkR 5 ?_
      refine tkR 6 ?_
      refine tkR 7 ?_
      refine tkR 8 ?_
      refine r1R 9 (fun K hK => ?_)
      go_simp
      go_at_call 112
      go_must (refine Calls.mono (specClash_none p q n bi ci bo co bi' ci' bo' co' _ HOK.out HOKJ.out (HPI.out.keep HBd.out).I (HPI.out.keep HBd.out).O (HPJ.out.keep HBd.out).I (HPJ.out.keep HBd.out).O HCL.out) ?_)
      rintro e w5 ⟨⟨gx, cx, rfl⟩, hb5⟩
      have HB5 := Lib.hid (HBd.out.trans (hb5.mono HBd.out.size))
      clear hb5
      refine oR hK ?_ (fun hHeld => ?_)
      ·try dsimp only
       exact HSS.out _ HB5.out
      clear hK K
      refine tkR 10 ?_
      refine tkR 11 ?_
      refine wpAnyH_done (by kernel_rfl) ?_ _
      clear hHeld
      have HB6 := Lib.hid (HBJ.out.trans (HB5.out.mono HBJ.out.size))
      go_wp2_with fail
      go_roundw
      case rel => exact ⟨j + 1, by omega, by go_num, HB6⟩
      case measure => simp [intOf]; omega
     ·obtain rfl : j = i := by omega
      go_wp2_with fail
      go_roundw
      case rel => exact ⟨j + 1, by omega, by go_num, HBJ⟩
      case measure => simp [intOf]; omega
   ·obtain rfl : i = ps.length := by omega
    go_wp2_with fail
    go_ret
    exact ⟨rfl, HB.out⟩
set_option linter.unusedSimpArgs false in
set_option maxRecDepth 100000 in
set_option maxHeartbeats 4000000 in
theorem specPsValid_many (ao : Option Addr) (c n q : Nat) (w : World) (hn : 1 ≤ n ∧ n ≤ 5) (hq : 8 < q) (hq2 : q ≤ 1000000) :
    Calls Tryz.prog 85 #[.int .i64 n, .slice ao q c] w fun e w' => e = .returned (.bool false) ∧ Below w.heap.size w w' := by
  have HI : Hid (inB (n : Int) 1 5 = true) := inB_true.2 (by omega)
  have HB0 : Hid (Below w.heap.size w w) := Below.refl _ _
  have hqi : (8 : Int) < (q : Int) := by omega
  go_enter Tryz.func85, Tryz.ntmps85
  go_wp2_with fail
  refine (l6In_any n 1 5 _).mono ?_
  rintro e w' ⟨rfl, rfl⟩
  rw [HI.out]
  go_wp2_with fail
  go_ret
  exact ⟨rfl, HB0.out⟩
def insK (ps : List Pt) (k i : Nat) : List Nat → List Nat
  | [] => [i]
  | j :: r => if (pA ps j).I k < (pA ps i).I k then j :: insK ps k i r else i :: j :: r
def ordL (ps : List Pt) (k : Nat) : Nat → List Nat
  | 0 => []
  | i + 1 => insK ps k i (ordL ps k i)
theorem insK_mem {ps : List Pt} {k i x : Nat} : ∀ {l : List Nat}, x ∈ insK ps k i l ↔ x = i ∨ x ∈ l
  | [] => by simp [insK]
  | j :: r => by
   unfold insK
   split
   ·rw [List.mem_cons, insK_mem (l := r), List.mem_cons]
    constructor
    ·rintro (h | h | h)
     ·exact .inr (.inl h)
     ·exact .inl h
     ·exact .inr (.inr h)
    ·rintro (h | h | h)
     ·exact .inr (.inl h)
     ·exact .inl h
     ·exact .inr (.inr h)
   ·rw [List.mem_cons, List.mem_cons]
theorem ordL_mem {ps : List Pt} {k x : Nat} : ∀ n, x ∈ ordL ps k n ↔ x < n
  | 0 => by simp [ordL]
  | n + 1 => by
   unfold ordL
   rw [insK_mem, ordL_mem n]
   omega
theorem insK_len {ps : List Pt} {k i : Nat} : ∀ l : List Nat, (insK ps k i l).length = l.length + 1
  | [] => rfl
  | j :: r => by
   unfold insK
   split
   ·simp [insK_len r]
   ·simp
theorem ordL_len (ps : List Pt) (k : Nat) : ∀ n, (ordL ps k n).length = n
  | 0 => rfl
  | n + 1 => by unfold ordL; rw [insK_len, ordL_len ps k n]
def Srt (ps : List Pt) (k : Nat) (l : List Nat) : Prop := l.Pairwise fun a b => (pA ps a).I k ≤ (pA ps b).I k
theorem insK_srt {ps : List Pt} {k i : Nat} : ∀ {l : List Nat}, Srt ps k l → Srt ps k (insK ps k i l)
  | [], _ => by simp [insK, Srt]
  | j :: r, h => by
   have h1 := List.pairwise_cons.1 h
   unfold insK
   split
   ·rename_i hlt
    refine List.pairwise_cons.2 ⟨fun x hx => ?_, insK_srt h1.2⟩
    rcases insK_mem.1 hx with e | e
    ·subst e; omega
    ·exact h1.1 x e
   ·rename_i hlt
    refine List.pairwise_cons.2 ⟨fun x hx => ?_, h⟩
    rcases List.mem_cons.1 hx with e | e
    ·subst e; omega
    ·have := h1.1 x e
     omega
theorem ordL_srt (ps : List Pt) (k : Nat) : ∀ n, Srt ps k (ordL ps k n)
  | 0 => List.Pairwise.nil
  | n + 1 => insK_srt (ordL_srt ps k n)
theorem insK_at {ps : List Pt} {k i : Nat} : ∀ (l : List Nat) (m : Nat), (∀ q, q < m → ∀ j, l[q]? = some j → (pA ps j).I k < (pA ps i).I k) → (∀ j, l[m]? = some j → ¬ (pA ps j).I k < (pA ps i).I k) → m ≤ l.length → insK ps k i l = l.take m ++ i :: l.drop m
  | [], m, _, _, hm => by
   obtain rfl : m = 0 := by simpa using hm
   rfl
  | j :: r, 0, _, h2, _ => by
   unfold insK
   rw [if_neg (h2 j rfl)]
   rfl
  | j :: r, m + 1, h1, h2, hm => by
   unfold insK
   rw [if_pos (h1 0 (by omega) j rfl), insK_at r m (fun q hq x hx => h1 (q + 1) (by omega) x hx) (fun x hx => h2 x hx) (by simpa using hm)]
   rfl
def frS (ps : List Pt) (k : Nat) (r t : Int) (j : Nat) : Int := if frK (pA ps j) k t r = true then (pA ps j).O k else t
def frF (ps : List Pt) (k : Nat) (r : Int) (l : List Nat) (t : Int) : Int := l.foldl (frS ps k r) t
theorem frK_true {p : Pt} {k : Nat} {t r : Int} : frK p k t r = true ↔ t < p.O k ∧ p.I k < t + r := by unfold frK; rw [Bool.and_eq_true, decide_eq_true_eq, decide_eq_true_eq]
theorem frF_inv {ps : List Pt} {k : Nat} {r : Int} : ∀ (l d : List Nat) (t0 t : Int), Srt ps k l → (∀ a, a ∈ d → ∀ b, b ∈ l → (pA ps a).I k ≤ (pA ps b).I k) → t0 ≤ t → (∀ u, t0 ≤ u → u < t → ∃ j, (j ∈ d ∨ j ∈ l) ∧ frK (pA ps j) k u r = true) → (∀ a, a ∈ d → (pA ps a).O k ≤ t ∨ t + r ≤ (pA ps a).I k) →
    t0 ≤ frF ps k r l t ∧ (∀ u, t0 ≤ u → u < frF ps k r l t → ∃ j, (j ∈ d ∨ j ∈ l) ∧ frK (pA ps j) k u r = true) ∧ ∀ a, a ∈ d ∨ a ∈ l → frK (pA ps a) k (frF ps k r l t) r = false
  | [], d, t0, t, _, _, h3, h4, h5 => ⟨h3, h4, fun a ha => by
     rcases ha with ha | ha
     ·cases e : frK (pA ps a) k (frF ps k r [] t) r
      ·rfl
      ·have h := frK_true.1 e
       have e2 : frF ps k r [] t = t := rfl
       rw [e2] at h
       rcases h5 a ha with h' | h' <;> omega
     ·cases ha⟩
  | j :: l, d, t0, t, h1, h2, h3, h4, h5 => by
   have hp := List.pairwise_cons.1 h1
   have hstep : frF ps k r (j :: l) t = frF ps k r l (frS ps k r t j) := rfl
   rw [hstep]
   have key : t ≤ frS ps k r t j ∧ (∀ u, t0 ≤ u → u < frS ps k r t j → ∃ x, (x ∈ d ++ [j] ∨ x ∈ l) ∧ frK (pA ps x) k u r = true) ∧ ∀ a, a ∈ d ++ [j] → (pA ps a).O k ≤ frS ps k r t j ∨ frS ps k r t j + r ≤ (pA ps a).I k := by
    have hmem : ∀ x, (x ∈ d ∨ x ∈ j :: l) → (x ∈ d ++ [j] ∨ x ∈ l) := fun x hx => by
     rcases hx with h | h
     ·exact .inl (List.mem_append.2 (.inl h))
     ·rcases List.mem_cons.1 h with h | h
      ·exact .inl (List.mem_append.2 (.inr (by rw [h]; exact List.mem_singleton.2 rfl)))
      ·exact .inr h
    unfold frS
    by_cases hf : frK (pA ps j) k t r = true
    ·rw [if_pos hf]
     have hb := frK_true.1 hf
     refine ⟨by omega, fun u hu1 hu2 => ?_, fun a ha => ?_⟩
     ·by_cases e : u < t
      ·obtain ⟨x, hx, hxk⟩ := h4 u hu1 e
       exact ⟨x, hmem x hx, hxk⟩
      ·exact ⟨j, .inl (List.mem_append.2 (.inr (List.mem_singleton.2 rfl))), frK_true.2 ⟨hu2, by omega⟩⟩
     ·rcases List.mem_append.1 ha with h | h
      ·left
       rcases h5 a h with h' | h'
       ·omega
       ·have := h2 a h j (List.mem_cons_self ..)
        omega
      ·rw [List.mem_singleton.1 h]
       left
       omega
    ·rw [if_neg hf]
     refine ⟨Int.le_refl _, fun u hu1 hu2 => ?_, fun a ha => ?_⟩
     ·obtain ⟨x, hx, hxk⟩ := h4 u hu1 hu2
      exact ⟨x, hmem x hx, hxk⟩
     ·rcases List.mem_append.1 ha with h | h
      ·exact h5 a h
      ·rw [List.mem_singleton.1 h]
       by_cases e : t < (pA ps j).O k
       ·right
        by_cases e2 : (pA ps j).I k < t + r
        ·exact absurd (frK_true.2 ⟨e, e2⟩) hf
        ·omega
       ·left
        omega
   obtain ⟨k1, k2, k3⟩ := key
   obtain ⟨q1, q2, q3⟩ := frF_inv l (d ++ [j]) t0 (frS ps k r t j) hp.2 (fun a ha b hb => by
    rcases List.mem_append.1 ha with h | h
    ·exact h2 a h b (List.mem_cons_of_mem _ hb)
    ·rw [List.mem_singleton.1 h]
     exact hp.1 b hb) (by omega) k2 k3
   have hback : ∀ x, (x ∈ d ++ [j] ∨ x ∈ l) → (x ∈ d ∨ x ∈ j :: l) := fun x hx => by
    rcases hx with h | h
    ·rcases List.mem_append.1 h with h | h
     ·exact .inl h
     ·exact .inr (by rw [List.mem_singleton.1 h]; exact List.mem_cons_self ..)
    ·exact .inr (List.mem_cons_of_mem _ h)
   refine ⟨q1, fun u hu1 hu2 => ?_, fun a ha => q3 a ?_⟩
   ·obtain ⟨x, hx, hxk⟩ := q2 u hu1 hu2
    exact ⟨x, hback x hx, hxk⟩
   ·rcases ha with h | h
    ·exact .inl (List.mem_append.2 (.inl h))
    ·rcases List.mem_cons.1 h with h | h
     ·exact .inl (List.mem_append.2 (.inr (by rw [h]; exact List.mem_singleton.2 rfl)))
     ·exact .inr h
theorem frO_of {ps : List Pt} {k : Nat} {r at' : Int} (hr : 0 ≤ r) (hfree : frB ps k at' r = true) : ∀ (q : Nat) (t : Int), (at' - t).toNat = q → t ≤ at' → (∀ u, t ≤ u → u < at' → frB ps k u r = false) → frO ps k t r = if at' ≤ 2000 - r then some at' else none
  | 0, t, hq, ht, _ => by
   obtain rfl : t = at' := by omega
   by_cases h : t ≤ 2000 - r
   ·rw [if_pos h, frO_here hr h hfree]
   ·rw [if_neg h, frO_late h]
  | q + 1, t, hq, ht, hb => by
   have hlt : t < at' := by omega
   by_cases h : t ≤ 2000 - r
   ·rw [frO_next hr h (hb t (Int.le_refl _) hlt)]
    exact frO_of hr hfree q (t + 1) (by omega) (by omega) (fun u h1 h2 => hb u (by omega) h2)
   ·rw [frO_late h, if_neg (by omega)]
theorem free_frO {ps : List Pt} {k : Nat} {t r : Int} (hr : 0 ≤ r) : frO ps k t r = if frF ps k r (ordL ps k ps.length) t ≤ 2000 - r then some (frF ps k r (ordL ps k ps.length) t) else none := by
 obtain ⟨h1, h2, h3⟩ := frF_inv (ordL ps k ps.length) [] t t (r := r) (ordL_srt ps k ps.length) (fun a ha => by cases ha) (Int.le_refl _) (fun u h1 h2 => by omega) (fun a ha => by cases ha)
 refine frO_of hr (allB_of fun i hi => ?_) _ t rfl h1 (fun u hu1 hu2 => ?_)
 ·rw [h3 i (.inr ((ordL_mem _).2 hi))]
  rfl
 ·obtain ⟨j, hj, hjk⟩ := h2 u hu1 hu2
  rcases hj with hj | hj
  ·cases hj
  ·exact allB_not ((ordL_mem _).1 hj) (by rw [hjk]; rfl)
theorem frF_bd {ps : List Pt} {n k : Nat} {r : Int} (hk : PsOk n ps) (hkn : k < n) : ∀ (l : List Nat) (t : Int), (∀ j, j ∈ l → j < ps.length) → 0 ≤ t ∧ t ≤ 1000000 → 0 ≤ frF ps k r l t ∧ frF ps k r l t ≤ 1000000
  | [], _, _, h => h
  | j :: l, t, hm, h => by
   refine frF_bd hk hkn l (frS ps k r t j) (fun x hx => hm x (List.mem_cons_of_mem _ hx)) ?_
   have h1 := ptOk_at (hk.ok j (hm j (List.mem_cons_self ..))) hkn
   unfold frS
   split <;> omega
end Go.Proofs.YtlkdmpfifpkpaaaGreatDoor

