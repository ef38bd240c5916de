/-
  Parts of the proof: Zu Zp. No condition.
-/
import Derived.Test.YtlkdmpfifpkpaaaGreatDoorV33
namespace Go.Proofs.YtlkdmpfifpkpaaaGreatDoor
open Go.RowKit
abbrev SeP := Ses × List Pt
structure SeOk (s : SeP) : Prop where
  k : SesOk s.1
  p : PsOk s.1.x.n s.2
def kdX (t : ByteArray) : Nat := cmdK (wd0 t) (wdL t).length
def stX (s : SeP) (t : ByteArray) : Option SeP := stpX s.1 s.2 (wdI t) (wdL t).length (kdX t)
def nxtX (s : SeP) (t : ByteArray) : SeP := (stX s t).getD s
def tellX (s : SeP) (t : ByteArray) : ByteArray := match stX s t with | some _ => sayX s.1 s.2 (wdI t) (wdL t).length (kdX t) | none => noT
theorem kd_cases (t : ByteArray) : (kdX t < 9 ∧ ixC (wd0 t) = kdX t ∧ (cmN (kdX t) < 0 ∨ cmN (kdX t) = (wdL t).length)) ∨ kdX t = 9 := by
 by_cases h : kdX t < 9
 ·obtain ⟨h1, h2⟩ := cmdK_some (w0 := wd0 t) (n := (wdL t).length) rfl h
  exact .inl ⟨h, h1, h2⟩
 ·right
  unfold kdX cmdK at h ⊢
  split
  ·rename_i h2; rw [if_pos h2] at h; omega
  ·rfl
theorem runO_vld {x : Ln} {M : Nat → Int} {L : Nat → ByteArray} (hv : vldL x = true) : ∀ {k : Nat} {y : Ln}, runO x M L k = some y → vldL y = true
  | 0, y, h => by cases h; exact hv
  | k + 1, y, h => by
   simp only [runO] at h
   cases e : runO x M L k with
   | none => rw [e] at h; cases h
   | some z =>
    rw [e] at h
    have h2 : stepO z (M k) (L k) = some y := h
    unfold stepO at h2
    split at h2
    ·rename_i ho
     cases h2
     exact vld_mv (runO_vld hv e) ho
    ·cases h2
theorem doX_ok {st s : Ses} {ys : List (Int × ByteArray)} (hk : SesOk st) (h : doX st ys = some s) : SesOk s ∧ s.x.n = st.x.n := by
 unfold doX at h
 split at h
 ·rename_i hl
  cases e : rnO st.x (mvM ys) (mvS ys) ys.length with
  | none => rw [e] at h; cases h
  | some y =>
   rw [e] at h
   have h2 : some (rcAll { st with x := y } ys) = some s := h
   cases h2
   have e2 : runO st.x (mvM ys) (mvS ys) ys.length = some y := by
    unfold rnO at e
    rw [if_pos hk.xv] at e
    exact e
   have hml := hk.ml
   have htl := hk.tl
   refine ⟨⟨runO_vld hk.xv e2, hk.t0, hk.t1, ?_, ?_⟩, (runO_nm e2).1⟩
   ·show (st.ms ++ ys).length ≤ 100
    rw [List.length_append]; exact hl
   ·show (st.ts ++ List.replicate ys.length st.tm).length = (st.ms ++ ys).length
    rw [List.length_append, List.length_append, List.length_replicate, htl]
 ·cases h
theorem nwO_ok {a b : Int} {y : Ln} (h : nwO a b = some y) : vldL y = true ∧ 1 ≤ y.n ∧ y.n ≤ 5 := by
 unfold nwO at h
 split at h
 ·rename_i h2
  cases h
  rw [Bool.and_eq_true] at h2
  have h3 := inB_true.1 h2.1
  have h4 := inB_true.1 h2.2
  exact ⟨newL_vld (by omega) (by omega) (by omega), by show 1 ≤ a.toNat; omega, by show a.toNat ≤ 5; omega⟩
 ·cases h
theorem stpX_ok {st : Ses} {ps : List Pt} {tx : Nat → ByteArray} {n : Nat} (h : SeOk (st, ps)) : ∀ (k : Nat) (s : SeP), stpX st ps tx n k = some s → SeOk s := by
 obtain ⟨hk, hp⟩ := h
 intro k s hs
 unfold stpX at hs
 split at hs
 ·cases e : nwO (nmF (tx 1)) (nmF (tx 2)) with
  | none => rw [e] at hs; cases hs
  | some y =>
   rw [e] at hs
   cases hs
   obtain ⟨h1, h2, h3⟩ := nwO_ok e
   exact ⟨⟨h1, Int.le_refl _, by show (0 : Int) ≤ 2000; decide, Nat.zero_le _, rfl⟩, PsOk.nil h2 h3⟩
 ·split at hs
  ·rename_i hle
   cases hs
   have h1 := nmF_bd (tx 1)
   have h2 : 0 ≤ st.tm := hk.t0
   exact ⟨⟨hk.xv, by show 0 ≤ st.tm + nmF (tx 1); omega, hle, hk.ml, hk.tl⟩, hp⟩
  ·cases hs
 ·cases e : doX st [(nmF (tx 1), tx 2)] with
  | none => rw [e] at hs; cases hs
  | some y =>
   rw [e] at hs
   cases hs
   obtain ⟨h1, h2⟩ := doX_ok hk e
   exact ⟨h1, by show PsOk y.x.n ps; rw [h2]; exact hp⟩
 ·cases e : doX st (fnL st.x) with
  | none => rw [e] at hs; cases hs
  | some y =>
   rw [e] at hs
   cases hs
   obtain ⟨h1, h2⟩ := doX_ok hk e
   exact ⟨h1, by show PsOk y.x.n ps; rw [h2]; exact hp⟩
 ·split at hs
  ·cases e : adO ps st.x.n st.x.n (fun i => nmF (tx (i + 2))) (nmF (tx 1)) with
   | none => rw [e] at hs; cases hs
   | some l =>
    rw [e] at hs
    cases hs
    exact ⟨hk, psOk_add hp (by have := nmF_bd (tx 1); omega) e⟩
  ·cases hs; exact ⟨hk, hp⟩
 ·cases hs; exact ⟨hk, hp⟩
theorem nxt_ok {s : SeP} (h : SeOk s) (t : ByteArray) : SeOk (nxtX s t) := by
 unfold nxtX
 cases e : stX s t with
 | none => exact h
 | some s2 => exact stpX_ok h _ _ e
theorem doX_one (st : Ses) (hml : st.ms.length ≤ 100) (k : Int) (l : ByteArray) : mvSt st k l = doX st [(k, l)] := by
 have e : rnO st.x (mvM [(k, l)]) (mvS [(k, l)]) [(k, l)].length = stO st.x k l := by
  unfold rnO stO
  split
  ·rfl
  ·rfl
 unfold mvSt doX
 rw [e]
 have h1 : [(k, l)].length = 1 := rfl
 by_cases h : st.ms.length = 100
 ·rw [if_neg (show ¬ st.ms.length + [(k, l)].length ≤ 100 by omega)]
  cases stO st.x k l with
  | none => rfl
  | some y => exact if_pos h
 ·rw [if_pos (show st.ms.length + [(k, l)].length ≤ 100 by omega)]
  cases stO st.x k l with
  | none => rfl
  | some y => exact (if_neg h).trans (by simp [rcAll, rcS])
theorem SesOk.pap {st : Ses} (h : SesOk st) (pa : Option Addr) (pn pc : Nat) : SesOk { st with pa := pa, pn := pn, pc := pc } := ⟨h.xv, h.t0, h.t1, h.ml, h.tl⟩
theorem doX_pap (st : Ses) (ys : List (Int × ByteArray)) (pa : Option Addr) (pn pc : Nat) : doX { st with pa := pa, pn := pn, pc := pc } ys = (doX st ys).map fun s => { s with pa := pa, pn := pn, pc := pc } := by
 unfold doX
 by_cases h : st.ms.length + ys.length ≤ 100
 ·rw [if_pos h, if_pos h]
  show (match rnO st.x (mvM ys) (mvS ys) ys.length with | some y => some (rcAll { st with x := y, pa := pa, pn := pn, pc := pc } ys) | none => none) = _
  cases rnO st.x (mvM ys) (mvS ys) ys.length <;> rfl
 ·rw [if_neg h, if_neg h]; rfl
theorem ansX {s : SeP} (h : SeOk s) {t : ByteArray} (ht : t.size ≤ 1000) : AnsP s.1 s.2 t (nxtX s t).1 (nxtX s t).2 (tellX s t) := by
 obtain ⟨st, ps⟩ := s
 have hk : SesOk st := h.k
 have hp : PsOk st.x.n ps := h.p
 have hK : cmdK (wd0 t) (wdL t).length = kdX t := rfl
 have hT : tellX (st, ps) t = match stX (st, ps) t with | some _ => sayX st ps (wdI t) (wdL t).length (kdX t) | none => noT := rfl
 have hN : nxtX (st, ps) t = (stX (st, ps) t).getD (st, ps) := rfl
 have hS : stX (st, ps) t = stpX st ps (wdI t) (wdL t).length (kdX t) := rfl
 rw [hN, hT, hS]
 rcases kd_cases t with ⟨h9, _, hl⟩ | h9
 ·generalize kdX t = k at *
  match k, h9 with
  | 0, _ =>
   have hl3 : (wdL t).length = 3 := by rcases hl with hl | hl <;> simp [cmN] at hl; omega
   show AnsP st ps t (((nwO (nmF (wdI t 1)) (nmF (wdI t 2))).map fun y => (({ x := y, tm := 0, ms := [], ts := [] }, []) : SeP)).getD (st, ps)).1 _ _
   cases e : nwO (nmF (wdI t 1)) (nmF (wdI t 2)) with
   | none =>
    have e2 : stpX st ps (wdI t) (wdL t).length 0 = none := by show Option.map _ _ = none; rw [e]; rfl
    rw [e2]
    exact ansP_lineNo ht hK hl3 e
   | some y =>
    have e2 : stpX st ps (wdI t) (wdL t).length 0 = some ({ x := y, tm := 0, ms := [], ts := [] }, []) := by show Option.map _ _ = _; rw [e]; rfl
    rw [e2]
    exact ansP_line ht hK hl3 e
  | 1, _ =>
   have hl2 : (wdL t).length = 2 := by rcases hl with hl | hl <;> simp [cmN] at hl; omega
   by_cases hle : st.tm + nmF (wdI t 1) ≤ 2000
   ·have e2 : stpX st ps (wdI t) (wdL t).length 1 = some ({ st with tm := st.tm + nmF (wdI t 1) }, ps) := if_pos hle
    rw [e2]
    refine AnsP.of_ans fun pa pc => ?_
    have q := ans_wait (st := { st with pa := pa, pn := ps.length, pc := pc }) ht (hk.pap _ _ _) hK hl2
    have q1 : wtS { st with pa := pa, pn := ps.length, pc := pc } (wdI t 1) = { st with tm := st.tm + nmF (wdI t 1), pa := pa, pn := ps.length, pc := pc } := if_pos hle
    have q2 : wtO { st with pa := pa, pn := ps.length, pc := pc } (wdI t 1) = okT := if_pos hle
    rw [q1, q2] at q
    exact q
   ·have e2 : stpX st ps (wdI t) (wdL t).length 1 = none := if_neg hle
    rw [e2]
    refine AnsP.of_ans fun pa pc => ?_
    have q := ans_wait (st := { st with pa := pa, pn := ps.length, pc := pc }) ht (hk.pap _ _ _) hK hl2
    have q1 : wtS { st with pa := pa, pn := ps.length, pc := pc } (wdI t 1) = { st with pa := pa, pn := ps.length, pc := pc } := if_neg hle
    have q2 : wtO { st with pa := pa, pn := ps.length, pc := pc } (wdI t 1) = noT := if_neg hle
    rw [q1, q2] at q
    exact q
  | 2, _ =>
   have hl3 : (wdL t).length = 3 := by rcases hl with hl | hl <;> simp [cmN] at hl; omega
   have hq : ∀ pa pc, Ans { st with pa := pa, pn := ps.length, pc := pc } t (((doX st [(nmF (wdI t 1), wdI t 2)]).map fun s => { s with pa := pa, pn := ps.length, pc := pc }).getD { st with pa := pa, pn := ps.length, pc := pc }) (match (doX st [(nmF (wdI t 1), wdI t 2)]) with | some _ => okT | none => noT) := fun pa pc => by
    have q := ans_do (st := { st with pa := pa, pn := ps.length, pc := pc }) ht (hk.pap _ _ _) hK hl3
    have q0 : mvSt { st with pa := pa, pn := ps.length, pc := pc } (nmF (wdI t 1)) (wdI t 2) = (doX st [(nmF (wdI t 1), wdI t 2)]).map fun s => { s with pa := pa, pn := ps.length, pc := pc } := by rw [doX_one { st with pa := pa, pn := ps.length, pc := pc } hk.ml, doX_pap]
    unfold mvSS mvSO at q
    rw [q0] at q
    cases e : doX st [(nmF (wdI t 1), wdI t 2)] <;> rw [e] at q <;> exact q
   cases e : doX st [(nmF (wdI t 1), wdI t 2)] with
   | none =>
    have e2 : stpX st ps (wdI t) (wdL t).length 2 = none := by show Option.map _ _ = none; rw [e]; rfl
    rw [e2]
    rw [e] at hq
    exact AnsP.of_ans hq
   | some y =>
    have e2 : stpX st ps (wdI t) (wdL t).length 2 = some (y, ps) := by show Option.map _ _ = _; rw [e]; rfl
    rw [e2]
    rw [e] at hq
    exact AnsP.of_ans hq
  | 3, _ =>
   have hq : ∀ pa pc, Ans { st with pa := pa, pn := ps.length, pc := pc } t (((doX st (fnL st.x)).map fun s => { s with pa := pa, pn := ps.length, pc := pc }).getD { st with pa := pa, pn := ps.length, pc := pc }) (match (doX st (fnL st.x)) with | some _ => ⟨#[109, 111, 118, 101, 115, 32]⟩ ++ itT (fnL st.x).length | none => noT) := fun pa pc => by
    have q := ans_finish (st := { st with pa := pa, pn := ps.length, pc := pc }) ht (hk.pap _ _ _) hK
    have q0 : fiS { st with pa := pa, pn := ps.length, pc := pc } = (doX st (fnL st.x)).map fun s => { s with pa := pa, pn := ps.length, pc := pc } := by
     show doX { st with pa := pa, pn := ps.length, pc := pc } (fnL st.x) = _
     rw [doX_pap]
    unfold fiSS fiO at q
    rw [q0] at q
    cases e : doX st (fnL st.x) <;> rw [e] at q <;> exact q
   cases e : doX st (fnL st.x) with
   | none =>
    have e2 : stpX st ps (wdI t) (wdL t).length 3 = none := by show Option.map _ _ = none; rw [e]; rfl
    rw [e2]
    rw [e] at hq
    exact AnsP.of_ans hq
   | some y =>
    have e2 : stpX st ps (wdI t) (wdL t).length 3 = some (y, ps) := by show Option.map _ _ = _; rw [e]; rfl
    rw [e2]
    rw [e] at hq
    exact AnsP.of_ans hq
  | 4, _ => exact AnsP.of_ans fun pa pc => ans_where (st := { st with pa := pa, pn := ps.length, pc := pc }) ht (hk.pap _ _ _) hK
  | 5, _ => exact AnsP.of_ans fun pa pc => ans_next (st := { st with pa := pa, pn := ps.length, pc := pc }) ht (hk.pap _ _ _) hK
  | 6, _ =>
   have hl2 : (wdL t).length = 2 := by rcases hl with hl | hl <;> simp [cmN] at hl; omega
   exact AnsP.of_ans fun pa pc => ans_book (st := { st with pa := pa, pn := ps.length, pc := pc }) ht (hk.pap _ _ _) hK hl2
  | 7, _ =>
   by_cases hn : (wdL t).length = st.x.n + 2
   ·have q := ansP_fit ht hp hK hn
    have q1 : ftS st ps t = match adO ps st.x.n st.x.n (fun i => nmF (wdI t (i + 2))) (nmF (wdI t 1)) with | some l => ps ++ [ftP l (fun i => nmF (wdI t (i + 2))) st.x.n] | none => ps := rfl
    have q2 : ftT st ps t = match adO ps st.x.n st.x.n (fun i => nmF (wdI t (i + 2))) (nmF (wdI t 1)) with | some l => spT (ftP l (fun i => nmF (wdI t (i + 2))) st.x.n).I st.x.n | none => noT := rfl
    have e2 : stpX st ps (wdI t) (wdL t).length 7 = (adO ps st.x.n st.x.n (fun i => nmF (wdI t (i + 2))) (nmF (wdI t 1))).map fun l => (st, ps ++ [ftP l (fun i => nmF (wdI t (i + 2))) st.x.n]) := if_pos hn
    have e3 : sayX st ps (wdI t) (wdL t).length 7 = match adO ps st.x.n st.x.n (fun i => nmF (wdI t (i + 2))) (nmF (wdI t 1)) with | some l => spT (ftP l (fun i => nmF (wdI t (i + 2))) st.x.n).I st.x.n | none => noT := if_pos hn
    rw [q1, q2] at q
    rw [e2, e3]
    cases e : adO ps st.x.n st.x.n (fun i => nmF (wdI t (i + 2))) (nmF (wdI t 1)) <;> rw [e] at q <;> exact q
   ·have e2 : stpX st ps (wdI t) (wdL t).length 7 = some (st, ps) := if_neg hn
    have e3 : sayX st ps (wdI t) (wdL t).length 7 = whatT := if_neg hn
    rw [e2, e3]
    exact ansP_fitBad (st := st) ht (by have := hk.xn; omega) hK hn
  | 8, _ =>
   have hl2 : (wdL t).length = 2 := by rcases hl with hl | hl <;> simp [cmN] at hl; omega
   exact ansP_busy ht hp hK hl2
 ·rw [h9]
  exact AnsP.of_ans fun pa pc => ans_none (st := { st with pa := pa, pn := ps.length, pc := pc }) ht (by rw [hK, h9])
set_option linter.unusedSimpArgs false in
set_option maxRecDepth 100000 in
set_option maxHeartbeats 4000000 in
theorem l9Line_wait (g1 c1 g2 c2 gm cm gt ct c0 bw cw q : Nat) (ao : Option Addr) (st : Ses) (ps : List Pt) (tx : Nat → ByteArray) (w : World) (hM : SpM w g1 g2 gm gt ao st ps) (hk : SesOk st) (hp : PsOk st.x.n ps) (hq : q < 1000000) (hw : ∀ i, i < q + 1 → w.cell? ⟨bw, i, none⟩ = some (.string (tx i))) (hc : ixC (tx 0) = 1) (hn : q = 1) :
    Calls Tryz.prog 41 #[.agg #[.slice (some ⟨g1, 0, none⟩) st.x.n c1, .slice (some ⟨g2, 0, none⟩) st.x.m c2, .slice (some ⟨gm, 0, none⟩) st.ms.length cm, .slice (some ⟨gt, 0, none⟩) st.ts.length ct, .int .i64 st.tm, .slice ao ps.length c0], .slice (some ⟨bw, 0, none⟩) (q + 1) cw] w (LiR st ps ao (stpX st ps tx (q + 1) 1) (sayX st ps tx (q + 1) 1) w) := by
  have hy := wd_y1 hc
  have hqb : ((q : Int) == 1) = true := beq_iff_eq.2 (by omega)
  have hq1 : (0 : Int) < (q : Int) := by omega
  have hq1n : 0 < q := by omega
  clear hc hn
  have HB0 : Hid (Below w.heap.size w ((w.alloc (.cells #[.slice (some ⟨g1, 0, none⟩) st.x.n c1, .slice (some ⟨g2, 0, none⟩) st.x.m c2, .slice (some ⟨gm, 0, none⟩) st.ms.length cm, .slice (some ⟨gt, 0, none⟩) st.ts.length ct, .int .i64 st.tm, .slice ao ps.length c0] 68)).alloc (.cells #[.slice none 0 0, .slice none 0 0, .slice none 0 0, .slice none 0 0, .int .i64 0, .slice none 0 0] 68))) := (below_all _ _).alloc (by simp) _
  have HX2 : Hid (Bx ((w.alloc (.cells #[.slice (some ⟨g1, 0, none⟩) st.x.n c1, .slice (some ⟨g2, 0, none⟩) st.x.m c2, .slice (some ⟨gm, 0, none⟩) st.ms.length cm, .slice (some ⟨gt, 0, none⟩) st.ts.length ct, .int .i64 st.tm, .slice ao ps.length c0] 68)).alloc (.cells #[.slice none 0 0, .slice none 0 0, .slice none 0 0, .slice none 0 0, .int .i64 0, .slice none 0 0] 68)) w.heap.size 68 #[.slice (some ⟨g1, 0, none⟩) st.x.n c1, .slice (some ⟨g2, 0, none⟩) st.x.m c2, .slice (some ⟨gm, 0, none⟩) st.ms.length cm, .slice (some ⟨gt, 0, none⟩) st.ts.length ct, .int .i64 st.tm, .slice ao ps.length c0]) := (Bx.new _ _ _).alloc _
  have HX4 : Hid (Bx ((w.alloc (.cells #[.slice (some ⟨g1, 0, none⟩) st.x.n c1, .slice (some ⟨g2, 0, none⟩) st.x.m c2, .slice (some ⟨gm, 0, none⟩) st.ms.length cm, .slice (some ⟨gt, 0, none⟩) st.ts.length ct, .int .i64 st.tm, .slice ao ps.length c0] 68)).alloc (.cells #[.slice none 0 0, .slice none 0 0, .slice none 0 0, .slice none 0 0, .int .i64 0, .slice none 0 0] 68)) (w.heap.size + 1) 68 #[.slice none 0 0, .slice none 0 0, .slice none 0 0, .slice none 0 0, .int .i64 0, .slice none 0 0]) := Bx.newAt (by simp)
  have HZ0 : Hid (((w.alloc (.cells #[.slice (some ⟨g1, 0, none⟩) st.x.n c1, .slice (some ⟨g2, 0, none⟩) st.x.m c2, .slice (some ⟨gm, 0, none⟩) st.ms.length cm, .slice (some ⟨gt, 0, none⟩) st.ts.length ct, .int .i64 st.tm, .slice ao ps.length c0] 68)).alloc (.cells #[.slice none 0 0, .slice none 0 0, .slice none 0 0, .slice none 0 0, .int .i64 0, .slice none 0 0] 68)).heap.size = w.heap.size + 2) := by show _ = _; simp
  have HM := Lib.hid hM
  have HK := Lib.hid hk
  have HP := Lib.hid hp
  have hbl : bw < w.heap.size := World.block_lt_of_cell? w ⟨bw, 0, none⟩ (hw 0 (by omega))
  have HW : Hid (∀ W, Below w.heap.size w W → ∀ i, i < q + 1 → W.cell? ⟨bw, i, none⟩ = some (.string (tx i))) := fun W h i hi => by rw [h.cell (p := ⟨bw, i, none⟩) hbl]; exact hw i hi
  have HNB := Lib.hid (l9Numbers_any bw cw q tx ((w.alloc (.cells #[.slice (some ⟨g1, 0, none⟩) st.x.n c1, .slice (some ⟨g2, 0, none⟩) st.x.m c2, .slice (some ⟨gm, 0, none⟩) st.ms.length cm, .slice (some ⟨gt, 0, none⟩) st.ts.length ct, .int .i64 st.tm, .slice ao ps.length c0] 68)).alloc (.cells #[.slice none 0 0, .slice none 0 0, .slice none 0 0, .slice none 0 0, .int .i64 0, .slice none 0 0] 68)) hq (HW.out _ HB0.out))
  clear hM hk hp hw
  go_enter Tryz.func41, Tryz.ntmps41
  go_wp2_with fail
  generalize (w.alloc (.cells #[.slice (some ⟨g1, 0, none⟩) st.x.n c1, .slice (some ⟨g2, 0, none⟩) st.x.m c2, .slice (some ⟨gm, 0, none⟩) st.ms.length cm, .slice (some ⟨gt, 0, none⟩) st.ts.length ct, .int .i64 st.tm, .slice ao ps.length c0] 68)).alloc (.cells #[.slice none 0 0, .slice none 0 0, .slice none 0 0, .slice none 0 0, .int .i64 0, .slice none 0 0] 68) = w0 at *
  refine HNB.out.mono ?_
  rintro e w2 ⟨⟨gn, cn, rfl, hnc, hgz, hgl, hqc⟩, hb2⟩
  have hz0 := HZ0.out
  have hz2 := hb2.size
  have HB2 := Lib.hid (HB0.out.trans (hb2.mono HB0.out.size))
  have hsx := (HX2.out.below hb2 HX2.out.lt).cell
  have HM3 : Hid (∀ c7, LiM w (w2.alloc (.cells c7 68)) w2.heap.size gn bw q tx #[.slice (some ⟨g1, 0, none⟩) st.x.n c1, .slice (some ⟨g2, 0, none⟩) st.x.m c2, .slice (some ⟨gm, 0, none⟩) st.ms.length cm, .slice (some ⟨gt, 0, none⟩) st.ts.length ct, .int .i64 st.tm, .slice ao ps.length c0] #[.slice none 0 0, .slice none 0 0, .slice none 0 0, .slice none 0 0, .int .i64 0, .slice none 0 0] c7) := fun c7 => ⟨(HX2.out.below hb2 HX2.out.lt).alloc _, (HX4.out.below hb2 HX4.out.lt).alloc _, Bx.new _ _ _, HB2.out.alloc HB2.out.size _, hnc.keep (below_all _ _), by omega, by omega, hgl, hbl, fun i hi => HW.out _ (HB2.out.alloc HB2.out.size _) i hi⟩
  have HQC : Hid (q ≤ cn) := hqc
  have hs2 := fun c7 => (HM3.out c7).x2.cell
  have hwd : ∀ c7, (w2.alloc (.cells c7 68)).cell? ⟨bw, 0, none⟩ = some (.string (tx 0)) := fun c7 => (HM3.out c7).wd 0 (by omega)
  clear hb2 hnc HB0 HX2 HX4 HZ0 HNB hgz hgl hz0 hz2 HB2 hqc
  go_wp2_with fail
  have HMA : Hid (LiM w (w2.alloc (.cells #[.slice (some ⟨g1, 0, none⟩) st.x.n c1, .slice (some ⟨g2, 0, none⟩) st.x.m c2, .slice (some ⟨gm, 0, none⟩) st.ms.length cm, .slice (some ⟨gt, 0, none⟩) st.ts.length ct, .int .i64 st.tm, .slice ao ps.length c0] 68)) w2.heap.size gn bw q tx #[.slice (some ⟨g1, 0, none⟩) st.x.n c1, .slice (some ⟨g2, 0, none⟩) st.x.m c2, .slice (some ⟨gm, 0, none⟩) st.ms.length cm, .slice (some ⟨gt, 0, none⟩) st.ts.length ct, .int .i64 st.tm, .slice ao ps.length c0] #[.slice none 0 0, .slice none 0 0, .slice none 0 0, .slice none 0 0, .int .i64 0, .slice none 0 0] #[.slice (some ⟨g1, 0, none⟩) st.x.n c1, .slice (some ⟨g2, 0, none⟩) st.x.m c2, .slice (some ⟨gm, 0, none⟩) st.ms.length cm, .slice (some ⟨gt, 0, none⟩) st.ts.length ct, .int .i64 st.tm, .slice ao ps.length c0]) := HM3.out _
  clear hwd hsx HM3 hs2
  generalize w2.alloc (.cells #[.slice (some ⟨g1, 0, none⟩) st.x.n c1, .slice (some ⟨g2, 0, none⟩) st.x.m c2, .slice (some ⟨gm, 0, none⟩) st.ms.length cm, .slice (some ⟨gt, 0, none⟩) st.ts.length ct, .int .i64 st.tm, .slice ao ps.length c0] 68) = w3 at *
  generalize w2.heap.size = b7 at *
  have HMD := Lib.hid (HMA.out.below (Below.refl _ _).drew)
  clear HMA
  have HWD : Hid (w3.drew = w3.drew) := rfl
  revert HMD HWD
  generalize hWD : w3.drew = W
  intro HMD _
  have HWD := Lib.hid hWD
  clear hWD
  have hnm := nmF_bd (tx 1)
  have ht0 := HK.out.t0
  have ht1 := HK.out.t1
  have hcw : IntKind.i64.wrap (st.tm + nmF (tx 1)) = st.tm + nmF (tx 1) := IntWalk.i64_in _ (by omega)
  have HT : Hid (st.tm + nmF (tx 1) = st.tm + nmF (tx 1)) := rfl
  have hn0 : W.cell? ⟨gn, 0, none⟩ = some (.int .i64 (nmF (tx 1))) := HMD.out.nu 0 (by omega)
  have hs0 : W.cell? ⟨w.heap.size, 4, none⟩ = some (.int .i64 st.tm) := HMD.out.x2.cell 4
  have hf7 := HMD.out.x7.free
  have hc7 := HMD.out.x7.cell
  refine wp_region_held_drew (S := fun W => W.cell? ⟨w.heap.size, 4, none⟩ = some (.int .i64 st.tm) ∧ W.cell? ⟨gn, 0, none⟩ = some (.int .i64 (nmF (tx 1)))) (by kernel_rfl) (by rw [HWD.out]; exact ⟨hs0, hn0⟩) (fun hHeld => ?_)
  rw [HWD.out] at hHeld ⊢
  refine tkR 0 ?_
  refine tkR 1 ?_
  refine tkR 2 ?_
  refine tkR 3 ?_
  refine tkR 4 ?_
  refine tkR 5 ?_
  refine tkR 6 ?_
  have HMS := Lib.hid (HMD.out.set7 4 (.int .i64 (st.tm + nmF (tx 1))))
  refine r1R 7 (fun K hK => ?_)
  go_simp
  skip
  refine oR hK ?_ (fun hHeld => ?_)
  ·try dsimp only
   exact ⟨HMS.out.x2.cell 4, HMS.out.nu 0 (by omega)⟩
  clear hK K
  refine wpAnyH_done (by kernel_rfl) ?_ _
  clear hHeld
  have hcs2 := HMS.out.x2.cell
  have hcs4 := HMS.out.x4.cell
  have hfs4 := HMS.out.x4.free
  have hcs7 : ∀ o, (W.setCell ⟨b7, 4, none⟩ (.int .i64 (st.tm + nmF (tx 1)))).cell? ⟨b7, o, none⟩ = (#[.slice (some ⟨g1, 0, none⟩) st.x.n c1, .slice (some ⟨g2, 0, none⟩) st.x.m c2, .slice (some ⟨gm, 0, none⟩) st.ms.length cm, .slice (some ⟨gt, 0, none⟩) st.ts.length ct, .int .i64 (st.tm + nmF (tx 1)), .slice ao ps.length c0] : Array Value)[o]? := HMS.out.x7.cell
  by_cases hle : st.tm + nmF (tx 1) ≤ 2000
  ·have HN : Hid (stpX st ps tx (q + 1) 1 = some ({ st with tm := st.tm + nmF (tx 1) }, ps)) := if_pos hle
   go_wp2_with fail
   obtain ⟨HXE, HFE⟩ := st6_both HMS.out.x4 (.slice (some ⟨g1, 0, none⟩) st.x.n c1) (.slice (some ⟨g2, 0, none⟩) st.x.m c2) (.slice (some ⟨gm, 0, none⟩) st.ms.length cm) (.slice (some ⟨gt, 0, none⟩) st.ts.length ct) (.int .i64 (st.tm + nmF (tx 1))) (.slice ao ps.length c0)
   have hec := HXE.cell
   have HBE := HMS.out.bl.trans (HFE.below (B := w.heap.size) (fun k hk => by omega) HMS.out.bl.size)
   refine bodyPost_ret (v := .tuple #[.agg #[(.slice (some ⟨g1, 0, none⟩) st.x.n c1), (.slice (some ⟨g2, 0, none⟩) st.x.m c2), (.slice (some ⟨gm, 0, none⟩) st.ms.length cm), (.slice (some ⟨gt, 0, none⟩) st.ts.length ct), (.int .i64 (st.tm + nmF (tx 1))), (.slice ao ps.length c0)], .string (okT ++ ⟨#[10]⟩)]) (by simp [results, Tryz.results41, go_sem, hec]; try rfl) rfl ⟨HBE, ?_⟩
   rw [HN.out]
   have hm := HM.out.keep HBE
   exact ⟨g1, c1, g2, c2, gm, cm, gt, ct, ao, c0, rfl, ⟨hm.bk, hm.tr, hm.mv, hm.tv, hm.pv, hm.l1, hm.l2, hm.lm, hm.lt⟩, .inr (.inl ⟨rfl, rfl⟩)⟩
  ·have HN : Hid (stpX st ps tx (q + 1) 1 = none) := if_neg hle
   go_wp2_with fail
   obtain ⟨HXE, HFE⟩ := st6_both HMS.out.x4 (.slice (some ⟨g1, 0, none⟩) st.x.n c1) (.slice (some ⟨g2, 0, none⟩) st.x.m c2) (.slice (some ⟨gm, 0, none⟩) st.ms.length cm) (.slice (some ⟨gt, 0, none⟩) st.ts.length ct) (.int .i64 st.tm) (.slice ao ps.length c0)
   have hec := HXE.cell
   have HBE := HMS.out.bl.trans (HFE.below (B := w.heap.size) (fun k hk => by omega) HMS.out.bl.size)
   refine bodyPost_ret (v := .tuple #[.agg #[(.slice (some ⟨g1, 0, none⟩) st.x.n c1), (.slice (some ⟨g2, 0, none⟩) st.x.m c2), (.slice (some ⟨gm, 0, none⟩) st.ms.length cm), (.slice (some ⟨gt, 0, none⟩) st.ts.length ct), (.int .i64 st.tm), (.slice ao ps.length c0)], .string (noT ++ ⟨#[10]⟩)]) (by simp [results, Tryz.results41, go_sem, hec]; try rfl) rfl ⟨HBE, ?_⟩
   rw [HN.out]
   exact ⟨g1, c1, g2, c2, gm, cm, gt, ct, ao, c0, rfl, HM.out.keep HBE, .inr (.inl ⟨rfl, rfl⟩)⟩
end Go.Proofs.YtlkdmpfifpkpaaaGreatDoor

