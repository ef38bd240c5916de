/-
  Parts of the proof: Yc Yd Pd Pg. No condition.
-/
import Derived.Deep.DrawnRows
import Derived.StillTailTactics
import Derived.Test.YtlkdmpfifpkpaaaGreatDoorV02
namespace Go.Proofs.YtlkdmpfifpkpaaaGreatDoor
open Go.RowKit
def frK (p : Pt) (k : Nat) (t r : Int) : Bool := decide (t < p.O k) && decide (p.I k < t + r)
def frB (ps : List Pt) (k : Nat) (t r : Int) : Bool := allB ps.length (fun i => !frK (pA ps i) k t r)
def frG (ps : List Pt) (k : Nat) (r : Int) : Nat → Int → Option Int
  | 0, _ => none
  | f + 1, t => if t ≤ 2000 - r then (if frB ps k t r = true then some t else frG ps k r f (t + 1)) else none
def frO (ps : List Pt) (k : Nat) (t r : Int) : Option Int := frG ps k r (2001 - t).toNat t
theorem frO_late {ps : List Pt} {k : Nat} {t r : Int} (h : ¬ t ≤ 2000 - r) : frO ps k t r = none := by
 unfold frO
 cases (2001 - t).toNat with
 | zero => rfl
 | succ f => unfold frG; rw [if_neg h]
theorem frO_here {ps : List Pt} {k : Nat} {t r : Int} (h0 : 0 ≤ r) (h : t ≤ 2000 - r) (hf : frB ps k t r = true) : frO ps k t r = some t := by
 unfold frO
 obtain ⟨f, e⟩ : ∃ f, (2001 - t).toNat = f + 1 := ⟨(2001 - t).toNat - 1, by omega⟩
 rw [e]
 unfold frG
 rw [if_pos h, if_pos hf]
theorem frO_next {ps : List Pt} {k : Nat} {t r : Int} (h0 : 0 ≤ r) (h : t ≤ 2000 - r) (hf : frB ps k t r = false) : frO ps k t r = frO ps k (t + 1) r := by
 unfold frO
 obtain ⟨f, e⟩ : ∃ f, (2001 - t).toNat = f + 1 := ⟨(2001 - t).toNat - 1, by omega⟩
 rw [e, show (2001 - (t + 1)).toNat = f by omega]
 conv => lhs; unfold frG
 rw [if_pos h, hf]
 rfl
theorem frO_some {ps : List Pt} {k : Nat} {r : Int} : ∀ (f : Nat) (t u : Int), frG ps k r f t = some u → t ≤ u ∧ u ≤ 2000 - r ∧ frB ps k u r = true
  | 0, _, _, h => by cases h
  | f + 1, t, u, h => by
   unfold frG at h
   split at h
   ·split at h
    ·rename_i h1 h2
     cases h
     exact ⟨Int.le_refl _, h1, h2⟩
    ·have := frO_some f (t + 1) u h
     exact ⟨by omega, this.2⟩
   ·cases h
theorem frO_bd {ps : List Pt} {k : Nat} {t r u : Int} (h : frO ps k t r = some u) : t ≤ u ∧ u ≤ 2000 - r ∧ frB ps k u r = true := frO_some _ _ _ h
set_option linter.unusedSimpArgs false in
set_option maxRecDepth 100000 in
set_option maxHeartbeats 4000000 in
theorem freeFn_any (b1 b2 b3 : Nat) (ao : Option Addr) (c n k : Nat) (t r : Int) (ps : List Pt) (w : World) (hk : PsOk n ps) (hkn : k < n) (hv : PsV w ao ps) (ht : 0 ≤ t ∧ t ≤ 2000) (hr : 0 ≤ r ∧ r ≤ 100)
    (h1 : w.cell? ⟨b1, 0, none⟩ = some (.slice ao ps.length c)) (h2 : w.cell? ⟨b2, 0, none⟩ = some (.int .i64 k)) (h3 : w.cell? ⟨b3, 0, none⟩ = some (.int .i64 r)) :
    Calls Tryz.prog 178 #[.int .i64 t, .pointer (some ⟨b1, 0, none⟩), .pointer (some ⟨b2, 0, none⟩), .pointer (some ⟨b3, 0, none⟩)] w fun e w' => e = .returned (.bool (frB ps k t r)) ∧ Dr w w' := by
  have HK := Lib.hid hk
  have HV := Lib.hid hv
  have hw : IntKind.i64.wrap (t + r) = t + r := IntWalk.i64_in _ (by omega)
  have hlen := hk.len
  clear hk hv
  go_enter Tryz.func178, Tryz.ntmps178
  go_wp2_with fail
  go_loopw [6, 9] (fun _ i wr => ∃ j : Nat, j ≤ ps.length ∧ i = .int .i64 j ∧ Hid (∀ q, q < j → frK (pA ps q) k t r = false) ∧ Dr w wr) (fun _ i _ => ps.length - (intOf i).toNat)
  case atStart => exact ⟨0, Nat.zero_le _, rfl, (fun q hq => by omega), Dr.refl _⟩
  case round =>
   obtain ⟨j, hj, rfl, HA, d, rfl⟩ := hrel
   by_cases hlt : j < ps.length
   ·have hji : (j : Int) < (ps.length : Int) := by omega
    obtain ⟨b, bi, ci, bo, co, rfl, hp⟩ := HV.out j hlt
    obtain ⟨_, e1, e2, _⟩ := ptOk_parts (HK.out.ok j hlt)
    have c0 := hp.c0
    have c1 := hp.c1
    have cI := hp.I.at k (by omega)
    have cO := hp.O.at k (by omega)
    rw [Nat.zero_add] at cI cO
    have i1 : (k : Int) < ((pA ps j).ni : Int) := by omega
    have i2 : (k : Int) < ((pA ps j).no : Int) := by omega
    have HF : Hid (frK (pA ps j) k t r = (decide (t < (pA ps j).O k) && decide ((pA ps j).I k < t + r))) := rfl
    clear hp e1 e2
    generalize (pA ps j).I k = x1 at *
    generalize (pA ps j).O k = x2 at *
    by_cases d1 : t < x2
    ·have f1 : decide (t < x2) = true := decide_eq_true d1
     by_cases d2 : x1 < t + r
     ·have f2 : decide (x1 < t + r) = true := decide_eq_true d2
      have HN : Hid (frB ps k t r = false) := allB_not hlt (by rw [HF.out, f1, f2]; rfl)
      clear d1 d2 HF
      go_wp2_with fail
      go_quiet (fail)
      go_wp2_with fail
      go_ret
      exact ⟨retB HN.out.symm, (by repeat (first | exact Dr.refl _ | exact ⟨_, rfl⟩ | refine Dr.drewN ?_ _))⟩
     ·have f2 : decide (x1 < t + r) = false := decide_eq_false d2
      have HN : Hid (∀ q, q < j + 1 → frK (pA ps q) k t r = false) := fun q hq => by
       by_cases e : q = j
       ·rw [e, HF.out, f1, f2]; rfl
       ·exact HA.out q (by omega)
      clear d1 d2 HF
      go_wp2_with fail
      go_quiet (fail)
      go_wp2_with fail
      go_roundw
      case rel => exact ⟨j + 1, by omega, by go_num, HN, (by repeat (first | exact Dr.refl _ | exact ⟨_, rfl⟩ | refine Dr.drewN ?_ _))⟩
      case measure => simp [intOf]; omega
    ·have f1 : decide (t < x2) = false := decide_eq_false d1
     have HN : Hid (∀ q, q < j + 1 → frK (pA ps q) k t r = false) := fun q hq => by
      by_cases e : q = j
      ·rw [e, HF.out, f1]; rfl
      ·exact HA.out q (by omega)
     clear d1 HF
     go_wp2_with fail
     go_quiet (fail)
     go_wp2_with fail
     go_roundw
     case rel => exact ⟨j + 1, by omega, by go_num, HN, (by repeat (first | exact Dr.refl _ | exact ⟨_, rfl⟩ | refine Dr.drewN ?_ _))⟩
     case measure => simp [intOf]; omega
   ·obtain rfl : j = ps.length := by omega
    have HT : Hid (frB ps k t r = true) := allB_of (fun q hq => by rw [HA.out q hq]; rfl)
    go_wp2_with fail
    go_ret
    exact ⟨retB HT.out.symm, (by repeat (first | exact Dr.refl _ | exact ⟨_, rfl⟩ | refine Dr.drewN ?_ _))⟩
def frV (o : Option Int) : Value := match o with | some t => .tuple #[.int .i64 t, .bool true] | none => .tuple #[.int .i64 0, .bool false]
set_option linter.unusedSimpArgs false in
set_option maxRecDepth 100000 in
set_option maxHeartbeats 4000000 in
theorem pathsFree_any (ao : Option Addr) (c n k : Nat) (t r : Int) (ps : List Pt) (w : World) (hk : PsOk n ps) (hkn : k < n) (hv : PsV w ao ps) (ht : 0 ≤ t ∧ t ≤ 1000000) (hr : 1 ≤ r ∧ r ≤ 100) :
    Calls Tryz.prog 171 #[.int .i64 n, .slice ao ps.length c, .int .i64 k, .int .i64 t, .int .i64 r] w fun e w' => e = .returned (frV (frO ps k t r)) ∧ Below w.heap.size w w' := by
  have HK := Lib.hid hk
  have HV := Lib.hid hv
  obtain ⟨hr1, hr2⟩ := hr
  obtain ⟨ht1, ht2⟩ := ht
  have hbb : ∀ a b d, Below w.heap.size w (((w.alloc a).alloc b).alloc d) := fun a b d => (((Below.refl _ _).alloc (Nat.le_refl _) _).alloc (by simp) _).alloc (by simp; omega) _
  have HB := Lib.hid hbb
  have HHS : Hid (∀ W, Below w.heap.size w W → Calls Tryz.prog 152 #[.int .i64 n, .slice ao ps.length c, .int .i64 (k : Int)] W fun e w' => e = .returned (.bool true) ∧ Below W.heap.size W w') := fun W h => by
   have q := hasSection_ok ao c n (k : Int) ps W hk (hv.keep h)
   rw [decide_eq_true (show (0 : Int) ≤ (k : Int) by omega), decide_eq_true (show (k : Int) < (n : Int) by omega)] at q
   exact q
  have hws : IntKind.i64.wrap (2000 - r) = 2000 - r := IntWalk.i64_in _ (by omega)
  clear hbb hk hv
  go_enter Tryz.func171, Tryz.ntmps171
  go_wp2_with fail
  have HX1 : Hid (∀ W, Below (w.heap.size + 1 + 1 + 1) (((w.alloc (.cells #[.slice ao ps.length c] 53)).alloc (.cells #[.int .i64 (k : Int)] 3)).alloc (.cells #[.int .i64 r] 3)) W → W.cell? ⟨w.heap.size, 0, none⟩ = some (.slice ao ps.length c) ∧ W.cell? ⟨w.heap.size + 1, 0, none⟩ = some (.int .i64 (k : Int)) ∧ W.cell? ⟨w.heap.size + 1 + 1, 0, none⟩ = some (.int .i64 r)) := fun W h => by
   refine ⟨?_, ?_, ?_⟩
   ·rw [h.cell (p := ⟨w.heap.size, 0, none⟩) (by dsimp only; omega)]; simp [go_sem]
   ·rw [h.cell (p := ⟨w.heap.size + 1, 0, none⟩) (by dsimp only; omega)]; simp [go_sem]
   ·rw [h.cell (p := ⟨w.heap.size + 1 + 1, 0, none⟩) (by dsimp only; omega)]; simp [go_sem]
  have HB1 := Lib.hid (HB.out (.cells #[.slice ao ps.length c] 53) (.cells #[.int .i64 (k : Int)] 3) (.cells #[.int .i64 r] 3))
  have HZ1 : Hid ((((w.alloc (.cells #[.slice ao ps.length c] 53)).alloc (.cells #[.int .i64 (k : Int)] 3)).alloc (.cells #[.int .i64 r] 3)).heap.size = w.heap.size + 1 + 1 + 1) := by show _ = _; simp
  generalize ((w.alloc (.cells #[.slice ao ps.length c] 53)).alloc (.cells #[.int .i64 (k : Int)] 3)).alloc (.cells #[.int .i64 r] 3) = w1 at *
  refine (HHS.out _ HB1.out).mono ?_
  rintro e w2 ⟨rfl, hb2⟩
  have HB2 := Lib.hid (hb2.mono (show w.heap.size + 1 + 1 + 1 ≤ w1.heap.size by rw [HZ1.out]; omega))
  have HBW := Lib.hid (HB1.out.trans (hb2.mono HB1.out.size))
  obtain ⟨x1, x2, x3⟩ := HX1.out _ HB2.out
  clear hb2
  go_wp2_with fail
  have HBZ : Hid (Below (w.heap.size + 1 + 1 + 1) w1 w2) := HB2.out
  go_loopw [13] (fun i wr => ∃ u : Int, i = .int .i64 u ∧ (0 ≤ u ∧ u ≤ 1000000) ∧ Hid (frO ps k t r = frO ps k u r) ∧ Hid (Below w2.heap.size w2 wr)) (fun i _ => (1000001 - intOf i).toNat)
  case atStart => exact ⟨t, rfl, ⟨ht1, ht2⟩, Lib.hid rfl, Lib.hid (Below.refl _ _)⟩
  case round =>
   obtain ⟨u, rfl, ⟨hu1, hu2⟩, HE, HBR⟩ := hrel
   have hs2 := HBW.out.size
   have HBX : Hid (Below (w.heap.size + 1 + 1 + 1) w1 wr) := HBZ.out.trans (HBR.out.mono (by have := HBZ.out.size; rw [HZ1.out] at this; exact this))
   have HBA := Lib.hid (HBW.out.trans (HBR.out.mono hs2))
   obtain ⟨y1, y2, y3⟩ := HX1.out _ HBX.out
   by_cases hle : u ≤ 2000 - r
   ·have hd : decide (u ≤ 2000 - r) = true := decide_eq_true hle
    cases hf : frB ps k u r
    ·have HE2 := Lib.hid (HE.out.trans (frO_next (by omega) hle hf))
     have HFF := Lib.hid hf
     clear hf
     go_wp2_with fail
     refine (freeFn_any _ _ _ ao c n k u r ps _ HK.out hkn (HV.out.keep HBA.out) (by omega) (by omega) y1 y2 y3).mono ?_
     rintro e w5 ⟨rfl, hd5⟩
     rw [HFF.out]
     have HB5 := Lib.hid (HBR.out.trans (below_dr hd5 _))
     clear hd5 y1 y2 y3
     have hwu : IntKind.i64.wrap (u + 1) = u + 1 := IntWalk.i64_in _ (by omega)
     go_wp2_with fail
     go_roundw
     case rel => exact ⟨u + 1, rfl, by omega, HE2, HB5⟩
     case measure => simp [intOf]; omega
    ·have HE2 := Lib.hid (HE.out.trans (frO_here (by omega) hle hf))
     have HFF := Lib.hid hf
     clear hf
     go_wp2_with fail
     refine (freeFn_any _ _ _ ao c n k u r ps _ HK.out hkn (HV.out.keep HBA.out) (by omega) (by omega) y1 y2 y3).mono ?_
     rintro e w5 ⟨rfl, hd5⟩
     rw [HFF.out]
     have HB5 := Lib.hid (HBA.out.trans (below_dr hd5 _))
     clear hd5 y1 y2 y3
     go_wp2_with fail
     go_ret2
     exact ⟨by rw [HE2.out]; rfl, HB5.out⟩
   ·have hd : decide (u ≤ 2000 - r) = false := decide_eq_false hle
    have HE2 := Lib.hid (HE.out.trans (frO_late hle))
    go_wp2_with fail
    go_ret2
    exact ⟨by rw [HE2.out]; rfl, HBA.out⟩
def rdyT (t : Int) (f : Nat → Int) (l : List Int) : Int := match l.getLast? with | none => t | some u => u + f (l.length - 1)
def fitL (ps : List Pt) (f : Nat → Int) (t : Int) : Nat → Option (List Int)
  | 0 => some []
  | k + 1 => match fitL ps f t k with | none => none | some l => match frO ps k (rdyT t f l) (f k) with | none => none | some u => some (l ++ [u])
def ftP (l : List Int) (f : Nat → Int) (n : Nat) : Pt := ⟨fun i => l[i]?.getD 0, n, fun i => l[i]?.getD 0 + f i, n⟩
def ftO (ps : List Pt) (n n' : Nat) (f : Nat → Int) (t : Int) : Option (List Int) := if rvB n n' f = true then fitL ps f t n else none
theorem rdyT_snoc (t : Int) (f : Nat → Int) (l : List Int) (u : Int) : rdyT t f (l ++ [u]) = u + f l.length := by simp [rdyT]
theorem fitL_next {ps : List Pt} {f : Nat → Int} {t u : Int} {k : Nat} {l : List Int} (h : fitL ps f t k = some l) (h2 : frO ps k (rdyT t f l) (f k) = some u) : fitL ps f t (k + 1) = some (l ++ [u]) := by
 unfold fitL
 rw [h]
 simp only [h2]
theorem fitL_stop {ps : List Pt} {f : Nat → Int} {t : Int} {k : Nat} {l : List Int} (h : fitL ps f t k = some l) (h2 : frO ps k (rdyT t f l) (f k) = none) : ∀ m, k < m → fitL ps f t m = none
  | 0, h3 => by omega
  | m + 1, h3 => by
   by_cases e : m = k
   ·subst e
    unfold fitL
    rw [h]
    simp only [h2]
   ·have := fitL_stop h h2 m (by omega)
    unfold fitL
    rw [this]
theorem fitL_len {ps : List Pt} {f : Nat → Int} {t : Int} : ∀ (k : Nat) (l : List Int), fitL ps f t k = some l → l.length = k
  | 0, l, h => by cases h; rfl
  | k + 1, l, h => by
   unfold fitL at h
   split at h
   ·cases h
   ·rename_i l0 h0
    split at h
    ·cases h
    ·cases h
     have := fitL_len k l0 h0
     simp [this]
theorem ftP_old (l : List Int) (u : Int) (f : Nat → Int) (n : Nat) {i : Nat} (h : i < l.length) : (ftP (l ++ [u]) f n).I i = (ftP l f n).I i ∧ (ftP (l ++ [u]) f n).O i = (ftP l f n).O i := by
 unfold ftP
 simp only [List.getElem?_append_left h]
 exact ⟨trivial, trivial⟩
theorem ftP_new (l : List Int) (u : Int) (f : Nat → Int) (n : Nat) : (ftP (l ++ [u]) f n).I l.length = u ∧ (ftP (l ++ [u]) f n).O l.length = u + f l.length := by
 unfold ftP
 simp
theorem RunM.congr {w wr : World} {gI gO gP n k : Nat} {I O I' O' : Nat → Int} (h : RunM w wr gI gO gP n k I O) (hI : ∀ i, i < k → I i = I' i) (hO : ∀ i, i < k → O i = O' i) : RunM w wr gI gO gP n k I' O' :=
 ⟨h.res, h.box, h.oI.congr (fun i _ => by unfold fzF; split; · rename_i hi; rw [hI i hi]
                                          ·rfl), h.oO.congr (fun i _ => by unfold fzF; split; · rename_i hi; rw [hO i hi]
                                                                           ·rfl), h.nIO, h.nIP, h.nOP, h.lI, h.lO, h.lP, h.bl⟩
def FtR (o : Option (List Int)) (f : Nat → Int) (n : Nat) (w : World) (e : Ending) (w' : World) : Prop :=
 Below w.heap.size w w' ∧ match o with
  | none => e = .returned (.tuple #[.agg #[.slice none 0 0, .slice none 0 0], .bool false])
  | some l => ∃ gI gO, e = .returned (.tuple #[.agg #[.slice (some ⟨gI, 0, none⟩) n n, .slice (some ⟨gO, 0, none⟩) n n], .bool true]) ∧ w.heap.size ≤ gI ∧ w.heap.size ≤ gO ∧ IC w' gI 0 n (ftP l f n).I ∧ IC w' gO 0 n (ftP l f n).O
theorem FtR.no {o : Option (List Int)} {f : Nat → Int} {n : Nat} {w w' : World} {e : Ending} (h : o = none) (he : e = .returned (.tuple #[.agg #[.slice none 0 0, .slice none 0 0], .bool false])) (hb : Below w.heap.size w w') : FtR o f n w e w' := by
 subst h
 exact ⟨hb, he⟩
theorem rdyT_bd {ps : List Pt} {f : Nat → Int} {t : Int} {n : Nat} (hf : ∀ k, k < n → 1 ≤ f k ∧ f k ≤ 100) (ht : 0 ≤ t ∧ t ≤ 1000000) : ∀ (k : Nat) (l : List Int), k ≤ n → fitL ps f t k = some l → 0 ≤ rdyT t f l ∧ rdyT t f l ≤ 1000000
  | 0, l, _, h => by cases h; exact ht
  | k + 1, l, hk, h => by
   unfold fitL at h
   split at h
   ·cases h
   ·rename_i l0 h0
    split at h
    ·cases h
    ·rename_i u hu
     cases h
     have h1 := rdyT_bd hf ht k l0 (by omega) h0
     have h2 := frO_bd hu
     have h3 := hf k (by omega)
     rw [rdyT_snoc, fitL_len k l0 h0]
     omega
set_option linter.unusedSimpArgs false in
set_option maxRecDepth 100000 in
set_option maxHeartbeats 4000000 in
theorem pathsFit_any (ao : Option Addr) (c0 n : Nat) (t : Int) (b off n' c : Nat) (f : Nat → Int) (ps : List Pt) (w : World) (hk : PsOk n ps) (hv : PsV w ao ps) (hn' : n' ≤ 1000000) (hc : IC w b off n' f) (ht : 0 ≤ t ∧ t ≤ 1000000) :
    Calls Tryz.prog 150 #[.int .i64 n, .slice ao ps.length c0, .int .i64 t, .slice (some ⟨b, off, none⟩) n' c] w (FtR (ftO ps n n' f t) f n w) := by
  have HC := Lib.hid hc
  have HK := Lib.hid hk
  have HV := Lib.hid hv
  have hn1 := hk.n1
  have hn5 := hk.n5
  have HBB : Hid (∀ o, Below w.heap.size w (w.alloc o)) := fun o => below_all _ _
  have HPV : Hid (∀ W, Below w.heap.size w W → Calls Tryz.prog 170 #[.int .i64 n, .slice ao ps.length c0] W fun e w' => e = .returned (.bool true) ∧ Below W.heap.size W w') := fun W h => pathsValid_ok ao c0 n ps W hk (hv.keep h)
  clear hc hk hv
  cases hr : rvB n n' f
  ·have HR := Lib.hid hr
   have HO : Hid (ftO ps n n' f t = none) := by show _ = _; unfold ftO; rw [hr]; rfl
   clear hr
   go_enter Tryz.func150, Tryz.ntmps150
   go_wp2_with fail
   refine (HPV.out _ (HBB.out _)).mono ?_
   rintro e w2 ⟨rfl, hb2⟩
   have HX2 : Hid (Bx w2 w.heap.size 41 #[.slice none 0 0, .slice none 0 0]) := (Bx.new w _ _).below hb2 (Bx.new w _ _).lt
   have HB2 := Lib.hid ((HBB.out (.cells #[.slice none 0 0, .slice none 0 0] 41)).trans (hb2.mono (by simp)))
   clear hb2
   go_wp2_with fail
   refine (runsValid_any b off n' c f n _ (by omega) (HC.out.keep HB2.out) (by omega)).mono ?_
   rintro e w' ⟨rfl, rfl⟩
   rw [HR.out]
   have hrc := HX2.out.cell
   have hrf := HX2.out.free
   have hrl := HX2.out.lt
   go_wp2_with fail
   refine bodyPost_ret (v := .tuple #[.agg #[.slice none 0 0, .slice none 0 0], .bool false]) (by simp [results, Tryz.results150, go_sem, hrc]) rfl (FtR.no HO.out rfl ?_)
   exact (HB2.out.setCell (Nat.le_refl _) _).setCell (Nat.le_refl _) _
  ·have HR := Lib.hid hr
   obtain ⟨_, hnn, hfb⟩ := rvB_parts hr
   obtain rfl : n' = n := by omega
   have HF := Lib.hid hfb
   have HO : Hid (ftO ps n' n' f t = fitL ps f t n') := by show _ = _; unfold ftO; rw [if_pos hr]
   clear hr hfb hnn
   have hmk := fun w => run_mk elInt n' n' (Nat.le_refl _) (by omega) (by omega) w
   obtain ⟨ht1, ht2⟩ := ht
   go_enter Tryz.func150, Tryz.ntmps150
   go_wp2_with fail
   refine (HPV.out _ (HBB.out _)).mono ?_
   rintro e w2 ⟨rfl, hb2⟩
   have HX2 : Hid (Bx w2 w.heap.size 41 #[.slice none 0 0, .slice none 0 0]) := (Bx.new w _ _).below hb2 (Bx.new w _ _).lt
   have HB2 := Lib.hid ((HBB.out (.cells #[.slice none 0 0, .slice none 0 0] 41)).trans (hb2.mono (by simp)))
   clear hb2
   go_wp2_with fail
   refine (runsValid_any b off n' c f n' _ (by omega) (HC.out.keep HB2.out) (by omega)).mono ?_
   rintro e w' ⟨rfl, rfl⟩
   rw [HR.out]
   go_wp2_with fail
   have hx2 := HX2.out.lt
   go_cut [10] (fun s10 wx => RunC w n' (ftP [] f n').I (ftP [] f n').O s10 wx)
   case first =>
    go_region_with (fail)
    all_goals
      go_wp2_with fail
      go_meet
      exact runC_mk (by repeat (with_reducible first | (refine Bx.newAt ?_; simp; done) | refine Bx.alloc ?_ _ | refine Bx.drew ?_))
        (by repeat (with_reducible first | exact HX2.out | refine Bx.alloc ?_ _ | refine Bx.drew ?_))
        (by repeat (with_reducible first | (refine own_fz ?_ (by unfold maxLen; omega); simp; done) | refine Own.alloc ?_ _ | refine Own.drew ?_))
        (by repeat (with_reducible first | (refine own_fz ?_ (by unfold maxLen; omega); simp; done) | refine Own.alloc ?_ _ | refine Own.drew ?_))
        (by repeat (with_reducible first | exact HB2.out | refine Below.alloc ?_ (by first | omega | (simp; omega)) _ | refine Below.drew ?_))
        (by omega)
   case rest =>
   obtain ⟨gI, gO, gP, rfl, HM⟩ := hcut
   have HL0 : Hid (fitL ps f t 0 = some []) := rfl
   go_wp2_with fail
   go_loopw [11, 35] (fun s i wr => ∃ (k : Nat) (l : List Int), k ≤ n' ∧ i = .int .i64 k ∧ s = .int .i64 (rdyT t f l) ∧ Hid (l.length = k) ∧ Hid (fitL ps f t k = some l) ∧ Hid (RunM w wr gI gO gP n' k (ftP l f n').I (ftP l f n').O)) (fun _ i _ => n' - (intOf i).toNat)
   case atStart => exact ⟨0, [], Nat.zero_le _, rfl, rfl, Lib.hid rfl, HL0, HM⟩
   case round =>
    obtain ⟨k, l, hkn, rfl, rfl, HLL, HL, HMk⟩ := hrel
    have hrb := rdyT_bd HF.out ⟨ht1, ht2⟩ k l hkn HL.out
    by_cases hlt : k < n'
    ·have hki : (k : Int) < (n' : Int) := by omega
     have hck := (HC.out.keep HMk.out.bl).at k hlt
     have hfk := HF.out k hlt
     have HPF := Lib.hid (pathsFree_any ao c0 n' k (rdyT t f l) (f k) ps wr HK.out hlt (HV.out.keep HMk.out.bl) hrb hfk)
     cases ho : frO ps k (rdyT t f l) (f k) with
     | none =>
      have HN := Lib.hid (HO.out.trans (fitL_stop HL.out ho n' hlt))
      rw [ho] at HPF
      clear ho
      go_wp2_with fail
      refine HPF.out.mono ?_
      rintro e w5 ⟨rfl, hb5⟩
      have HM5 := Lib.hid (HMk.out.below hb5 rfl)
      have hrc := HM5.out.res.cell
      have hrf := HM5.out.res.free
      have hrl := HM5.out.res.lt
      unfold frV
      clear hb5 hck
      go_wp2_with fail
      refine bodyPost_ret (v := .tuple #[.agg #[.slice none 0 0, .slice none 0 0], .bool false]) (by simp [results, Tryz.results150, go_sem, hrc]) rfl (FtR.no HN.out rfl ?_)
      exact (HM5.out.bl.setCell (Nat.le_refl _) _).setCell (Nat.le_refl _) _
     | some u =>
      have HN := Lib.hid (fitL_next HL.out ho)
      have hub := frO_bd ho
      have hwu : IntKind.i64.wrap (u + f k) = u + f k := IntWalk.i64_in _ (by omega)
      rw [ho] at HPF
      have HRS : Hid (rdyT t f (l ++ [u]) = u + f k) := by show _ = _; rw [rdyT_snoc, HLL.out]
      have HNI := ftP_new l u f n'
      rw [HLL.out] at HNI
      have HNW := Lib.hid HNI
      have HOLD : Hid (∀ i, i < k → (ftP l f n').I i = (ftP (l ++ [u]) f n').I i ∧ (ftP l f n').O i = (ftP (l ++ [u]) f n').O i) := fun i hi => by
       have := ftP_old l u f n' (i := i) (by rw [HLL.out]; exact hi)
       exact ⟨this.1.symm, this.2.symm⟩
      clear ho hub HNI
      go_wp2_with fail
      refine HPF.out.mono ?_
      rintro e w5 ⟨rfl, hb5⟩
      have HM5 := Lib.hid ((HMk.out.below hb5 rfl).congr (fun i hi => (HOLD.out i hi).1) (fun i hi => (HOLD.out i hi).2))
      have hpc := HM5.out.box.cell
      have hiI := HM5.out.oI.cell1 hlt
      have hiO := HM5.out.oO.cell1 hlt
      have hfI := HM5.out.oI.free k
      have hfO := HM5.out.oO.free k
      have n1 := HM5.out.nIO
      have n2 := HM5.out.nIP
      have n3 := HM5.out.nOP
      have n1' : gO ≠ gI := fun e => n1 e.symm
      have n2' : gP ≠ gI := fun e => n2 e.symm
      have n3' : gP ≠ gO := fun e => n3 e.symm
      unfold frV
      clear hb5 hck
      go_wp2_with fail
      go_roundw
      case rel => exact ⟨k + 1, l ++ [u], by omega, by go_num, by rw [HRS.out], by show _ = _; simp [HLL.out], HN, Lib.hid (HM5.out.step HNW.out.1.symm HNW.out.2.symm)⟩
      case measure => simp [intOf]; omega
    ·obtain rfl : k = n' := by omega
     have HN := Lib.hid (HO.out.trans HL.out)
     have hpc := HMk.out.box.cell
     have hrc := HMk.out.res.cell
     have hrf := HMk.out.res.free
     go_wp2_with fail
     refine bodyPost_ret (v := .tuple #[.agg #[.slice (some ⟨gI, 0, none⟩) k k, .slice (some ⟨gO, 0, none⟩) k k], .bool true]) (by simp [results, Tryz.results150, go_sem, hrc]) rfl ⟨(HMk.out.bl.setCell (Nat.le_refl _) _).setCell (Nat.le_refl _) _, ?_⟩
     rw [HN.out]
     have h1 := HMk.out.lI
     have h2 := HMk.out.lO
     exact ⟨gI, gO, rfl, by omega, by omega, IC.of_fz (t := 3) ((HMk.out.oI.setOther (by dsimp only; omega) _).setOther (by dsimp only; omega) _), IC.of_fz (t := 3) ((HMk.out.oO.setOther (by dsimp only; omega) _).setOther (by dsimp only; omega) _)⟩
attribute [local go_sem ↓] Go.wp_at_zero Go.wp_at_succ
section
variable {w0 wr wa w' : World} {R gI jI cI gO jO cO : Nat} {fI fO : Nat → Int} {vO : Value}
end
theorem ic_other {w : World} {b off n : Nat} {f : Nat → Int} (h : IC w b off n f) {a : Addr} (ha : b ≠ a.block) (v : Value) : IC (w.setCell a v) b off n f := fun k hk => by
 have h1 := h k hk
 rw [← h1]
 exact World.cell?_of_block (w := w) (Below.heap_setCell _ _ _ _ ha)
end Go.Proofs.YtlkdmpfifpkpaaaGreatDoor
namespace Go.Proofs.YtlkdmpfifpkpaaaGreatDoor
open Go.RowKit
attribute [local go_sem ↓] Go.wp_at_zero Go.wp_at_succ
theorem ic_pick {w w' : World} {b off n R : Nat} {f : Nat → Int} (h : IC w b off n f) (hg : w.grownBy w' (some R)) (hne : b ≠ R) : IC w' b off n f := fun k hk => by
 have h1 := h k hk
 have h2 : b < w.heap.size := World.block_lt_of_cell? w ⟨b, off + k, none⟩ h1
 rw [← h1]
 exact World.cell?_of_block (w := w) (hg.block b h2 (by simpa using hne))
end Go.Proofs.YtlkdmpfifpkpaaaGreatDoor

