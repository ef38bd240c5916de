/-
  Parts of the proof: Yj If Ig Jv. No condition.
-/
import Derived.Lib.IndexBytes
import Derived.Test.YtlkdmpfifpkpaaaGreatDoorV25
namespace Go.Proofs.YtlkdmpfifpkpaaaGreatDoor
open Go.RowKit
def ftF (t : ByteArray) (i : Nat) : Int := nmF (wdI t (i + 2))
def ftL (st : Ses) (ps : List Pt) (t : ByteArray) : Option (List Int) := adO ps st.x.n st.x.n (ftF t) (nmF (wdI t 1))
def ftS (st : Ses) (ps : List Pt) (t : ByteArray) : List Pt := match ftL st ps t with | some l => ps ++ [ftP l (ftF t) st.x.n] | none => ps
def ftT (st : Ses) (ps : List Pt) (t : ByteArray) : ByteArray := match ftL st ps t with | some l => spT (ftP l (ftF t) st.x.n).I st.x.n | none => noT
theorem fitL_bd {ps : List Pt} {f : Nat → Int} {t : Int} {n : Nat} (hf : ∀ k, k < n → 1 ≤ f k ∧ f k ≤ 100) (ht : 0 ≤ t ∧ t ≤ 1000000) : ∀ (k : Nat) (l : List Int), k ≤ n → fitL ps f t k = some l → ∀ i, i < k → 0 ≤ (ftP l f n).I i ∧ (ftP l f n).I i ≤ 2000
  | 0, l, _, _, i, hi => by omega
  | k + 1, l, hk, h, i, hi => by
   unfold fitL at h
   split at h
   ·cases h
   ·rename_i l0 h0
    split at h
    ·cases h
    ·rename_i u hu
     cases h
     have hl := fitL_len k l0 h0
     by_cases e : i = k
     ·subst e
      have h1 := rdyT_bd hf ht i l0 (by omega) h0
      have h2 := frO_bd hu
      have h3 := hf i (by omega)
      have h4 := ftP_new l0 u f n
      rw [hl] at h4
      rw [h4.1]
      omega
     ·rw [(ftP_old l0 u f n (by omega)).1]
      exact fitL_bd hf ht k l0 (by omega) h0 i (by omega)
theorem adO_bd {ps : List Pt} {n : Nat} {f : Nat → Int} {t : Int} {l : List Int} (ht : 0 ≤ t ∧ t ≤ 1000000) (h : adO ps n n f t = some l) : ∀ i, i < n → 0 ≤ (ftP l f n).I i ∧ (ftP l f n).I i ≤ 2000 := by
 unfold adO at h
 split at h
 ·cases h
 ·unfold ftO at h
  split at h
  ·rename_i hr
   exact fitL_bd (rvB_parts hr).2.2 ht n l (Nat.le_refl _) h
  ·cases h
theorem SsC.setP {z : Nat} {w : World} {s g1 c1 g2 c2 : Nat} {vm vt : Value} {st : Ses} (h : SsC z w s g1 c1 g2 c2 vm vt st) (a : Option Addr) (n c : Nat) :
    SsC z (w.setCell ⟨s, 2, none⟩ (.slice a n c)) s g1 c1 g2 c2 vm vt { st with pa := a, pn := n, pc := c } := by
  have f := Fr.set w ⟨s, 2, none⟩ (.slice a n c)
  have hbx := h.box.set 2 (.slice a n c)
  refine ⟨?_, h.bs.fr f (fun e => h.s1 e.symm), h.tr.fr f (fun e => h.s2 e.symm), h.mv.fr f (fun q e e' => (h.dm q e).1 e'), h.tv.fr f (fun q e e' => (h.dt q e).1 e'), h.n12, h.s1, h.s2, h.dm, h.dt, h.z1, h.z2, h.zs⟩
  simpa using hbx
structure RnI (w wr : World) (g cap j : Nat) (f : Nat → Int) : Prop where
  ow : Own wr g cap j 1 3 (fun i => .int .i64 (f i))
  gz : w.heap.size ≤ g
  bl : Below w.heap.size w wr
theorem RnI.push {w wr wa : World} {g cap g' c' j : Nat} {f : Nat → Int} (h : RnI w wr g cap j f) (HA : Own wa g' c' (j + 1) 1 3 (fun i => .int .i64 (f i))) (hgr : wr.grownBy wa (some g)) (hd : (g' = g ∧ c' = cap) ∨ wr.heap.size < g') : RnI w wa g' c' (j + 1) f := by
 have hgz := h.gz
 have hbs := h.bl.size
 refine ⟨HA, ?_, h.bl.trans (below_of_grown hgr hgz hbs)⟩
 rcases hd with q | q <;> omega
theorem fit_end {z s g1 c1 g2 c2 z4 g' c' : Nat} {vm vt : Value} {st : Ses} {pa : Option Addr} {pc : Nat} {ps : List Pt} {p : Pt} {own own1 O : Nat → Prop} {w w4 w6 : World} {e : Ending} {o : ByteArray} (hz : z ≤ w.heap.size)
    (hS : SsC z w s g1 c1 g2 c2 vm vt { st with pa := pa, pn := ps.length, pc := pc }) (hO1 : ∀ q, own1 q ↔ ownS s g1 g2 vm vt q) (hOO : ∀ q, own q ↔ own1 q ∨ O q) (hb4 : Below w.heap.size w w4) (hps : OwPs z4 w4 g' c' (ps.length + 1) (pA (ps ++ [p]))) (h4 : w.heap.size ≤ z4) (hg : w.heap.size ≤ g')
    (hnn : ∀ k, k < ps.length + 1 → 0 < (pA (ps ++ [p]) k).ni ∧ 0 < (pA (ps ++ [p]) k).no) (hb6 : Below (w4.setCell ⟨s, 2, none⟩ (.slice (some ⟨g', 0, none⟩) (ps.length + 1) c')).heap.size (w4.setCell ⟨s, 2, none⟩ (.slice (some ⟨g', 0, none⟩) (ps.length + 1) c')) w6) (he : e = .returned (.string o)) : MdP z st (ps ++ [p]) o s own w e w6 := by
  have hoz : ∀ q, own1 q → z ≤ q ∧ q < w.heap.size := fun q hq => hS.oz q ((hO1 q).1 hq)
  have hs := (hoz s ((hO1 s).2 (.inl rfl))).2
  have h1 := (((hS.fr (Fr.of_below hb4 (fun _ => False)) (fun _ _ h => h)).setP (some ⟨g', 0, none⟩) (ps.length + 1) c').fr (Fr.of_below hb6 (fun _ => False)) (fun _ _ h => h))
  have hz6 := hb6.size
  have hz5 : (w4.setCell ⟨s, 2, none⟩ (.slice (some ⟨g', 0, none⟩) (ps.length + 1) c')).heap.size = w4.heap.size := by simp
  have hlt : ∀ q, q < w4.heap.size → q < w6.heap.size := fun q hq => by omega
  refine ⟨he, fun q => own1 q ∨ (w.heap.size ≤ q ∧ q < w6.heap.size), ⟨some ⟨g', 0, none⟩, c', own1, fun q => w.heap.size ≤ q ∧ q < w6.heap.size, ⟨g1, c1, g2, c2, vm, vt, ?_, hO1⟩, ⟨fun q hq => ⟨Nat.le_trans hz hq.1, hq.2⟩, fun k hk => ?_⟩, fun _ => Iff.rfl, fun q hq hO => ?_⟩, ?_, fun q hq => ?_⟩
  ·have : (ps ++ [p]).length = ps.length + 1 := by simp
   rw [this]
   exact h1
  ·have hk2 : k < ps.length + 1 := by simpa using hk
   have hgl := hps.lt
   obtain ⟨F, hF1, hF2⟩ := hps
   obtain ⟨bi, ci, bo, co, e1, e2, e3, e4, e5, e6⟩ := hF2 k hk2
   obtain ⟨p1, p2⟩ := hnn k hk2
   have hbi : bi < w4.heap.size := World.block_lt_of_cell? w4 ⟨bi, 0 + 0, none⟩ (e5 0 p1)
   have hbo : bo < w4.heap.size := World.block_lt_of_cell? w4 ⟨bo, 0 + 0, none⟩ (e6 0 p2)
   have c0 := hF1.cell (i := k * 2) (by omega)
   have c1 := hF1.cell (i := k * 2 + 1) (by omega)
   have hA : PtA w4 g' (k * 2) (pA (ps ++ [p]) k) bi ci bo co := ⟨by rw [c0, e1], by rw [c1, e2], e5, e6⟩
   refine ⟨g', bi, ci, bo, co, rfl, PtA.keep (w := w4.setCell ⟨s, 2, none⟩ (.slice (some ⟨g', 0, none⟩) (ps.length + 1) c')) ⟨?_, ?_, ic_other e5 (by dsimp only; omega) _, ic_other e6 (by dsimp only; omega) _⟩ hb6, ⟨hg, hlt _ hgl⟩, ⟨by omega, hlt _ hbi⟩, ⟨by omega, hlt _ hbo⟩⟩
   ·rw [World.cell?_setCell_other _ _ _ _ (fun h => by have := congrArg Addr.block h; dsimp only at this; omega)]; exact hA.c0
   ·rw [World.cell?_setCell_other _ _ _ _ (fun h => by have := congrArg Addr.block h; dsimp only at this; omega)]; exact hA.c1
  ·have := (hoz q hq).2
   omega
  ·refine ((Fr.of_below hb4 own).trans ((Fr.set w4 ⟨s, 2, none⟩ (.slice (some ⟨g', 0, none⟩) (ps.length + 1) c')).mono (fun q _ e => ?_))).trans (Fr.of_below hb6 own)
   show own q
   rw [show q = s from e]
   exact (hOO s).2 (.inl ((hO1 s).2 (.inl rfl)))
  ·rcases hq with h | h
   ·exact .inl ((hOO q).2 (.inl h))
   ·exact .inr h.1
set_option linter.unusedSimpArgs false in
set_option maxRecDepth 100000 in
set_option maxHeartbeats 1000000 in
theorem doFit_any (z s bw : Nat) (t : ByteArray) (m : Int) (st : Ses) (ps : List Pt) (own : Nat → Prop) (w : World) (hz : z ≤ w.heap.size) (hz2 : 2 ≤ z) (hW : WF m w) (hS : StP z st ps own w s) (hk : PsOk st.x.n ps) (hn : (wdL t).length = st.x.n + 2) (hw : ∀ i, i < (wdL t).length → w.cell? ⟨bw, i, none⟩ = some (.string (wdI t i))) :
    Calls Tryz.prog 103 #[.pointer (some ⟨s, 0, none⟩), .slice (some ⟨bw, 0, none⟩) (wdL t).length (wdL t).length] w (MdP z st (ftS st ps t) (ftT st ps t) s own w) := by
  have HS := Lib.hid hS
  have HWF := Lib.hid hW
  have hn1 := hk.n1
  have hn5 := hk.n5
  have hlen := hk.len
  have HKO : Hid (∀ i, i < ps.length → ptOk (pA ps i) st.x.n = true) := hk.ok
  rw [hn] at hw ⊢
  have HW := Lib.hid hw
  have hbl : bw < w.heap.size := World.block_lt_of_cell? w ⟨bw, 0, none⟩ (hw 0 (by omega))
  have HWC : Hid (∀ W, Below w.heap.size w W → ∀ i, i < st.x.n + 2 → W.cell? ⟨bw, i, none⟩ = some (.string (wdI t i))) := fun W h i hi => by rw [h.cell (p := ⟨bw, i, none⟩) hbl]; exact HW.out i hi
  have HSO : Hid (∀ q, own q → z ≤ q ∧ q < w.heap.size) := hS.oz.2
  obtain ⟨pa, pc, own1, O, ⟨g1, c1, g2, c2, vm, vt, h1, h2⟩, hr, ho, hd⟩ := hS
  have HSC := Lib.hid h1
  have HO1 := Lib.hid h2
  have HPR := Lib.hid hr
  have HOO := Lib.hid ho
  have HOD := Lib.hid hd
  have hsc := h1.box.cell
  have hnm := nmF_bd (wdI t 1)
  have hmk := fun w => run_mk0 elInt st.x.n (by omega) (by omega) w
  have hne : (((st.x.n + 2 : Nat) : Int) != (st.x.n : Int) + 2) = false := by simp
  have hne2 : ((st.x.n : Int) + 2 != (st.x.n : Int) + 2) = false := by simp
  have hwn : IntKind.i64.wrap ((st.x.n : Int) + 2) = (st.x.n : Int) + 2 := IntWalk.i64_in _ (by omega)
  have HAD : Hid (∀ W g cap, Below w.heap.size w W → Own W g cap st.x.n 1 3 (fun i => .int .i64 (ftF t i)) → Calls Tryz.prog 129 #[.int .i64 st.x.n, .slice pa ps.length pc, .int .i64 (nmF (wdI t 1)), .slice (some ⟨g, 0, none⟩) st.x.n cap] W (AdR (ftL st ps t) ps (ftF t) st.x.n W)) := fun W g cap h ho => pathsAdd_any pa pc st.x.n (nmF (wdI t 1)) g 0 st.x.n cap (ftF t) ps W hk (hr.psv.keep h) (by omega) (IC.of_own ho) (by omega)
  have HNU : Hid (∀ l W, Calls Tryz.prog 120 #[.string l] W fun e w' => e = .returned (.int .i64 (nmF l)) ∧ W = w') := fun l W => numberOf_any l W
  clear h1 h2 hr ho hd hw hk hW hn
  go_enter Tryz.func103, Tryz.ntmps103
  go_wp2_with fail
  have HR0 : Hid (RnI w (w.alloc (.cells (madeCells #[.int .i64 0] st.x.n) 3)) w.heap.size st.x.n 0 (ftF t)) := ⟨own_made1 _ _ _ _ _ (by unfold maxLen; omega), Nat.le_refl _, below_all _ _⟩
  go_loopw [6, 8, 29] (fun o _ i wr => ∃ j g cap : Nat, j ≤ st.x.n ∧ i = .int .i64 j ∧ o = .slice (some ⟨g, 0, none⟩) j cap ∧ Hid (RnI w wr g cap j (ftF t))) (fun _ _ i _ => st.x.n - (intOf i).toNat)
  case atStart => exact ⟨0, w.heap.size, st.x.n, Nat.zero_le _, rfl, rfl, HR0⟩
  case round =>
   obtain ⟨j, g, cap, hj, rfl, rfl, HR⟩ := hrel
   by_cases hlt : j < st.x.n
   ·have hji : (j : Int) < (st.x.n : Int) := by omega
    have hc0 := HWC.out wr HR.out.bl (j + 2) (by omega)
    rw [Nat.add_comm j 2] at hc0
    have HFJ : Hid (nmF (wdI t (2 + j)) = ftF t j) := by show _ = _; unfold ftF; rw [Nat.add_comm]
    generalize wdI t (2 + j) = lj at *
    go_wp2_with fail
    refine (HNU.out lj _).mono ?_
    rintro e w' ⟨rfl, rfl⟩
    rw [HFJ.out]
    go_wp2_with (at_builtin; refine wpList_pushI elInt rfl (.tmp 33) (.tmp 36) (by rfl) HR.out.ow (by rfl) (by rfl) (by rfl) (by omega) ?_; intro g' c' wa HA hgr hd; have HR3 := Lib.hid (HR.out.push HA hgr hd); clear HA hgr hd)
    go_roundw
    case rel => exact ⟨j + 1, g', c', by omega, by go_num, by simp, HR3⟩
    case measure => simp [intOf]; omega
   ·obtain rfl : j = st.x.n := by omega
    have HBd : Hid (Below wr.heap.size wr wr.drew) := (Below.refl _ _).drew
    have HCC : Hid (∀ W, Below w.heap.size w W → W.cell? ⟨s, 2, none⟩ = some (.slice pa ps.length pc) ∧ W.cell? ⟨bw, 1, none⟩ = some (.string (wdI t 1))) := fun W h => ⟨(HSC.out.box.below h HSC.out.box.lt).cell 2, HWC.out W h 1 (by omega)⟩
    have HBr : Hid (Below w.heap.size w wr.drew) := HR.out.bl.drew
    have HOd : Hid (Own wr.drew g cap st.x.n 1 3 (fun i => .int .i64 (ftF t i))) := HR.out.ow.drew
    have HTS : Hid (ftS st ps t = match ftL st ps t with | some l => ps ++ [ftP l (ftF t) st.x.n] | none => ps) := rfl
    have HTT : Hid (ftT st ps t = match ftL st ps t with | some l => spT (ftP l (ftF t) st.x.n).I st.x.n | none => noT) := rfl
    have HLB : Hid (∀ l, ftL st ps t = some l → ∀ i, i < st.x.n → 0 ≤ (ftP l (ftF t) st.x.n).I i ∧ (ftP l (ftF t) st.x.n).I i ≤ 2000) := fun l h => adO_bd (by omega) h
    clear hsc
    have HN1 : Hid (∀ W, Calls Tryz.prog 120 #[.string (wdI t 1)] W fun e w' => e = .returned (.int .i64 (nmF (wdI t 1))) ∧ W = w') := fun W => HNU.out _ W
    have h12 : (1 : Int) < (st.x.n : Int) + 2 := by omega
    have h12' : 1 < st.x.n + 2 := by omega
    clear HNU
    generalize wdI t 1 = l1 at *
    generalize nmF l1 = nl at *
    go_wp2_with fail
    refine wp_region_held_drew (S := fun W => W.cell? ⟨s, 2, none⟩ = some (.slice pa ps.length pc) ∧ W.cell? ⟨bw, 1, none⟩ = some (.string l1)) (by kernel_rfl) (HCC.out _ HBr.out) (fun hHeld => ?_)
    refine tkR 0 ?_
    refine tkR 1 ?_
    refine tkR 2 ?_
    refine tkR 3 ?_
    refine tkR 4 ?_
    refine tkR 5 ?_
    refine tkR 6 ?_
    refine tkR 7 ?_
    refine tkR 9 ?_
    refine r1R 8 (fun K hK => ?_)
    go_simp
    go_at_call 120
    go_must (refine Calls.mono (HN1.out _) ?_)
    rintro e w' ⟨rfl, rfl⟩
    refine oR hK ?_ (fun hHeld => ?_)
    ·try dsimp only
     exact HCC.out _ HBr.out
    clear hK K
    cases hl : ftL st ps t with
    | none =>
     have HE1 : Hid (ftS st ps t = ps) := by show _ = _; rw [HTS.out, hl]
     have HE2 : Hid (ftT st ps t = noT) := by show _ = _; rw [HTT.out, hl]
     rw [hl] at HAD
     clear hl
     refine r1R 10 (fun K hK => ?_)
     go_simp
     go_at_call 129
     go_must (refine Calls.mono (HAD.out _ g cap HBr.out HOd.out) ?_)
     rintro e w4 ⟨hb4, va4, vn4, vc4, rfl⟩
     have HB4 := Lib.hid (HBr.out.trans (hb4.mono HBr.out.size))
     clear hb4
     refine oR hK ?_ (fun hHeld => ?_)
     ·try dsimp only
      exact HCC.out _ HB4.out
     clear hK K
     refine tkR 11 ?_
     refine tkR 12 ?_
     refine tkR 13 ?_
     refine tkR 14 ?_
     refine tkR 15 ?_
     refine wpAnyH_done (by kernel_rfl) ?_ _
     clear hHeld
     go_wp2_with fail
     go_ret
     rw [HE1.out, HE2.out]
     exact MdP.same HS.out rfl HB4.out
    | some l =>
     have HE1 : Hid (ftS st ps t = ps ++ [ftP l (ftF t) st.x.n]) := by show _ = _; rw [HTS.out, hl]
     have HE2 : Hid (ftT st ps t = spT (ftP l (ftF t) st.x.n).I st.x.n) := by show _ = _; rw [HTT.out, hl]
     have HLI := Lib.hid (HLB.out l hl)
     rw [hl] at HAD
     clear hl
     refine r1R 10 (fun K hK => ?_)
     go_simp
     go_at_call 129
     go_must (refine Calls.mono (HAD.out _ g cap HBr.out HOd.out) ?_)
     rintro e w4 ⟨hb4, g', c', rfl, hg', hps⟩
     have HB4 := Lib.hid (HBr.out.trans (hb4.mono HBr.out.size))
     have HPS := Lib.hid hps
     have hs4 := HBr.out.size
     clear hb4 hps
     refine oR hK ?_ (fun hHeld => ?_)
     ·try dsimp only
      exact HCC.out _ HB4.out
     clear hK K
     refine tkR 11 ?_
     refine tkR 12 ?_
     refine tkR 13 ?_
     refine tkR 14 ?_
     refine tkR 15 ?_
     refine wpAnyH_done (by kernel_rfl) ?_ _
     clear hHeld
     have HS4 := Lib.hid (HSC.out.fr (Fr.of_below HB4.out (fun _ => False)) (fun _ _ h => h))
     have hxc := HS4.out.box.cell
     have hxf := HS4.out.box.free
     have hxl := HS4.out.box.lt
     have hsw := (HSO.out s ((HOO.out s).2 (.inl ((HO1.out s).2 (.inl rfl))))).2
     have hgs : s ≠ g' := by omega
     have hat : ∃ bi ci bo co, PtA w4 g' (ps.length * 2) (ftP l (ftF t) st.x.n) bi ci bo co ∧ w.heap.size ≤ bi := by
      obtain ⟨F, hF1, hF2⟩ := HPS.out
      obtain ⟨bi, ci, bo, co, e1, e2, e3, e4, e5, e6⟩ := hF2 ps.length (by omega)
      have c0 := hF1.cell (i := ps.length * 2) (by omega)
      have c1 := hF1.cell (i := ps.length * 2 + 1) (by omega)
      rw [pA_new] at e1 e2 e5 e6
      exact ⟨bi, ci, bo, co, ⟨by rw [c0, e1], by rw [c1, e2], e5, e6⟩, by omega⟩
     obtain ⟨bi, ci, bo, co, hpt, hbw⟩ := hat
     have hc0 : w4.cell? ⟨g', ps.length * 2, none⟩ = some (.slice (some ⟨bi, 0, none⟩) st.x.n ci) := hpt.c0
     have hc1 : (w4.setCell ⟨s, 2, none⟩ (.slice (some ⟨g', 0, none⟩) (ps.length + 1) c')).cell? ⟨g', ps.length * 2, none⟩ = some (.slice (some ⟨bi, 0, none⟩) st.x.n ci) := by rw [World.cell?_setCell_other _ _ _ _ (fun h => hgs (congrArg Addr.block h))]; exact hc0
     have HI5 : Hid (IC (w4.setCell ⟨s, 2, none⟩ (.slice (some ⟨g', 0, none⟩) (ps.length + 1) c')) bi 0 st.x.n (ftP l (ftF t) st.x.n).I) := ic_other hpt.I (by dsimp only; omega) _
     have HW5 : Hid (WF m (w4.setCell ⟨s, 2, none⟩ (.slice (some ⟨g', 0, none⟩) (ps.length + 1) c'))) := (HWF.out.below HB4.out).fr (Fr.set w4 ⟨s, 2, none⟩ (.slice (some ⟨g', 0, none⟩) (ps.length + 1) c')) (fun q hq => by
      have := (HSO.out s ((HOO.out s).2 (.inl ((HO1.out s).2 (.inl rfl))))).1
      have hqs : q = s := hq
      omega)
     clear hpt
     go_wp2_with fail
     refine (spaced_any bi 0 st.x.n ci (ftP l (ftF t) st.x.n).I m _ HW5.out (by omega) (fun k hk => by have := HLI.out k hk; omega) HI5.out).mono ?_
     rintro e w6 ⟨rfl, hb6⟩
     have HB6 := Lib.hid hb6
     clear hb6 hc0 hc1 hxc hxf hxl
     go_wp2_with fail
     go_ret
     rw [HE1.out, HE2.out]
     exact fit_end hz HSC.out HO1.out HOO.out HB4.out HPS.out hs4 (by omega) (fun k hk => by
      by_cases e : k = ps.length
      ·subst e
       rw [pA_new]
       exact ⟨hn1, hn1⟩
      ·rw [← pA_old (by omega)]
       obtain ⟨_, d1, d2, _⟩ := ptOk_parts (HKO.out k (by omega))
       omega) HB6.out rfl
theorem mvI_mem {x : Ln} {k i : Nat} {y : Int × ByteArray} (h : y ∈ mvI x k i) : ∃ c : UInt8, y = ((k : Int), chr c) := by
 unfold mvI at h
 obtain ⟨c, _, rfl⟩ := List.mem_map.1 h
 exact ⟨c, rfl⟩
theorem mvU_mem {x : Ln} {y : Int × ByteArray} {n : Nat} (h : y ∈ mvU x n) : ∃ (k : Nat) (c : UInt8), k < n ∧ y = ((k : Int), chr c) := by
 unfold mvU at h
 obtain ⟨k, hk, hy⟩ := List.mem_flatMap.1 h
 obtain ⟨c, rfl⟩ := mvI_mem hy
 exact ⟨k, c, List.mem_range.1 hk, rfl⟩
theorem lmL_mem {x : Ln} {y : Int × ByteArray} (h : y ∈ lmL x) : ∃ (k : Nat) (c : UInt8), k < 5 ∧ y = ((k : Int), chr c) := by
 unfold lmL at h
 cases hv : vldL x with
 | false => rw [hv] at h; cases h
 | true =>
  rw [hv, if_pos rfl] at h
  obtain ⟨k, c, hk, e⟩ := mvU_mem h
  exact ⟨k, c, by have := (vldL_true hv).2.1; omega, e⟩
theorem mvM_at {ys : List (Int × ByteArray)} {i : Nat} (h : i < ys.length) : mvM ys i = ys[i].1 ∧ mvS ys i = ys[i].2 := by
 unfold mvM mvS
 rw [List.getElem?_eq_getElem h]
 exact ⟨rfl, rfl⟩
theorem lmL_at {x : Ln} {i : Nat} (h : i < (lmL x).length) : (0 ≤ mvM (lmL x) i ∧ mvM (lmL x) i ≤ 5) ∧ (mvS (lmL x) i).size = 1 := by
 obtain ⟨e1, e2⟩ := mvM_at h
 obtain ⟨k, c, hk, e⟩ := lmL_mem (List.getElem_mem h)
 rw [e1, e2, e]
 exact ⟨⟨by show (0 : Int) ≤ (k : Int); omega, by show (k : Int) ≤ 5; omega⟩, rfl⟩
def nxW (ys : List (Int × ByteArray)) (i : Nat) : ByteArray := itT (mvM ys i) ++ mvS ys i
def nxO (st : Ses) : ByteArray := jnT (nxW (lmL st.x)) (lmL st.x).length
set_option linter.unusedSimpArgs false in
set_option maxRecDepth 100000 in
set_option maxHeartbeats 4000000 in
theorem doNext_any (z s bw n c : Nat) (m : Int) (st : Ses) (own : Nat → Prop) (w : World) (hW : WF m w) (hS : StS z st own w s) (hxn : st.x.n ≤ 1000 ∧ st.x.m ≤ 1000) :
    Calls Tryz.prog 101 #[.pointer (some ⟨s, 0, none⟩), .slice (some ⟨bw, 0, none⟩) n c] w (Md z st (nxO st) s own w) := by
  have HS := Lib.hid hS
  have HWF := Lib.hid hW
  obtain ⟨g1, c1, g2, c2, vm, vt, h1, _⟩ := hS
  have HLM := Lib.hid (lineMoves_any g1 0 c1 g2 0 c2 st.x w (by omega) (by omega) (BkC.of_own h1.bs) (IC.of_own h1.tr))
  have hsc := h1.box.cell
  have HNO : Hid (nxO st = jnT (nxW (lmL st.x)) (lmL st.x).length) := rfl
  have HLT : Hid (∀ i, i < (lmL st.x).length → (0 ≤ mvM (lmL st.x) i ∧ mvM (lmL st.x) i ≤ 5) ∧ (mvS (lmL st.x) i).size = 1) := fun i h => lmL_at h
  have hlen := lmL_len st.x
  clear h1 hW hxn
  generalize lmL st.x = ys at *
  go_enter Tryz.func101, Tryz.ntmps101
  go_wp2_with fail
  refine HLM.out.mono ?_
  rintro e w2 ⟨⟨v, gv, rfl, hrow⟩, hb2⟩
  have HB2 := Lib.hid hb2
  have hv : ∃ ao cy, v = .slice ao ys.length cy ∧ (0 < ys.length → ∃ b, ao = some ⟨b, 0, none⟩ ∧ Hid (∀ W, Below w2.heap.size w2 W → MvsC W b 0 ys.length (mvM ys) (mvS ys))) := by
   rcases hrow with ⟨b, cy, _, rfl, _, ho⟩ | ⟨_, e, rfl⟩
   ·exact ⟨_, _, rfl, fun _ => ⟨b, rfl, Lib.hid fun W h => (MvsC.of_own ho).keep h⟩⟩
   ·exact ⟨none, 0, by rw [e]; rfl, fun h => by rw [e] at h; exact absurd h (by decide)⟩
  obtain ⟨ao, cy, rfl, hvc⟩ := hv
  clear hrow hb2 hsc HLM
  have hmk := fun w => run_mk0 elStr ys.length (by omega) (by omega) w
  have HVC := Lib.hid hvc
  clear hvc
  go_wp2_with fail
  have HI0 : Hid (TdI w2 (w2.alloc (.cells (madeCells #[.string ⟨#[]⟩] (ys.length * 1)) 9)) w2.heap.size ys.length 0 (nxW ys)) := ⟨own_made _ _ _ _ _ _ (by unfold maxLen; omega), Nat.le_refl _, below_all _ _⟩
  have HWF2 := Lib.hid (HWF.out.below HB2.out)
  have HBS : Hid (∀ i, i < ys.length → (nxW ys i).size ≤ 1000) := fun i hi => by
   have h := HLT.out i hi
   have := itT_size (mvM ys i) (by omega) (by omega)
   unfold nxW
   rw [ByteArray.size_append]
   omega
  go_loopw [6, 8, 19] (fun o _ i wr => ∃ j g cap : Nat, j ≤ ys.length ∧ i = .int .i64 j ∧ o = .slice (some ⟨g, 0, none⟩) j cap ∧ Hid (TdI w2 wr g cap j (nxW ys))) (fun _ _ i _ => ys.length - (intOf i).toNat)
  case atStart => exact ⟨0, w2.heap.size, ys.length, Nat.zero_le _, rfl, rfl, by simpa using HI0⟩
  case round =>
   obtain ⟨j, g, cap, hj, rfl, rfl, HI⟩ := hrel
   by_cases hlt : j < ys.length
   ·have hji : (j : Int) < (ys.length : Int) := by omega
    obtain ⟨b, rfl, HN⟩ := HVC.out (by omega)
    obtain ⟨c0, c1⟩ := HN.out _ HI.out.bl j hlt
    rw [Nat.zero_add] at c0 c1
    have HTX : Hid (nxW ys j = itT (mvM ys j) ++ mvS ys j) := rfl
    have HMB := Lib.hid (HLT.out j hlt)
    generalize mvM ys j = m1 at *
    generalize mvS ys j = l1 at *
    have HX : Hid (Bx (wr.alloc (.cells #[.int .i64 m1, .string l1] 94)) wr.heap.size 94 #[.int .i64 m1, .string l1]) := Bx.new _ _ _
    have HI1 : Hid (TdI w2 (wr.alloc (.cells #[.int .i64 m1, .string l1] 94)) g cap j (nxW ys)) := HI.out.keep (below_all _ _)
    go_wp2_with fail
    clear c0 c1
    have hgl : g < wr.heap.size := Own.lt HI.out.ow
    have hsz : ¬ 9223372036854775807 < (itT m1).size + l1.size := by rw [← ByteArray.size_append]; have := HBS.out j hlt; rw [HTX.out] at this; omega
    generalize wr.alloc (.cells #[.int .i64 m1, .string l1] 94) = W1 at *
    have HBd1 : Hid (Below W1.heap.size W1 W1.drew) := (Below.refl _ _).drew
    have HC1 : Hid (∀ W, Below W1.heap.size W1 W → W.cell? ⟨wr.heap.size, 0, none⟩ = some (.int .i64 m1) ∧ W.cell? ⟨wr.heap.size, 1, none⟩ = some (.string l1)) := fun W h => ⟨(HX.out.below h HX.out.lt).cell 0, (HX.out.below h HX.out.lt).cell 1⟩
    refine wp_region_held_drew (S := fun W => W.cell? ⟨wr.heap.size, 0, none⟩ = some (.int .i64 m1) ∧ W.cell? ⟨wr.heap.size, 1, none⟩ = some (.string l1)) (by kernel_rfl) (HC1.out _ HBd1.out) (fun hHeld => ?_)
    refine tkR 0 ?_
    refine tkR 1 ?_
    refine tkR 2 ?_
    refine tkR 4 ?_
    refine tkR 5 ?_
    refine r1R 3 (fun K hK => ?_)
    go_simp
    go_at_call 38
    go_must (refine Calls.mono (itoa_any m1 (by have := HMB.out; omega) (by have := HMB.out; omega) _ (HWF2.out.below ((HI1.out.bl.trans (HBd1.out.mono HI1.out.bl.size)))) ) ?_)
    rintro e wi ⟨rfl, hbi⟩
    have HBi : Hid (Below W1.heap.size W1 wi) := HBd1.out.trans (hbi.mono HBd1.out.size)
    clear hbi
    refine oR hK ?_ (fun hHeld => ?_)
    ·try dsimp only
     exact HC1.out _ HBi.out
    clear hK K
    refine tkR 6 ?_
    refine r1R 7 (fun K hK => ?_)
    go_simp
    skip
    refine oR hK ?_ (fun hHeld => ?_)
    ·try dsimp only
     exact HC1.out _ (HBi.out.alloc HBi.out.size _)
    clear hK K
    have HIi := Lib.hid (HI1.out.keep HBi.out)
    refine r1R 8 (fun K hK => ?_)
    refine step_pushR (w := wi) elStr rfl (.tmp 23) (.tmp 30) rfl HIi.out.ow rfl [.string (itT m1 ++ l1)] rfl (fun q hq => by
     obtain rfl : q = 0 := by omega
     simp [HTX.out]) (fun _ _ => rfl) (by unfold maxLen; omega) (by omega) ?_
    intro g' c' wa HA hgr hd
    have HI2 := HIi.out.push HA hgr (hd.imp And.left Nat.le_of_lt)
    have HSW : Hid (wa.cell? ⟨wr.heap.size, 0, none⟩ = some (.int .i64 m1) ∧ wa.cell? ⟨wr.heap.size, 1, none⟩ = some (.string l1)) := ⟨((HX.out.below HBi.out HX.out.lt).kept hgr (by simp; omega)).cell 0, ((HX.out.below HBi.out HX.out.lt).kept hgr (by simp; omega)).cell 1⟩
    clear HA hgr hd
    refine hK.out _ _ HSW.out (fun hHeld => ?_)
    clear hK K
    try simp only [Act.put, List.setIfInBounds_toArray, List.set_cons_zero, List.set_cons_succ]
    refine tkR 9 ?_
    refine wpAnyH_done (by kernel_rfl) ?_ _
    go_wp2_with fail
    go_roundw
    case rel => exact ⟨j + 1, g', c', by omega, by go_num, by simp, HI2⟩
    case measure => simp [intOf]; omega
   ·obtain rfl : j = ys.length := by omega
    have HJ := Lib.hid (join_any g cap ys.length (nxW ys) wr (by omega) HBS.out HI.out.ow)
    go_wp2_with fail
    refine HJ.out.mono ?_
    rintro e w3 ⟨rfl, hb3⟩
    have HB3 := Lib.hid (HB2.out.trans ((HI.out.bl.trans (hb3.mono HI.out.bl.size)).mono HB2.out.size))
    clear hb3
    go_wp2_with fail
    go_ret
    exact ⟨by rw [HNO.out]; rfl, own, HS.out.keep (Fr.of_below HB3.out _), Fr.of_below HB3.out own, fun _ hq => .inl hq⟩
def rcAll (st : Ses) (ys : List (Int × ByteArray)) : Ses := { st with ms := st.ms ++ ys, ts := st.ts ++ List.replicate ys.length st.tm }
theorem rcAll_nil (st : Ses) : rcAll st [] = st := by simp [rcAll]
theorem rcAll_snoc (st : Ses) (ys : List (Int × ByteArray)) (y : Int × ByteArray) : rcAll st (ys ++ [y]) = rcS (rcAll st ys) y.1 y.2 := by
 simp [rcAll, rcS, List.replicate_succ']
def fiS (st : Ses) : Option Ses := if st.ms.length + (fnL st.x).length ≤ 100 then (match rnO st.x (mvM (fnL st.x)) (mvS (fnL st.x)) (fnL st.x).length with | some y => some (rcAll { st with x := y } (fnL st.x)) | none => none) else none
def fiSS (st : Ses) : Ses := (fiS st).getD st
def fiO (st : Ses) : ByteArray := match fiS st with | some _ => ⟨#[109, 111, 118, 101, 115, 32]⟩ ++ itT (fnL st.x).length | none => noT
theorem fiS_many {st : Ses} (h : ¬ st.ms.length + (fnL st.x).length ≤ 100) : fiS st = none := if_neg h
theorem fiS_none {st : Ses} (h : rnO st.x (mvM (fnL st.x)) (mvS (fnL st.x)) (fnL st.x).length = none) : fiS st = none := by
 unfold fiS
 rw [h]
 split <;> rfl
theorem fiS_some {st : Ses} {y : Ln} (h : st.ms.length + (fnL st.x).length ≤ 100) (h2 : rnO st.x (mvM (fnL st.x)) (mvS (fnL st.x)) (fnL st.x).length = some y) : fiS st = some (rcAll { st with x := y } (fnL st.x)) := by
 unfold fiS
 rw [if_pos h, h2]
structure FiI (z s b : Nat) (w wr : World) (own own' : Nat → Prop) (st : Ses) : Prop where
  ss : StS z st own' wr s
  fr : Fr own w wr
  sub : ∀ q, own' q → own q ∨ w.heap.size ≤ q
  nb : ¬ own' b
  bl : b < wr.heap.size
  wb : w.heap.size ≤ b
theorem FiI.below {z s b : Nat} {w wr wa : World} {own own' : Nat → Prop} {st : Ses} (h : FiI z s b w wr own own' st) (hb : Below wr.heap.size wr wa) : FiI z s b w wa own own' st :=
 ⟨h.ss.keep (Fr.of_below hb _), h.fr.trans (Fr.of_below hb _), h.sub, h.nb, Nat.lt_of_lt_of_le h.bl hb.size, h.wb⟩
theorem FiI.step {z s b : Nat} {w wr wa : World} {own own1 own2 : Nat → Prop} {st st2 : Ses} (h : FiI z s b w wr own own1 st) (h2 : StS z st2 own2 wa s) (hf : Fr own1 wr wa) (hq : ∀ q, own2 q → own1 q ∨ wr.heap.size ≤ q) : FiI z s b w wa own own2 st2 := by
 refine ⟨h2, h.fr.trans2 hf h.sub, fun q hq2 => ?_, fun hb => ?_, Nat.lt_of_lt_of_le h.bl hf.size, h.wb⟩
 ·rcases hq q hq2 with e | e
  ·exact h.sub q e
  ·exact .inr (Nat.le_trans h.fr.size e)
 ·rcases hq b hb with e | e
  ·exact h.nb e
  ·have := h.bl
   omega
set_option linter.unusedSimpArgs false in
set_option maxRecDepth 100000 in
set_option maxHeartbeats 4000000 in
theorem doFinish_any (z s bw n c : Nat) (m : Int) (st : Ses) (own : Nat → Prop) (w : World) (hz : z ≤ w.heap.size) (hz2 : 2 ≤ z) (hW : WF m w) (hS : StS z st own w s) (hk : SesOk st) :
    Calls Tryz.prog 99 #[.pointer (some ⟨s, 0, none⟩), .slice (some ⟨bw, 0, none⟩) n c] w (Md z (fiSS st) (fiO st) s own w) := by
  have HS := Lib.hid hS
  have HWF := Lib.hid hW
  have HSO : Hid (∀ q, own q → z ≤ q ∧ q < w.heap.size) := hS.oz.2
  have hxn := hk.xn
  have hml := hk.ml
  have HTL := Lib.hid hk.tl
  obtain ⟨g1, c1, g2, c2, vm, vt, h1, h2⟩ := hS
  obtain ⟨am, cm, hvm⟩ := h1.mv.shape
  subst hvm
  have HS1 := Lib.hid h1
  have HO := Lib.hid h2
  have HLF := Lib.hid (lineFinish_any g1 0 c1 g2 0 c2 st.x w (by omega) (by omega) (BkC.of_own h1.bs) (IC.of_own h1.tr))
  rw [hk.xv] at HLF
  have hsc := h1.box.cell
  have HFN : Hid (¬ st.ms.length + (fnL st.x).length ≤ 100 → fiO st = noT ∧ fiSS st = st) := fun h => by unfold fiO fiSS; rw [fiS_many h]; exact ⟨rfl, rfl⟩
  have HFX : Hid (rnO st.x (mvM (fnL st.x)) (mvS (fnL st.x)) (fnL st.x).length = none → fiO st = noT ∧ fiSS st = st) := fun h => by unfold fiO fiSS; rw [fiS_none h]; exact ⟨rfl, rfl⟩
  have HFY : Hid (∀ y, st.ms.length + (fnL st.x).length ≤ 100 → rnO st.x (mvM (fnL st.x)) (mvS (fnL st.x)) (fnL st.x).length = some y → fiO st = ⟨#[109, 111, 118, 101, 115, 32]⟩ ++ itT (fnL st.x).length ∧ fiSS st = rcAll { st with x := y } (fnL st.x)) := fun y h h2 => by unfold fiO fiSS; rw [fiS_some h h2]; exact ⟨rfl, rfl⟩
  have hys : (fnL st.x).length ≤ 135 := by
   unfold fnL
   split
   ·have h3 := finL_len (lefS st.x st.x.n).toNat st.x
    have h4 := lefS_135 hk.xv
    exact Nat.le_trans h3 h4
   ·exact Nat.zero_le _
  clear h1 h2 hk hW
  generalize fnL st.x = ys at *
  go_enter Tryz.func99, Tryz.ntmps99
  go_wp2_with fail
  refine HLF.out.mono ?_
  rintro e w2 ⟨⟨v, gv, rfl, hrow⟩, hb2⟩
  have HB2 := Lib.hid hb2
  rcases hrow with ⟨b, cy, _, rfl, hwb, ho⟩ | ⟨hno, _⟩
  case inr => cases hno
  have HOW := Lib.hid ho
  have HS2 := Lib.hid (HS1.out.fr (Fr.of_below hb2 (fun _ => False)) (fun _ _ h => h))
  have hsc2 := HS2.out.box.cell
  clear ho hb2 hsc HLF
  by_cases hle : st.ms.length + ys.length ≤ 100
  ·have hgt : ¬ (100 : Int) < (st.ms.length : Int) + (ys.length : Int) := by omega
   have hwr : IntKind.i64.wrap ((st.ms.length : Int) + (ys.length : Int)) = (st.ms.length : Int) + (ys.length : Int) := IntWalk.i64_in _ (by omega)
   have HLE := Lib.hid hle
   go_wp2_with fail
   refine (lineRun_any g1 0 c1 g2 0 c2 b 0 ys.length cy st.x (mvM ys) (mvS ys) w2 (by omega) (by omega) (by omega) (BkC.of_own HS2.out.bs) (IC.of_own HS2.out.tr) (MvsC.of_own HOW.out)).mono ?_
   rintro e w3 ⟨hb3, h3⟩
   have HB3 := Lib.hid hb3
   have HB23 := Lib.hid (HB2.out.trans (hb3.mono HB2.out.size))
   rcases h3 with ⟨hno, rfl⟩ | ⟨y, v, hy, rfl, hl3⟩
   ·have HE := Lib.hid (HFX.out hno)
    clear hno hb3 hsc2
    unfold nilLn
    go_wp2_with fail
    go_ret
    have HB4 := Lib.hid (HB23.out.alloc HB23.out.size (.cells #[.slice none 0 0, .slice none 0 0] 31))
    exact ⟨by rw [HE.out.1]; rfl, own, by rw [HE.out.2]; exact HS.out.keep (Fr.of_below HB4.out _), Fr.of_below HB4.out own, fun _ hq => .inl hq⟩
   ·have HE := Lib.hid (HFY.out y HLE.out hy)
    have HS3 := Lib.hid (HS2.out.fr (Fr.of_below hb3 (fun _ => False)) (fun _ _ h => h))
    have HL3 := Lib.hid hl3
    have HOW3 := Lib.hid (HOW.out.below hb3 HOW.out.lt)
    have hsc3 := HS3.out.box.cell
    have hsf3 := HS3.out.box.free
    have hsb3 := HS3.out.box.lt
    obtain ⟨p1, d1, p2, d2, rfl, _⟩ := hl3
    clear hy hb3 hsc2 HFX HFY HFN
    go_wp2_with fail
    have hSOw : ∀ q, ownS s g1 g2 (.slice am st.ms.length cm) vt q → z ≤ q ∧ q < w.heap.size := fun q hq => HSO.out q ((HO.out q).2 hq)
    have HN := Lib.hid (HS3.out.setLn HL3.out (fun q hq => by have := (hSOw q hq).2; have := HB2.out.size; omega) (Nat.le_trans hz HB2.out.size))
    have hb2w : b < w2.heap.size := HOW.out.lt
    have hs2 := HB2.out.size
    have hs3 := HB3.out.size
    have HSS := hSOw s (.inl rfl)
    have HFR : Hid (Fr own w ((w3.setCell ⟨s, 0, none⟩ (.slice (some ⟨p1, 0, none⟩) y.n d1)).setCell ⟨s, 1, none⟩ (.slice (some ⟨p2, 0, none⟩) y.m d2))) := (Fr.of_below HB23.out own).trans (((Fr.set w3 ⟨s, 0, none⟩ (.slice (some ⟨p1, 0, none⟩) y.n d1)).trans (Fr.set _ ⟨s, 1, none⟩ (.slice (some ⟨p2, 0, none⟩) y.m d2))).mono (fun q _ e => by
     show own q
     rw [show q = s from e]
     exact (HO.out s).2 (.inl rfl)))
    have HI0 : Hid (FiI z s b w ((w3.setCell ⟨s, 0, none⟩ (.slice (some ⟨p1, 0, none⟩) y.n d1)).setCell ⟨s, 1, none⟩ (.slice (some ⟨p2, 0, none⟩) y.m d2)) own (ownS s p1 p2 (.slice am st.ms.length cm) vt) (rcAll { st with x := y } [])) := by
     show FiI _ _ _ _ _ _ _ _
     rw [rcAll_nil]
     refine ⟨⟨p1, d1, p2, d2, _, _, HN.out.1, fun _ => Iff.rfl⟩, HFR.out, fun q hq => ?_, fun hq => ?_, by have := HFR.out.size; simp; omega, hwb⟩
     ·rcases hq with e | e | e | e | e
      ·exact .inl ((HO.out q).2 (.inl e))
      ·right; have := HN.out.2.1; omega
      ·right; have := HN.out.2.2; omega
      ·exact .inl ((HO.out q).2 (.inr (.inr (.inr (.inl e)))))
      ·exact .inl ((HO.out q).2 (.inr (.inr (.inr (.inr e)))))
     ·rcases hq with e | e | e | e | e
      ·omega
      ·have := HN.out.2.1; omega
      ·have := HN.out.2.2; omega
      ·have := (hSOw b (.inr (.inr (.inr (.inl e))))).2; omega
      ·have := (hSOw b (.inr (.inr (.inr (.inr e))))).2; omega
    have HOW0 : Hid (Own ((w3.setCell ⟨s, 0, none⟩ (.slice (some ⟨p1, 0, none⟩) y.n d1)).setCell ⟨s, 1, none⟩ (.slice (some ⟨p2, 0, none⟩) y.m d2)) b cy ys.length 2 94 (mvF (mvM ys) (mvS ys))) := (HOW3.out.setOther (by dsimp only; omega) _).setOther (by dsimp only; omega) _
    clear hsc3 hsf3 hsb3 HN HFR
    generalize (w3.setCell ⟨s, 0, none⟩ (.slice (some ⟨p1, 0, none⟩) y.n d1)).setCell ⟨s, 1, none⟩ (.slice (some ⟨p2, 0, none⟩) y.m d2) = w4 at *
    have HI1 := Lib.hid (HI0.out.below (below_all w4 (.cells #[.slice (some ⟨p1, 0, none⟩) y.n d1, .slice (some ⟨p2, 0, none⟩) y.m d2] 31)))
    have HOW1 := Lib.hid (HOW0.out.below (below_all w4 (.cells #[.slice (some ⟨p1, 0, none⟩) y.n d1, .slice (some ⟨p2, 0, none⟩) y.m d2] 31)) HOW0.out.lt)
    go_loopw [9, 48] (fun _ i wr => ∃ (j : Nat) (own' : Nat → Prop), j ≤ ys.length ∧ i = .int .i64 j ∧ Hid (FiI z s b w wr own own' (rcAll { st with x := y } (ys.take j))) ∧ Hid (Own wr b cy ys.length 2 94 (mvF (mvM ys) (mvS ys)))) (fun _ i _ => ys.length - (intOf i).toNat)
    case atStart => exact ⟨0, _, Nat.zero_le _, rfl, by rw [List.take_zero]; exact HI1, HOW1⟩
    case round =>
     obtain ⟨j, own', hj, rfl, HI, HOR⟩ := hrel
     by_cases hlt : j < ys.length
     ·have hji : (j : Int) < (ys.length : Int) := by omega
      obtain ⟨c0, c1'⟩ := (MvsC.of_own HOR.out) j hlt
      rw [Nat.zero_add] at c0 c1'
      have HTK : Hid (rcAll { st with x := y } (ys.take (j + 1)) = rcS (rcAll { st with x := y } (ys.take j)) (mvM ys j) (mvS ys j)) := by
       show _ = _
       rw [List.take_succ_eq_append_getElem hlt, rcAll_snoc, (mvM_at hlt).1, (mvM_at hlt).2]
      have HRE := fun (W : World) (h : Below wr.heap.size wr W) => Lib.hid (record_any z s (mvM ys j) (mvS ys j) (rcAll { st with x := y } (ys.take j)) own' W (Nat.le_trans hz (Nat.le_trans HI.out.fr.size h.size)) (HI.out.below h).ss (by simp [rcAll]; omega) (by simp [rcAll]; have := HTL.out; omega))
      generalize mvM ys j = m1 at *
      generalize mvS ys j = l1 at *
      go_wp2_with fail
      refine (HRE _ (below_all _ _)).out.mono ?_
      rintro e w5 ⟨rfl, own2, h1, h2, h3⟩
      have HI2 := Lib.hid ((HI.out.below (below_all wr (.cells #[.int .i64 m1, .string l1] 94))).step h1 h2 h3)
      have HO2 := Lib.hid ((HOR.out.below (below_all wr (.cells #[.int .i64 m1, .string l1] 94)) HOR.out.lt).fr h2 HI.out.nb)
      clear h1 h2 h3 c0 c1' HRE
      go_wp2_with fail
      go_roundw
      case rel => exact ⟨j + 1, own2, by omega, by go_num, by rw [HTK.out]; exact HI2, HO2⟩
      case measure => simp [intOf]; omega
     ·obtain rfl : j = ys.length := by omega
      rw [List.take_length] at HI
      have HWF5 := Lib.hid (HWF.out.fr HI.out.fr (fun q hq => by have := (HSO.out q hq).1; omega))
      have hits := itT_size (ys.length : Int) (by omega) (by omega)
      go_wp2_with fail
      refine (itoa_any (ys.length : Int) (by omega) (by omega) _ HWF5.out).mono ?_
      rintro e w6 ⟨rfl, hb6⟩
      have HI6 := Lib.hid (HI.out.below hb6)
      clear hb6
      go_wp2_with fail
      go_ret
      exact ⟨by rw [HE.out.1]; rfl, own', by rw [HE.out.2]; exact HI6.out.ss, HI6.out.fr, HI6.out.sub⟩
  ·have hgt : (100 : Int) < (st.ms.length : Int) + (ys.length : Int) := by omega
   have hwr : IntKind.i64.wrap ((st.ms.length : Int) + (ys.length : Int)) = (st.ms.length : Int) + (ys.length : Int) := IntWalk.i64_in _ (by omega)
   have HE := Lib.hid (HFN.out hle)
   go_wp2_with fail
   go_ret
   exact ⟨by rw [HE.out.1]; rfl, own, by rw [HE.out.2]; exact HS.out.keep (Fr.of_below HB2.out _), Fr.of_below HB2.out own, fun _ hq => .inl hq⟩
def spB (c : UInt8) : List UInt8 → List (List UInt8)
  | [] => [[]]
  | b :: l => if b = c then [] :: spB c l else match spB c l with | [] => [[b]] | x :: r => (b :: x) :: r
theorem spB_ne (c : UInt8) : ∀ l, spB c l ≠ []
  | [] => by simp [spB]
  | b :: l => by
   unfold spB
   split
   ·simp
   ·split <;> simp
theorem spB_free {c : UInt8} : ∀ {l : List UInt8}, c ∉ l → spB c l = [l]
  | [], _ => rfl
  | b :: l, h => by
   have h1 : b ≠ c := fun e => h (by simp [e])
   have h2 := spB_free (c := c) (l := l) (fun e => h (by simp [e]))
   simp [spB, h1, h2]
theorem spB_app {c : UInt8} : ∀ {a : List UInt8} (b : List UInt8), c ∉ a → spB c (a ++ c :: b) = a :: spB c b
  | [], b, _ => by simp [spB]
  | x :: a, b, h => by
   have h1 : x ≠ c := fun e => h (by simp [e])
   have h2 := spB_app (c := c) (a := a) b (fun e => h (by simp [e]))
   simp [spB, h1, h2]
def lnsB (ls : List (List UInt8)) : List UInt8 := ls.flatMap (· ++ [10])
theorem countB_one (t : ByteArray) (c : UInt8) : Lib.countB t ⟨#[c]⟩ = t.data.toList.count c := Lib.count_one c t.data.toList
theorem indexByte_app {c : UInt8} : ∀ {a : List UInt8} (b : List UInt8), c ∉ a → Lib.indexByte (a ++ c :: b) c = a.length
  | [], b, _ => by simp [Lib.indexByte]
  | x :: a, b, h => by
   have h1 : (x == c) = false := beq_eq_false_iff_ne.2 (fun e => h (by simp [e]))
   have h2 := indexByte_app (c := c) (a := a) b (fun e => h (by simp [e]))
   have h3 : ((a.length : Int) == -1) = false := beq_eq_false_iff_ne.2 (by omega)
   simp only [List.cons_append, Lib.indexByte, h1, h2, h3, List.length_cons]
   simp
theorem ext_list (t : ByteArray) (i j : Nat) : (t.extract i j).data.toList = (t.data.toList.take j).drop i := by
 simp [ByteArray.data_extract, Array.toList_extract, List.extract_eq_take_drop, List.drop_take]
theorem splitB_spB (c : UInt8) : ∀ (k : Nat) (t : ByteArray), t.data.toList.count c = k → (Lib.splitB ⟨#[c]⟩ 0 k t).map (·.data.toList) = spB c t.data.toList
  | 0, t, h => by
   have hn : c ∉ t.data.toList := List.count_eq_zero.1 h
   rw [spB_free hn]
   rfl
  | k + 1, t, h => by
   have hm : c ∈ t.data.toList := List.count_pos_iff.1 (by omega)
   obtain ⟨a, b, e, ha⟩ := List.eq_append_cons_of_mem hm
   have hi : Lib.indexB t ⟨#[c]⟩ = (a.length : Int) := by
    show Lib.index t.data.toList [c] = _
    rw [Lib.index_one, e, indexByte_app b ha]
   have hz : t.size = a.length + (b.length + 1) := by
    have : t.data.toList.length = t.size := by simp
    rw [← this, e, List.length_append, List.length_cons]
   have h1 : (t.extract 0 a.length).data.toList = a := by
    rw [ext_list, e, List.drop_zero, List.take_left]
   have h2 : (t.extract (a.length + 1) t.size).data.toList = b := by
    rw [ext_list, e, hz, List.take_of_length_le (by rw [List.length_append, List.length_cons]; exact Nat.le_refl _), List.append_cons a c b, show a.length + 1 = (a ++ [c]).length from by rw [List.length_append]; rfl, List.drop_left]
   have hc : b.count c = k := by
    rw [e, List.count_append, List.count_eq_zero.2 ha, List.count_cons_self] at h
    omega
   rw [Lib.splitB_hit _ _ _ _ _ hi, e, spB_app b ha, List.map_cons]
   have ih := splitB_spB c k (t.extract (a.length + 1) t.size) (by rw [h2]; exact hc)
   rw [h2] at ih
   show (t.extract 0 (a.length + 0)).data.toList :: _ = _
   rw [Nat.add_zero, h1]
   exact congrArg _ ih
theorem wdL_spB (t : ByteArray) : (wdL t).map (·.data.toList) = spB 32 t.data.toList := by
 unfold wdL
 exact splitB_spB 32 _ t (countB_one t 32).symm
theorem lnT_spB (t : ByteArray) : (lnT t).map (·.data.toList) = spB 10 t.data.toList := by
 unfold lnT
 exact splitB_spB 10 _ t (countB_one t 10).symm
theorem ba_ext {a b : ByteArray} (h : a.data.toList = b.data.toList) : a = b := by
 cases a
 cases b
 simpa using h
theorem map_ba_inj : ∀ {xs ys : List ByteArray}, xs.map (·.data.toList) = ys.map (·.data.toList) → xs = ys
  | [], [], _ => rfl
  | [], _ :: _, h => by cases h
  | _ :: _, [], h => by cases h
  | x :: xs, y :: ys, h => by
   simp only [List.map_cons, List.cons.injEq] at h
   rw [ba_ext h.1, map_ba_inj h.2]
theorem wdL_of {t : ByteArray} {ws : List ByteArray} (h : spB 32 t.data.toList = ws.map (·.data.toList)) : wdL t = ws := map_ba_inj (by rw [wdL_spB, h])
end Go.Proofs.YtlkdmpfifpkpaaaGreatDoor

