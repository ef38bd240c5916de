/-
  Parts of the proof: Ye Yf Ja Jc Jd Je. No condition.
-/
import Derived.Recover
import Derived.Defers
import Derived.Test.YtlkdmpfifpkpaaaGreatDoorV03
import Derived.Test.YtlkdmpfifpkpaaaGreatDoorV07
namespace Go.Proofs.YtlkdmpfifpkpaaaGreatDoor
open Go.RowKit
def CpR (p : Pt) (w : World) (e : Ending) (w' : World) : Prop :=
 Below w.heap.size w w' ∧ ∃ gI cI gO cO, e = .returned (.agg #[.slice (some ⟨gI, 0, none⟩) p.ni cI, .slice (some ⟨gO, 0, none⟩) p.no cO]) ∧ w.heap.size ≤ gI ∧ w.heap.size ≤ gO ∧ IC w' gI 0 p.ni p.I ∧ IC w' gO 0 p.no p.O
set_option linter.unusedSimpArgs false in
set_option maxRecDepth 100000 in
set_option maxHeartbeats 4000000 in
theorem copied_any (b o : Nat) (p : Pt) (bi ci bo co : Nat) (w : World) (hp : PtA w b o p bi ci bo co) (hni : p.ni ≤ 1000000) (hno : p.no ≤ 1000000) :
    Calls Tryz.prog 151 #[.pointer (some ⟨b, o, none⟩)] w (CpR p w) := by
  have HP := Lib.hid hp
  have hbl := World.block_lt_of_cell? w ⟨b, o, none⟩ hp.c0
  have HX1 : Hid (Bx (w.alloc (.cells #[.slice none 0 0, .slice none 0 0] 41)) w.heap.size 41 #[.slice none 0 0, .slice none 0 0]) := Bx.new _ _ _
  have HP1 : Hid (PtA (w.alloc (.cells #[.slice none 0 0, .slice none 0 0] 41)) b o p bi ci bo co) := hp.keep (below_all _ _)
  have HBW : Hid (Below w.heap.size w (w.alloc (.cells #[.slice none 0 0, .slice none 0 0] 41))) := below_all _ _
  clear hp
  go_enter Tryz.func151, Tryz.ntmps151
  go_wp2_with fail
  generalize w.alloc (.cells #[.slice none 0 0, .slice none 0 0] 41) = w1 at *
  have HBd : Hid (Below w1.heap.size w1 w1.drew) := (Below.refl _ _).drew
  have HSS : Hid (∀ W, Below w1.heap.size w1 W → W.cell? ⟨b, o, none⟩ = some (.slice (some ⟨bi, 0, none⟩) p.ni ci) ∧ W.cell? ⟨b, o + 1, none⟩ = some (.slice (some ⟨bo, 0, none⟩) p.no co)) := fun W h => HP1.out.s W h
  refine wp_region_held_drew (S := fun W => W.cell? ⟨b, o, none⟩ = some (.slice (some ⟨bi, 0, none⟩) p.ni ci) ∧ W.cell? ⟨b, o + 1, none⟩ = some (.slice (some ⟨bo, 0, none⟩) p.no co)) (by kernel_rfl) (HSS.out _ HBd.out) (fun hHeld => ?_)
  refine tkR 0 ?_
  refine tkR 1 ?_
  refine tkR 2 ?_
  refine tkR 3 ?_
  refine tkR 5 ?_
  refine tkR 6 ?_
  refine tkR 7 ?_
  refine tkR 8 ?_
  refine r1R 4 (fun K hK => ?_)
  go_simp
  go_at_call 158
  go_must (refine Calls.mono (clone_any bi 0 p.ni ci p.I _ (by omega) (HP1.out.keep HBd.out).I) ?_)
  rintro e w2 ⟨gI, cI, rfl, hgI, hoI, hb2⟩
  have HB2 := Lib.hid (HBd.out.trans (hb2.mono HBd.out.size))
  have HOI := Lib.hid hoI
  clear hb2 hoI
  refine oR hK ?_ (fun hHeld => ?_)
  ·try dsimp only
   exact HSS.out _ HB2.out
  clear hK K
  refine r1R 9 (fun K hK => ?_)
  go_simp
  go_at_call 158
  go_must (refine Calls.mono (clone_any bo 0 p.no co p.O _ (by omega) (HP1.out.keep HB2.out).O) ?_)
  rintro e w3 ⟨gO, cO, rfl, hgO, hoO, hb3⟩
  have HB3 := Lib.hid (HB2.out.trans (hb3.mono HB2.out.size))
  have HOI3 := Lib.hid (HOI.out.below hb3 HOI.out.lt)
  have HOO := Lib.hid hoO
  have hsz := HB2.out.size
  clear hb3 hoO HOI
  refine oR hK ?_ (fun hHeld => ?_)
  ·try dsimp only
   exact HSS.out _ HB3.out
  clear hK K
  refine tkR 10 ?_
  have HX3 := Lib.hid (HX1.out.below HB3.out HX1.out.lt)
  have hxl := HX3.out.lt
  have hxf := HX3.out.free
  have hxc := HX3.out.cell
  have hbw := HBW.out.size
  have hx1 := HX1.out.lt
  have hg1 : w1.heap.size ≤ gI := by have : w1.drew.heap.size = w1.heap.size := rfl; omega
  have hg2 : w1.heap.size ≤ gO := by omega
  refine r1R 11 (fun K hK => ?_)
  go_simp
  skip
  refine oR hK ?_ (fun hHeld => ?_)
  ·try dsimp only
   exact ⟨by rw [World.cell?_setCell_other _ _ _ _ (by intro h; cases h <;> omega), World.cell?_setCell_other _ _ _ _ (by intro h; cases h <;> omega)]; exact (HSS.out _ HB3.out).1, by rw [World.cell?_setCell_other _ _ _ _ (by intro h; cases h <;> omega), World.cell?_setCell_other _ _ _ _ (by intro h; cases h <;> omega)]; exact (HSS.out _ HB3.out).2⟩
  clear hK K
  refine wpAnyH_done (by kernel_rfl) ?_ _
  clear hHeld
  go_wp2_with fail
  refine bodyPost_ret (v := .agg #[.slice (some ⟨gI, 0, none⟩) p.ni cI, .slice (some ⟨gO, 0, none⟩) p.no cO]) (by simp [results, Tryz.results151, go_sem, hxc]) rfl ?_
  refine ⟨?_, gI, cI, gO, cO, rfl, by omega, by omega, ?_, ?_⟩
  ·exact ((HBW.out.trans (HB3.out.mono hbw)).setCell (Nat.le_refl _) _).setCell (Nat.le_refl _) _
  ·exact IC.of_own (t := 3) ((HOI3.out.setOther (by dsimp only; omega) _).setOther (by dsimp only; omega) _)
  ·exact IC.of_own (t := 3) ((HOO.out.setOther (by dsimp only; omega) _).setOther (by dsimp only; omega) _)
theorem elPt : Elem Tryz.prog 53 41 (.agg #[.slice none 0 0, .slice none 0 0]) 2 48 := ⟨Tryz.underlying53, by kernel_rfl, rfl, by decide⟩
def OwPs (z : Nat) (w : World) (g c q : Nat) (P : Nat → Pt) : Prop :=
 ∃ F : Nat → Value, Own w g c q 2 41 F ∧ ∀ k, k < q → ∃ bi ci bo co, F (k * 2) = .slice (some ⟨bi, 0, none⟩) (P k).ni ci ∧ F (k * 2 + 1) = .slice (some ⟨bo, 0, none⟩) (P k).no co ∧ (z ≤ bi ∧ bi ≠ g) ∧ (z ≤ bo ∧ bo ≠ g) ∧ IC w bi 0 (P k).ni (P k).I ∧ IC w bo 0 (P k).no (P k).O
theorem OwPs.below {z : Nat} {w w' : World} {g c q : Nat} {P : Nat → Pt} (h : OwPs z w g c q P) (hb : Below w.heap.size w w') : OwPs z w' g c q P := by
 obtain ⟨F, h1, h2⟩ := h
 refine ⟨F, h1.below hb h1.lt, fun k hk => ?_⟩
 obtain ⟨bi, ci, bo, co, e1, e2, e3, e4, e5, e6⟩ := h2 k hk
 exact ⟨bi, ci, bo, co, e1, e2, e3, e4, e5.keep hb, e6.keep hb⟩
theorem OwPs.at {z : Nat} {w : World} {g c q : Nat} {P : Nat → Pt} (h : OwPs z w g c q P) {k : Nat} (hk : k < q) : ∃ bi ci bo co, PtA w g (k * 2) (P k) bi ci bo co := by
 obtain ⟨F, h1, h2⟩ := h
 obtain ⟨bi, ci, bo, co, e1, e2, _, _, e5, e6⟩ := h2 k hk
 have c0 := h1.cell (i := k * 2) (by omega)
 have c1 := h1.cell (i := k * 2 + 1) (by omega)
 exact ⟨bi, ci, bo, co, by rw [c0, e1], by rw [c1, e2], e5, e6⟩
theorem OwPs.psv {z : Nat} {w : World} {g c : Nat} {ps : List Pt} (h : OwPs z w g c ps.length (pA ps)) : PsV w (some ⟨g, 0, none⟩) ps := fun k hk => by
 obtain ⟨bi, ci, bo, co, h1⟩ := h.at hk
 exact ⟨g, bi, ci, bo, co, rfl, h1⟩
def psF (F : Nat → Value) (q : Nat) (v0 v1 : Value) (i : Nat) : Value := if i < q * 2 then F i else if i = q * 2 then v0 else v1
theorem OwPs.made (z : Nat) (w : World) (c : Nat) (P : Nat → Pt) (hc : c ≤ maxLen) : OwPs z (w.alloc (.cells (madeCells #[.slice none 0 0, .slice none 0 0] (c * 2)) 41)) w.heap.size c 0 P :=
 ⟨fun _ => .nilIface, ⟨Nat.zero_le _, hc, _, heap_alloc_new _ _, size_madeCells _ _, fun i hi => by omega⟩, fun k hk => by omega⟩
theorem OwPs.push {z : Nat} {w wa : World} {g c g' c' q bi ci bo co : Nat} {P : Nat → Pt} {F : Nat → Value} (h : Own w g c q 2 41 F ∧ ∀ k, k < q → ∃ bi ci bo co, F (k * 2) = .slice (some ⟨bi, 0, none⟩) (P k).ni ci ∧ F (k * 2 + 1) = .slice (some ⟨bo, 0, none⟩) (P k).no co ∧ (z ≤ bi ∧ bi ≠ g) ∧ (z ≤ bo ∧ bo ≠ g) ∧ IC w bi 0 (P k).ni (P k).I ∧ IC w bo 0 (P k).no (P k).O)
    (hA : Own wa g' c' (q + 1) 2 41 (psF F q (.slice (some ⟨bi, 0, none⟩) (P q).ni ci) (.slice (some ⟨bo, 0, none⟩) (P q).no co))) (hg : w.grownBy wa (some g)) (hd : (g' = g ∧ c' = c) ∨ w.heap.size < g')
    (h1 : z ≤ bi ∧ bi ≠ g) (h2 : z ≤ bo ∧ bo ≠ g) (hI : IC w bi 0 (P q).ni (P q).I) (hO : IC w bo 0 (P q).no (P q).O) (hbi : bi < w.heap.size) (hbo : bo < w.heap.size) (hnn : ∀ k, k < q → 0 < (P k).ni ∧ 0 < (P k).no) : OwPs z wa g' c' (q + 1) P := by
  refine ⟨_, hA, fun k hk => ?_⟩
  by_cases e : k = q
  ·subst e
   refine ⟨bi, ci, bo, co, ?_, ?_, ⟨h1.1, ?_⟩, ⟨h2.1, ?_⟩, ic_pick hI hg h1.2, ic_pick hO hg h2.2⟩
   ·unfold psF
    rw [if_neg (by omega), if_pos rfl]
   ·unfold psF
    rw [if_neg (by omega), if_neg (by omega)]
   ·rcases hd with ⟨rfl, _⟩ | hd
    ·exact h1.2
    ·omega
   ·rcases hd with ⟨rfl, _⟩ | hd
    ·exact h2.2
    ·omega
  ·obtain ⟨b, x, b', x', e1, e2, e3, e4, e5, e6⟩ := h.2 k (by omega)
   obtain ⟨p1, p2⟩ := hnn k (by omega)
   have hb : b < w.heap.size := World.block_lt_of_cell? w ⟨b, 0 + 0, none⟩ (e5 0 p1)
   have hb' : b' < w.heap.size := World.block_lt_of_cell? w ⟨b', 0 + 0, none⟩ (e6 0 p2)
   refine ⟨b, x, b', x', ?_, ?_, ⟨e3.1, ?_⟩, ⟨e4.1, ?_⟩, ic_pick e5 hg e3.2, ic_pick e6 hg e4.2⟩
   ·unfold psF
    rw [if_pos (by omega), e1]
   ·unfold psF
    rw [if_pos (by omega), e2]
   ·rcases hd with ⟨rfl, _⟩ | hd
    ·exact e3.2
    ·omega
   ·rcases hd with ⟨rfl, _⟩ | hd
    ·exact e4.2
    ·omega
theorem OwPs.congr {z : Nat} {w : World} {g c q : Nat} {P P' : Nat → Pt} (h : OwPs z w g c q P) (e : ∀ k, k < q → P k = P' k) : OwPs z w g c q P' := by
 obtain ⟨F, h1, h2⟩ := h
 refine ⟨F, h1, fun k hk => ?_⟩
 rw [← e k hk]
 exact h2 k hk
theorem OwPs.own {z : Nat} {w : World} {g c q : Nat} {P : Nat → Pt} (h : OwPs z w g c q P) : ∃ F, Own w g c q 2 41 F := ⟨_, h.choose_spec.1⟩
theorem OwPs.lt {z : Nat} {w : World} {g c q : Nat} {P : Nat → Pt} (h : OwPs z w g c q P) : g < w.heap.size := by
 obtain ⟨F, h1⟩ := h.own
 exact h1.lt
theorem pA_old {ps : List Pt} {p : Pt} {k : Nat} (h : k < ps.length) : pA ps k = pA (ps ++ [p]) k := by unfold pA; rw [List.getElem?_append_left h]
theorem pA_new (ps : List Pt) (p : Pt) : pA (ps ++ [p]) ps.length = p := by unfold pA; simp
def adO (ps : List Pt) (n n' : Nat) (f : Nat → Int) (t : Int) : Option (List Int) := if ps.length = 8 then none else ftO ps n n' f t
def AdR (o : Option (List Int)) (ps : List Pt) (f : Nat → Int) (n : Nat) (w : World) (e : Ending) (w' : World) : Prop :=
 Below w.heap.size w w' ∧ match o with
  | none => ∃ a q c, e = .returned (.tuple #[.slice a q c, .bool false])
  | some l => ∃ g c, e = .returned (.tuple #[.slice (some ⟨g, 0, none⟩) (ps.length + 1) c, .bool true]) ∧ w.heap.size ≤ g ∧ OwPs w.heap.size w' g c (ps.length + 1) (pA (ps ++ [ftP l f n]))
theorem AdR.no {o : Option (List Int)} {ps : List Pt} {f : Nat → Int} {n : Nat} {w w' : World} {e : Ending} {a : Option Addr} {q c : Nat} (h : o = none) (he : e = .returned (.tuple #[.slice a q c, .bool false])) (hb : Below w.heap.size w w') : AdR o ps f n w e w' := by
 subst h
 exact ⟨hb, a, q, c, he⟩
structure AdM (w w5 wr : World) (g c j : Nat) (ps : List Pt) : Prop where
  ow : OwPs w.heap.size wr g c j (pA ps)
  gz : w5.heap.size ≤ g
  bl : Below w5.heap.size w5 wr
set_option linter.unusedSimpArgs false in
set_option maxRecDepth 100000 in
set_option maxHeartbeats 4000000 in
theorem pathsAdd_any (ao : Option Addr) (c0 n : Nat) (t : Int) (b off n' c : Nat) (f : Nat → Int) (ps : List Pt) (w : World) (hk : PsOk n ps) (hv : PsV w ao ps) (hn' : n' ≤ 1000000) (hc : IC w b off n' f) (ht : 0 ≤ t ∧ t ≤ 1000000) :
    Calls Tryz.prog 129 #[.int .i64 n, .slice ao ps.length c0, .int .i64 t, .slice (some ⟨b, off, none⟩) n' c] w (AdR (adO ps n n' f t) ps f n w) := by
  have HK := Lib.hid hk
  have HV := Lib.hid hv
  have hn1 := hk.n1
  have hn5 := hk.n5
  have hlen := hk.len
  have HFT := Lib.hid (pathsFit_any ao c0 n t b off n' c f ps w hk hv hn' hc ht)
  clear hc hk hv
  cases ho : ftO ps n n' f t with
  | none =>
   have HN : Hid (adO ps n n' f t = none) := by show _ = _; unfold adO; rw [ho]; split <;> rfl
   rw [ho] at HFT
   clear ho
   go_enter Tryz.func129, Tryz.ntmps129
   go_wp2_with fail
   refine HFT.out.mono ?_
   rintro e w2 ⟨hb2, rfl⟩
   have HB2 := Lib.hid hb2
   have HB3 := Lib.hid (hb2.alloc hb2.size (.cells #[.slice none 0 0, .slice none 0 0] 41))
   clear hb2
   go_wp2_with fail
   go_ret2
   exact AdR.no HN.out rfl (HB3.out.alloc HB3.out.size _)
  | some l =>
   rw [ho] at HFT
   by_cases h8 : ps.length = 8
   ·have HN : Hid (adO ps n n' f t = none) := by show _ = _; unfold adO; rw [if_pos h8]
    have g8 : ((ps.length : Int) == 8) = true := by simp [h8]
    have g8' : decide ((ps.length : Int) = 8) = true := by simp [h8]
    clear ho h8
    go_enter Tryz.func129, Tryz.ntmps129
    go_wp2_with fail
    refine HFT.out.mono ?_
    rintro e w2 ⟨hb2, gI, gO, rfl, _⟩
    have HB2 := Lib.hid hb2
    have HB3 := Lib.hid (hb2.alloc hb2.size (.cells #[.slice (some ⟨gI, 0, none⟩) n n, .slice (some ⟨gO, 0, none⟩) n n] 41))
    clear hb2
    go_wp2_with fail
    go_ret2
    exact AdR.no HN.out rfl (HB3.out.alloc HB3.out.size _)
   ·have HN : Hid (adO ps n n' f t = some l) := by show _ = _; unfold adO; rw [if_neg h8, ho]
    have g8 : ((ps.length : Int) == 8) = false := by simp; omega
    have g8' : decide ((ps.length : Int) = 8) = false := by simp; omega
    have hmk : ∀ w, (Instr.makeSlice 53 (.int .i64 0) (.int .i64 ((ps.length : Int) + 1))).run Tryz.prog w = .ok (.slice (some ⟨w.heap.size, 0, none⟩) 0 (ps.length + 1)) (w.alloc (.cells (madeCells #[.slice none 0 0, .slice none 0 0] ((ps.length + 1) * 2)) 41)) := fun w => run_mk0 elPt (ps.length + 1) (by omega) (by omega) w
    clear ho h8
    go_enter Tryz.func129, Tryz.ntmps129
    go_wp2_with fail
    refine HFT.out.mono ?_
    rintro e w2 ⟨hb2, gI, gO, rfl, hgI, hgO, hI, hO⟩
    have HB2 := Lib.hid hb2
    have HCI := Lib.hid (hI.keep (below_all w2 (.cells #[.slice (some ⟨gI, 0, none⟩) n n, .slice (some ⟨gO, 0, none⟩) n n] 41)))
    have HCO := Lib.hid (hO.keep (below_all w2 (.cells #[.slice (some ⟨gI, 0, none⟩) n n, .slice (some ⟨gO, 0, none⟩) n n] 41)))
    have HB5 := Lib.hid (hb2.alloc hb2.size (.cells #[.slice (some ⟨gI, 0, none⟩) n n, .slice (some ⟨gO, 0, none⟩) n n] 41))
    have HX5 : Hid (Bx (w2.alloc (.cells #[.slice (some ⟨gI, 0, none⟩) n n, .slice (some ⟨gO, 0, none⟩) n n] 41)) w2.heap.size 41 #[.slice (some ⟨gI, 0, none⟩) n n, .slice (some ⟨gO, 0, none⟩) n n]) := Bx.new _ _ _
    clear hb2 hI hO
    go_wp2_with fail
    have HZ5 : Hid ((w2.alloc (.cells #[.slice (some ⟨gI, 0, none⟩) n n, .slice (some ⟨gO, 0, none⟩) n n] 41)).heap.size = w2.heap.size + 1) := by show _ = _; simp
    generalize w2.alloc (.cells #[.slice (some ⟨gI, 0, none⟩) n n, .slice (some ⟨gO, 0, none⟩) n n] 41) = w5 at *
    have hs5 := HB5.out.size
    have HA0 : Hid (AdM w w5 (w5.alloc (.cells (madeCells #[.slice none 0 0, .slice none 0 0] ((ps.length + 1) * 2)) 41)) (w2.heap.size + 1) (ps.length + 1) 0 ps) := by
     show AdM _ _ _ _ _ _ _
     rw [← HZ5.out]
     exact ⟨OwPs.made _ _ _ _ (by unfold maxLen; omega), Nat.le_refl _, below_all _ _⟩
    go_loopw [12, 13, 36] (fun o _ i wr => ∃ j g c : Nat, j ≤ ps.length ∧ i = .int .i64 j ∧ o = .slice (some ⟨g, 0, none⟩) j c ∧ Hid (AdM w w5 wr g c j ps)) (fun _ _ i _ => ps.length - (intOf i).toNat)
    case atStart => exact ⟨0, w2.heap.size + 1, ps.length + 1, Nat.zero_le _, rfl, rfl, by simpa using HA0⟩
    case round =>
     obtain ⟨j, g, c', hj, rfl, rfl, HA⟩ := hrel
     have hgz := HA.out.gz
     by_cases hlt : j < ps.length
     ·have hji : (j : Int) < (ps.length : Int) := by omega
      obtain ⟨lb, bi, ci, bo, co, e, hp⟩ := HV.out j hlt
      cases e
      have HPR := Lib.hid (hp.keep (HB5.out.trans (HA.out.bl.mono hs5)))
      obtain ⟨_, e1, e2, _⟩ := ptOk_parts (HK.out.ok j hlt)
      clear hp
      go_wp2_with fail
      refine (copied_any lb (j * 2) (pA ps j) bi ci bo co wr HPR.out (by omega) (by omega)).mono ?_
      rintro e w6 ⟨hb6, qI, cI, qO, cO, rfl, hqI, hqO, hcI, hcO⟩
      have HB6 := Lib.hid (HA.out.bl.trans (hb6.mono HA.out.bl.size))
      have HI6 := Lib.hid hcI
      have HO6 := Lib.hid hcO
      have HW6 := HA.out.ow.below hb6
      have hgl := HA.out.ow.lt
      have h6s := hb6.size
      have hw5s := HB6.out.size
      obtain ⟨F, hF⟩ := HW6
      have HF := Lib.hid hF
      clear hb6 hcI hcO hF
      go_wp2_with (at_builtin; refine wpList_push elPt rfl (.tmp 39) (.tmp 44) (by rfl) (f := psF F j (.slice (some ⟨qI, 0, none⟩) (pA ps j).ni cI) (.slice (some ⟨qO, 0, none⟩) (pA ps j).no cO)) (HF.out.1.congr (fun i hi => by unfold psF; rw [if_pos (by omega)])) (by rfl) [.slice (some ⟨qI, 0, none⟩) (pA ps j).ni cI, .slice (some ⟨qO, 0, none⟩) (pA ps j).no cO] (by rfl) (fun q hq => by
         unfold psF
         rw [if_neg (by omega)]
         by_cases e : q = 0
         ·subst e; rw [if_pos (by omega)]; rfl
         ·obtain rfl : q = 1 := by omega
          rw [if_neg (by omega)]; rfl) (fun q hq => by
         unfold psF
         rw [if_neg (by omega)]
         split <;> rfl) (by unfold maxLen; omega) (by omega) ?_; intro g' c2 wa HAw hgr hd; have HW3 := Lib.hid (OwPs.push HF.out HAw hgr hd ⟨by omega, by omega⟩ ⟨by omega, by omega⟩ HI6.out HO6.out (World.block_lt_of_cell? w6 ⟨qI, 0 + 0, none⟩ (HI6.out 0 (by omega))) (World.block_lt_of_cell? w6 ⟨qO, 0 + 0, none⟩ (HO6.out 0 (by omega))) (fun k hk => by obtain ⟨_, d1, d2, _⟩ := ptOk_parts (HK.out.ok k (by omega)); omega)); have HBL := Lib.hid (HB6.out.trans (below_of_grown hgr (by omega) hw5s)); have hgg : w5.heap.size ≤ g' := by rcases hd with ⟨rfl, _⟩ | hd <;> omega)
      go_roundw
      case rel => exact ⟨j + 1, g', c2, by omega, by go_num, by simp, ⟨HW3.out, hgg, HBL.out⟩⟩
      case measure => simp [intOf]; omega
     ·obtain rfl : j = ps.length := by omega
      have HXR := Lib.hid (HX5.out.below HA.out.bl HX5.out.lt)
      have hxc := HXR.out.cell
      have hgl := HA.out.ow.lt
      have hw5s := HA.out.bl.size
      have HI6 := Lib.hid (HCI.out.keep HA.out.bl)
      have HO6 := Lib.hid (HCO.out.keep HA.out.bl)
      have hbi := World.block_lt_of_cell? w5 ⟨gI, 0 + 0, none⟩ (HCI.out 0 (by omega))
      have hbo := World.block_lt_of_cell? w5 ⟨gO, 0 + 0, none⟩ (HCO.out 0 (by omega))
      dsimp only at hbi hbo
      have hnw := pA_new ps (ftP l f n)
      have HNW := Lib.hid hnw
      have HWW := HA.out.ow.congr (P' := pA (ps ++ [ftP l f n])) (fun k hk => pA_old hk)
      obtain ⟨F, hF⟩ := HWW
      have HF := Lib.hid hF
      clear hF hnw
      go_wp2_with (at_builtin; refine wpList_push elPt rfl (.tmp 47) (.tmp 49) (by rfl) (f := psF F ps.length (.slice (some ⟨gI, 0, none⟩) n n) (.slice (some ⟨gO, 0, none⟩) n n)) (HF.out.1.congr (fun i hi => by unfold psF; rw [if_pos (by omega)])) (by rfl) [.slice (some ⟨gI, 0, none⟩) n n, .slice (some ⟨gO, 0, none⟩) n n] (by rfl) (fun q hq => by
         unfold psF
         rw [if_neg (by omega)]
         by_cases e : q = 0
         ·subst e; rw [if_pos (by omega)]; rfl
         ·obtain rfl : q = 1 := by omega
          rw [if_neg (by omega)]; rfl) (fun q hq => by
         unfold psF
         rw [if_neg (by omega)]
         split <;> rfl) (by unfold maxLen; omega) (by omega) ?_; intro g' c2 wa HAw hgr hd; have HW3 := Lib.hid (OwPs.push (ci := n) (co := n) (bi := gI) (bo := gO) HF.out (by rw [HNW.out]; exact HAw) hgr hd ⟨by omega, by omega⟩ ⟨by omega, by omega⟩ (by rw [HNW.out]; exact HI6.out) (by rw [HNW.out]; exact HO6.out) (by omega) (by omega) (fun k hk => by rw [← pA_old hk]; obtain ⟨_, d1, d2, _⟩ := ptOk_parts (HK.out.ok k (by omega)); omega)); have HBL := Lib.hid (HA.out.bl.trans (below_of_grown hgr (by omega) hw5s)); have hgg : w5.heap.size ≤ g' := by rcases hd with ⟨rfl, _⟩ | hd <;> omega)
      go_ret2
      refine ⟨HB5.out.trans (HBL.out.mono hs5), ?_⟩
      rw [HN.out]
      exact ⟨g', c2, rfl, by omega, HW3.out⟩
def dgV (l : List UInt8) : Int := l.foldl (fun a c => 10 * a + ((c.toNat : Int) - 48)) 0
def dgB (c : UInt8) : Bool := decide (48 ≤ c.toNat) && decide (c.toNat ≤ 57)
def nmL (l : List UInt8) : Int := if 1 ≤ l.length ∧ l.length ≤ 4 ∧ l.all dgB = true then dgV l else 9999
def nmF (t : ByteArray) : Int := nmL t.data.toList
theorem dgV_snoc (l : List UInt8) (c : UInt8) : dgV (l ++ [c]) = 10 * dgV l + ((c.toNat : Int) - 48) := by
 unfold dgV
 rw [List.foldl_append]
 rfl
theorem dgB_true {c : UInt8} : dgB c = true ↔ 48 ≤ c.toNat ∧ c.toNat ≤ 57 := by unfold dgB; rw [Bool.and_eq_true, decide_eq_true_eq, decide_eq_true_eq]
theorem dgV_bd : ∀ (n : Nat) (l : List UInt8), l.length ≤ n → l.all dgB = true → 0 ≤ dgV l ∧ dgV l < 10 ^ n := by
 intro n
 induction n with
 | zero =>
  intro l h _
  obtain rfl : l = [] := List.length_eq_zero_iff.1 (by omega)
  decide
 | succ n ih =>
  intro l h hd
  rcases List.eq_nil_or_concat l with rfl | ⟨l', c, rfl⟩
  ·have : (0 : Int) < 10 ^ (n + 1) := Int.pow_pos (by omega)
   exact ⟨Int.le_refl _, this⟩
  ·rw [List.concat_eq_append] at h hd ⊢
   rw [List.all_append, Bool.and_eq_true] at hd
   have h1 := ih l' (by simp at h; omega) hd.1
   have h2 : dgB c = true := by simpa using hd.2
   have h3 := dgB_true.1 h2
   rw [dgV_snoc, Int.pow_succ]
   omega
theorem nmF_bd (t : ByteArray) : 0 ≤ nmF t ∧ nmF t ≤ 9999 := by
 unfold nmF nmL
 split
 ·rename_i h
  have := dgV_bd 4 _ h.2.1 h.2.2
  omega
 ·omega
theorem all_take {l : List UInt8} {k : Nat} (hk : k < l.length) : (l.take (k + 1)).all dgB = ((l.take k).all dgB && dgB l[k]) := by
 rw [List.take_succ_eq_append_getElem hk, List.all_append]
 simp
theorem all_stop {l : List UInt8} {k : Nat} (hk : k < l.length) (h : dgB l[k] = false) : l.all dgB = false := by
 cases e : l.all dgB
 ·rfl
 ·have := List.all_eq_true.1 e _ (List.getElem_mem hk)
  rw [h] at this
  cases this
set_option linter.unusedSimpArgs false in
set_option maxRecDepth 100000 in
set_option maxHeartbeats 2000000 in
theorem numberOf_any (t : ByteArray) (w : World) :
    Calls Tryz.prog 120 #[.string t] w fun e w' => e = .returned (.int .i64 (nmF t)) ∧ w = w' := by
  have HSZ : Hid (t.data.toList.length = t.size) := by show _ = _; simp
  go_enter Tryz.func120, Tryz.ntmps120
  by_cases h0 : t.size = 0
  ·have HV : Hid (nmF t = 9999) := if_neg (fun h => by have := HSZ.out; omega)
   have hb : ((t.size : Int) == 0) = true := beq_iff_eq.2 (by omega)
   clear h0
   go_wp2_with fail
   go_ret
   exact ⟨by rw [HV.out]; rfl, rfl⟩
  have hb : ((t.size : Int) == 0) = false := beq_eq_false_iff_ne.2 (by omega)
  by_cases h4 : 4 < t.size
  ·have HV : Hid (nmF t = 9999) := if_neg (fun h => by have := HSZ.out; omega)
   have h4i : (4 : Int) < (t.size : Int) := by omega
   clear h0
   go_wp2_with fail
   go_ret
   exact ⟨by rw [HV.out]; rfl, rfl⟩
  have h4i : ¬ (4 : Int) < (t.size : Int) := by omega
  go_wp2_with fail
  go_loopw [3, 4, 15] (fun n _ i wr => ∃ k : Nat, k ≤ t.size ∧ i = .int .i64 k ∧ n = .int .i64 (dgV (t.data.toList.take k)) ∧ w = wr ∧ Hid ((t.data.toList.take k).all dgB = true)) (fun _ _ i _ => t.size - (intOf i).toNat)
  case atStart => exact ⟨0, Nat.zero_le _, rfl, rfl, rfl, rfl⟩
  case round =>
   obtain ⟨k, hk, rfl, rfl, rfl, HA⟩ := hrel
   by_cases hlt : k < t.size
   ·have hbt := bt_at hlt
    have hbl : bt t k = ((t.data.toList[k]'(by simpa using hlt)).toNat : Int) := by
     unfold bt
     rw [dif_pos hlt]
     rfl
    have HNX : Hid ((t.data.toList.take (k + 1)).all dgB = dgB (t.data.toList[k]'(by simpa using hlt))) := by show _ = _; rw [all_take (by simpa using hlt), HA.out, Bool.true_and]
    have HVX : Hid (dgV (t.data.toList.take (k + 1)) = 10 * dgV (t.data.toList.take k) + (bt t k - 48)) := by
     show _ = _
     rw [List.take_succ_eq_append_getElem (by simpa using hlt), dgV_snoc, hbl]
    have HST : Hid (dgB (t.data.toList[k]'(by simpa using hlt)) = false → nmF t = 9999) := fun h => if_neg (fun q => by rw [all_stop (by simpa using hlt) h] at q; cases q.2.2)
    have HDB : Hid (dgB (t.data.toList[k]'(by simpa using hlt)) = true ↔ 48 ≤ bt t k ∧ bt t k ≤ 57) := by
     show _ ↔ _
     rw [dgB_true, hbl]
     omega
    have hbd := dgV_bd 4 (t.data.toList.take k) (by simp; omega) HA.out
    have hki : (k : Int) < (t.size : Int) := by omega
    have hb0 : 0 ≤ bt t k ∧ bt t k < 256 := by
     have := (t.data.toList[k]'(by simpa using hlt)).toNat_lt
     omega
    clear hbl
    generalize dgB (t.data.toList[k]'(by simpa using hlt)) = d at *
    generalize bt t k = c at *
    generalize dgV (t.data.toList.take k) = n at *
    by_cases hc1 : c < 48
    ·have HV : Hid (nmF t = 9999) := HST.out (by
      cases d
      ·rfl
      ·have := HDB.out.1 rfl; omega)
     go_wp2_with fail
     go_ret
     exact ⟨by rw [HV.out]; rfl, rfl⟩
    by_cases hc2 : 57 < c
    ·have HV : Hid (nmF t = 9999) := HST.out (by
      cases d
      ·rfl
      ·have := HDB.out.1 rfl; omega)
     go_wp2_with fail
     go_ret
     exact ⟨by rw [HV.out]; rfl, rfl⟩
    have HA2 : Hid ((t.data.toList.take (k + 1)).all dgB = true) := by show _ = _; rw [HNX.out]; exact HDB.out.2 (by omega)
    have hw1 : IntKind.u8.wrap (c - 48) = c - 48 := IntWalk.u8_in _ (by omega)
    have hw2 : IntKind.i64.wrap (10 * n) = 10 * n := IntWalk.i64_in _ (by omega)
    have hw3 : IntKind.i64.wrap (c - 48) = c - 48 := IntWalk.i64_in _ (by omega)
    have hw4 : IntKind.i64.wrap (10 * n + (c - 48)) = 10 * n + (c - 48) := IntWalk.i64_in _ (by omega)
    go_wp2_with fail
    go_roundw
    case rel => exact ⟨k + 1, by omega, by go_num, by rw [HVX.out], by first | exact rfl | exact trivial, HA2.out⟩
    case measure => simp [intOf]; omega
   ·obtain rfl : k = t.size := by omega
    have HV : Hid (nmF t = dgV (t.data.toList.take t.size)) := by
     show _ = _
     have e : t.data.toList.take t.size = t.data.toList := List.take_of_length_le (by simp)
     have ha := HA.out
     rw [e] at ha ⊢
     exact if_pos ⟨by have := HSZ.out; omega, by have := HSZ.out; omega, ha⟩
    go_wp2_with fail
    go_ret
    exact ⟨by rw [HV.out]; rfl, rfl⟩
def whatT : ByteArray := ⟨#[119, 104, 97, 116]⟩
set_option maxRecDepth 100000 in
set_option maxHeartbeats 1000000 in
set_option linter.unusedSimpArgs false in
theorem catch_panic (b : Nat) (x : ByteArray) (older : List PanicEntry) (w : World) (hc : Bx w b 9 #[.string x]) :
    CallsD Tryz.prog 56 #[.pointer (some ⟨b, 0, none⟩)] (.panicking ({ v := .iface 87 (.agg #[]), recovered := false } :: older)) w fun e u' w' =>
     e = .returned (.tuple #[]) ∧ u' = .panicking ({ v := .iface 87 (.agg #[]), recovered := true } :: older) ∧ w' = (w.setCell ⟨b, 0, none⟩ (.string whatT)).alloc (.cells #[] 87) := by
  have HX := Lib.hid hc
  have hta : (Instr.typeAssert (.iface 87 (.agg #[])) 20 87 true).run Tryz.prog w = .ok (.tuple #[.agg #[], .bool true]) w := by kernel_rfl
  refine callsD_of_wpS Tryz.func56 rfl fun c₀ cs hu => ?_
  apply wpS_seq
  apply wpS_region
  simp [wpOpsS, go_sem, recoverD, hu, Tryz.ntmps56, Exit.thenS]
  refine wpS_of_wp ?_
  have hbl := HX.out.lt
  have hcc := HX.out.cell
  have hfr := HX.out.free
  go_wp2_with fail
  simp [bodyPostS, results, Tryz.results56, whatT]
set_option maxRecDepth 100000 in
set_option maxHeartbeats 1000000 in
set_option linter.unusedSimpArgs false in
theorem catch_idle (b : Nat) (w : World) :
    CallsD Tryz.prog 56 #[.pointer (some ⟨b, 0, none⟩)] .returning w fun e u' w' => e = .returned (.tuple #[]) ∧ u' = .returning ∧ w' = w := by
  refine callsD_of_wpS Tryz.func56 rfl fun c₀ cs hu => ?_
  apply wpS_seq
  apply wpS_region
  simp [wpOpsS, go_sem, recoverD, hu, Tryz.ntmps56, Exit.thenS]
  refine wpS_of_wp ?_
  go_wp2_with fail
  cases c₀
  simp_all [bodyPostS, results, Tryz.results56]
def cmW : Nat → ByteArray
  | 0 => ⟨#[108, 105, 110, 101]⟩
  | 1 => ⟨#[119, 97, 105, 116]⟩
  | 2 => ⟨#[100, 111]⟩
  | 3 => ⟨#[102, 105, 110, 105, 115, 104]⟩
  | 4 => ⟨#[119, 104, 101, 114, 101]⟩
  | 5 => ⟨#[110, 101, 120, 116]⟩
  | 6 => ⟨#[98, 111, 111, 107]⟩
  | 7 => ⟨#[102, 105, 116]⟩
  | _ => ⟨#[98, 117, 115, 121]⟩
def cmN : Nat → Int
  | 0 => 3
  | 1 => 2
  | 2 => 3
  | 3 => 1
  | 4 => 1
  | 5 => 1
  | 6 => 2
  | 7 => -1
  | _ => 2
def cmF : Nat → Nat
  | 0 => 96
  | 1 => 97
  | 2 => 98
  | 3 => 99
  | 4 => 100
  | 5 => 101
  | 6 => 102
  | 7 => 103
  | _ => 104
def cmC : Array Value := #[.string (cmW 0), .int .i64 (cmN 0), .func (.func (cmF 0)) #[] #[], .string (cmW 1), .int .i64 (cmN 1), .func (.func (cmF 1)) #[] #[], .string (cmW 2), .int .i64 (cmN 2), .func (.func (cmF 2)) #[] #[],
  .string (cmW 3), .int .i64 (cmN 3), .func (.func (cmF 3)) #[] #[], .string (cmW 4), .int .i64 (cmN 4), .func (.func (cmF 4)) #[] #[], .string (cmW 5), .int .i64 (cmN 5), .func (.func (cmF 5)) #[] #[],
  .string (cmW 6), .int .i64 (cmN 6), .func (.func (cmF 6)) #[] #[], .string (cmW 7), .int .i64 (cmN 7), .func (.func (cmF 7)) #[] #[], .string (cmW 8), .int .i64 (cmN 8), .func (.func (cmF 8)) #[] #[]]
theorem cmC_at {k : Nat} (h : k < 9) : cmC[k * 3]? = some (.string (cmW k)) ∧ cmC[k * 3 + 1]? = some (.int .i64 (cmN k)) ∧ cmC[k * 3 + 2]? = some (.func (.func (cmF k)) #[] #[]) := by
 match k, h with
 | 0, _ => exact ⟨rfl, rfl, rfl⟩
 | 1, _ => exact ⟨rfl, rfl, rfl⟩
 | 2, _ => exact ⟨rfl, rfl, rfl⟩
 | 3, _ => exact ⟨rfl, rfl, rfl⟩
 | 4, _ => exact ⟨rfl, rfl, rfl⟩
 | 5, _ => exact ⟨rfl, rfl, rfl⟩
 | 6, _ => exact ⟨rfl, rfl, rfl⟩
 | 7, _ => exact ⟨rfl, rfl, rfl⟩
 | 8, _ => exact ⟨rfl, rfl, rfl⟩
set_option maxRecDepth 100000 in
set_option maxHeartbeats 1000000 in
set_option linter.unusedSimpArgs false in
theorem commands_any (w : World) :
    Calls Tryz.prog 74 #[] w fun e w' => e = .returned (.slice (some ⟨w.heap.size, 0, none⟩) 9 9) ∧ w' = w.alloc (.cells cmC 119) := by
  go_enter Tryz.func74, Tryz.ntmps74
  go_wp2_with fail
  go_ret
  exact ⟨rfl, rfl⟩
set_option maxRecDepth 100000 in
set_option maxHeartbeats 1000000 in
set_option linter.unusedSimpArgs false in
theorem do1_any (z : ByteArray) (n : Int) (f : Value) (bx bw ow m c : Nat) (w0 : ByteArray) (w : World) (hm : 0 < m) (hx : Bx w bx 60 #[.slice (some ⟨bw, ow, none⟩) m c]) (h0 : w.cell? ⟨bw, ow, none⟩ = some (.string w0)) :
    Calls Tryz.prog 76 #[.agg #[.string z, .int .i64 n, f], .pointer (some ⟨bx, 0, none⟩)] w fun e w' => e = .returned (.bool (z.toList == w0.toList)) ∧ Below w.heap.size w w' := by
  have HX := Lib.hid hx
  have hbw : bw < w.heap.size := World.block_lt_of_cell? w ⟨bw, ow, none⟩ h0
  have H0 := Lib.hid h0
  clear hx h0
  go_enter Tryz.func76, Tryz.ntmps76
  go_wp2_with fail
  have HZ : Hid (Bx (w.alloc (.cells #[.string z, .int .i64 n, f] 119)) w.heap.size 119 #[.string z, .int .i64 n, f]) := Bx.new _ _ _
  have HB : Hid (Below w.heap.size w (w.alloc (.cells #[.string z, .int .i64 n, f] 119))) := below_all _ _
  have hq1 : (w.alloc (.cells #[.string z, .int .i64 n, f] 119)).drew.cell? ⟨w.heap.size, 0, none⟩ = some (.string z) := (HZ.out.below (Below.refl _ _).drew HZ.out.lt).cell 0
  have hq2 : (w.alloc (.cells #[.string z, .int .i64 n, f] 119)).drew.cell? ⟨bx, 0, none⟩ = some (.slice (some ⟨bw, ow, none⟩) m c) := (HX.out.below HB.out.drew HX.out.lt).cell 0
  have hq3 : (w.alloc (.cells #[.string z, .int .i64 n, f] 119)).drew.cell? ⟨bw, ow, none⟩ = some (.string w0) := by rw [HB.out.drew.cell (p := ⟨bw, ow, none⟩) hbw]; exact H0.out
  have hmi : (0 : Int) < (m : Int) := by omega
  refine wp_region_held_drew (S := fun W => W.cell? ⟨w.heap.size, 0, none⟩ = some (.string z) ∧ W.cell? ⟨bx, 0, none⟩ = some (.slice (some ⟨bw, ow, none⟩) m c) ∧ W.cell? ⟨bw, ow, none⟩ = some (.string w0)) (by kernel_rfl) ⟨hq1, hq2, hq3⟩ (fun hHeld => ?_)
  clear hq1 hq2 hq3
  refine tkR 0 ?_
  refine tkR 1 ?_
  refine tkR 2 ?_
  refine tkR 3 ?_
  refine tkR 4 ?_
  refine tkR 5 ?_
  refine tkR 6 ?_
  refine wpAnyH_done (by kernel_rfl) ?_ _
  go_wp2_with fail
  go_ret
  exact ⟨rfl, HB.out.drew⟩
def ixC (w0 : ByteArray) : Nat := (List.range 9).findIdx fun k => (cmW k).toList == w0.toList
def ixR (w0 : ByteArray) : Int := if ixC w0 < 9 then (ixC w0 : Int) else -1
theorem ixC_no {w0 : ByteArray} (h : ∀ j, j < 9 → ((cmW j).toList == w0.toList) = false) : ixC w0 = 9 := by
 unfold ixC
 rw [List.findIdx_eq_length_of_false]
 ·simp
 ·intro x hx
  exact h x (List.mem_range.1 hx)
theorem ixC_hit {w0 : ByteArray} {k : Nat} (hk : k < 9) (h1 : ((cmW k).toList == w0.toList) = true) (h2 : ∀ j, j < k → ((cmW j).toList == w0.toList) = false) : ixC w0 = k := by
 unfold ixC
 rw [List.findIdx_eq (by simpa using hk)]
 refine ⟨by simpa using h1, fun j hj => ?_⟩
 simpa using h2 j hj
set_option maxRecDepth 100000 in
set_option maxHeartbeats 1000000 in
set_option linter.unusedSimpArgs false in
theorem indexFunc_any (bt bx bw ow m c : Nat) (w0 : ByteArray) (w : World) (hm : 0 < m) (ht : Bx w bt 119 cmC) (hx : Bx w bx 60 #[.slice (some ⟨bw, ow, none⟩) m c]) (h0 : w.cell? ⟨bw, ow, none⟩ = some (.string w0)) :
    Calls Tryz.prog 75 #[.slice (some ⟨bt, 0, none⟩) 9 9, .func (.func 76) #[] #[.pointer (some ⟨bx, 0, none⟩)]] w fun e w' => e = .returned (.int .i64 (ixR w0)) ∧ Below w.heap.size w w' := by
  have HT := Lib.hid ht
  have HX := Lib.hid hx
  have hbw : bw < w.heap.size := World.block_lt_of_cell? w ⟨bw, ow, none⟩ h0
  have H0 := Lib.hid h0
  clear ht hx h0
  go_enter Tryz.func75, Tryz.ntmps75
  go_wp2_with fail
  go_loopw [5, 8] (fun _ i wr => ∃ k : Nat, k ≤ 9 ∧ i = .int .i64 k ∧ Hid (∀ j, j < k → ((cmW j).toList == w0.toList) = false) ∧ Hid (Below w.heap.size w wr)) (fun _ i _ => 9 - (intOf i).toNat)
  case atStart => exact ⟨0, Nat.zero_le _, rfl, fun j hj => by omega, Below.refl _ _⟩
  case round =>
   obtain ⟨k, hk, rfl, HJ, HI⟩ := hrel
   by_cases hlt : k < 9
   ·have hki : (k : Int) < 9 := by omega
    have HT2 := HT.out.below HI.out HT.out.lt
    obtain ⟨c0, c1, c2⟩ := cmC_at hlt
    have d0 := (HT2.cell (k * 3)).trans c0
    have d1 := (HT2.cell (k * 3 + 1)).trans c1
    have d2 := (HT2.cell (k * 3 + 2)).trans c2
    have HD := Lib.hid (do1_any (cmW k) (cmN k) (.func (.func (cmF k)) #[] #[]) bx bw ow m c w0 wr hm (HX.out.below HI.out HX.out.lt) (by rw [HI.out.cell (p := ⟨bw, ow, none⟩) hbw]; exact H0.out))
    have HH : Hid (((cmW k).toList == w0.toList) = true → ixC w0 = k) := fun h => ixC_hit hlt h HJ.out
    have HN : Hid (((cmW k).toList == w0.toList) = false → ∀ j, j < k + 1 → ((cmW j).toList == w0.toList) = false) := fun h j hj => by
     rcases Nat.lt_or_ge j k with q | q
     ·exact HJ.out j q
     ·obtain rfl : j = k := by omega
      exact h
    clear HT2 c0 c1 c2
    generalize ((cmW k).toList == w0.toList) = t at *
    generalize cmW k = z at *
    generalize cmN k = n at *
    generalize cmF k = f at *
    go_wp2_with fail
    refine HD.out.mono ?_
    rintro e w2 ⟨rfl, hb2⟩
    replace HI := Lib.hid (HI.out.trans (hb2.mono HI.out.size))
    clear hb2 HD d0 d1 d2
    cases t
    ·have HJ2 := Lib.hid (HN.out rfl)
     clear HN HH
     go_wp2_with fail
     go_roundw
     case rel => exact ⟨k + 1, by omega, by go_num, HJ2.out, HI.out⟩
     case measure => simp [intOf]; omega
    ·have HV : Hid (ixR w0 = k) := by show _ = _; unfold ixR; rw [HH.out rfl, if_pos hlt]
     clear HN HH
     go_wp2_with fail
     go_ret
     exact ⟨by rw [HV.out]; rfl, HI.out⟩
   ·obtain rfl : k = 9 := by omega
    have HV : Hid (ixR w0 = -1) := by show _ = _; unfold ixR; rw [ixC_no HJ.out]; rfl
    go_wp2_with fail
    go_ret
    exact ⟨by rw [HV.out]; rfl, HI.out⟩
end Go.Proofs.YtlkdmpfifpkpaaaGreatDoor

