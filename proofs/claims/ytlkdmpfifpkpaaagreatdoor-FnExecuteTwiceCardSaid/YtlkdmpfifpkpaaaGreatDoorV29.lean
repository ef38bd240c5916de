/-
  Parts of the proof: Zg Zh Ii. No condition.
-/
import Derived.Test.YtlkdmpfifpkpaaaGreatDoorV28
namespace Go.Proofs.YtlkdmpfifpkpaaaGreatDoor
open Go.RowKit
structure CqF (wb wr : World) (f1 f2 : Nat → Int) (s1 s2 : Option (Nat × Nat × Nat)) : Prop where
  r1 : ∀ g c n, s1 = some (g, c, n) → Own wr g c n 1 3 (fun i => .int .i64 (f1 i)) ∧ wb.heap.size ≤ g
  r2 : ∀ g c n, s2 = some (g, c, n) → Own wr g c n 1 3 (fun i => .int .i64 (f2 i)) ∧ wb.heap.size ≤ g
  d12 : ∀ g c n g' c' n', s1 = some (g, c, n) → s2 = some (g', c', n') → g ≠ g'
  bl : Below wb.heap.size wb wr
theorem CqF.start (wb : World) (f1 f2 : Nat → Int) : CqF wb wb.drew f1 f2 none none :=
 ⟨fun _ _ _ h => (by cases h), fun _ _ _ h => (by cases h), fun _ _ _ _ _ _ h => (by cases h), (Below.refl _ _).drew⟩
theorem CqF.make1 {wb wr : World} {f1 f2 : Nat → Int} {s2 : Option (Nat × Nat × Nat)} (h : CqF wb wr f1 f2 none s2) : CqF wb (wr.alloc (.cells #[] 3)) f1 f2 (some (wr.heap.size, 0, 0)) s2 := by
 have hz := h.bl.size
 refine ⟨fun g c n e => ?_, fun g c n e => ⟨(h.r2 g c n e).1.alloc _, (h.r2 g c n e).2⟩, fun g c n g' c' n' e e' => ?_, h.bl.alloc hz _⟩
 ·cases e; exact ⟨own_empty _ _ _ _, hz⟩
 ·cases e; have := (h.r2 _ _ _ e').1.lt; omega
theorem CqF.make2 {wb wr : World} {f1 f2 : Nat → Int} {s1 : Option (Nat × Nat × Nat)} (h : CqF wb wr f1 f2 s1 none) : CqF wb (wr.alloc (.cells #[] 3)) f1 f2 s1 (some (wr.heap.size, 0, 0)) := by
 have hz := h.bl.size
 refine ⟨fun g c n e => ⟨(h.r1 g c n e).1.alloc _, (h.r1 g c n e).2⟩, fun g c n e => ?_, fun g c n g' c' n' e e' => ?_, h.bl.alloc hz _⟩
 ·cases e; exact ⟨own_empty _ _ _ _, hz⟩
 ·cases e'; have := (h.r1 _ _ _ e).1.lt; omega
theorem CqF.app1 {wb wr wa : World} {f1 f2 : Nat → Int} {s2 : Option (Nat × Nat × Nat)} {g g1 c1 q : Nat} (h : CqF wb wr f1 f2 (some (g, 0, 0)) s2) (ho : Own wa g1 c1 q 1 3 (fun i => .int .i64 (f1 i))) (hg : wr.grownBy wa (some g)) (hd : (g1 = g ∧ c1 = 0) ∨ wr.heap.size ≤ g1) :
    CqF wb wa f1 f2 (some (g1, c1, q)) s2 := by
  have hz := h.bl.size
  have hg0 := (h.r1 _ _ _ rfl).2
  refine ⟨fun g c n e => ?_, fun g' c n e => ⟨(h.r2 g' c n e).1.picked hg (fun q => h.d12 _ _ _ _ _ _ rfl e q.symm), (h.r2 g' c n e).2⟩, fun g c n g' c' n' e e' => ?_, h.bl.trans (below_of_grown hg (by omega) hz)⟩
  ·cases e; exact ⟨ho, by omega⟩
  ·cases e
   have h1 := h.d12 _ _ _ _ _ _ rfl e'
   have h2 := (h.r2 _ _ _ e').1.lt
   omega
theorem CqF.app2 {wb wr wa : World} {f1 f2 : Nat → Int} {s1 : Option (Nat × Nat × Nat)} {g g2 c2 q : Nat} (h : CqF wb wr f1 f2 s1 (some (g, 0, 0))) (ho : Own wa g2 c2 q 1 3 (fun i => .int .i64 (f2 i))) (hg : wr.grownBy wa (some g)) (hd : (g2 = g ∧ c2 = 0) ∨ wr.heap.size ≤ g2) :
    CqF wb wa f1 f2 s1 (some (g2, c2, q)) := by
  have hz := h.bl.size
  have hg0 := (h.r2 _ _ _ rfl).2
  refine ⟨fun g' c n e => ⟨(h.r1 g' c n e).1.picked hg (fun q => h.d12 _ _ _ _ _ _ e rfl q), (h.r1 g' c n e).2⟩, fun g c n e => ?_, fun g' c n g'' c' n' e e' => ?_, h.bl.trans (below_of_grown hg (by omega) hz)⟩
  ·cases e; exact ⟨ho, by omega⟩
  ·cases e'
   have h1 := h.d12 _ _ _ _ _ _ e rfl
   have h2 := (h.r1 _ _ _ e).1.lt
   omega
theorem CqF.own1 {wb wr : World} {f1 f2 : Nat → Int} {s2 : Option (Nat × Nat × Nat)} {g c n : Nat} (h : CqF wb wr f1 f2 (some (g, c, n)) s2) : Own wr g c n 1 3 (fun i => .int .i64 (f1 i)) := (h.r1 _ _ _ rfl).1
theorem CqF.own2 {wb wr : World} {f1 f2 : Nat → Int} {s1 : Option (Nat × Nat × Nat)} {g c n : Nat} (h : CqF wb wr f1 f2 s1 (some (g, c, n))) : Own wr g c n 1 3 (fun i => .int .i64 (f2 i)) := (h.r2 _ _ _ rfl).1
set_option linter.unusedSimpArgs false in
set_option maxRecDepth 100000 in
set_option maxHeartbeats 2000000 in
theorem specPsAdd_any (ao : Option Addr) (c0 n : Nat) (t : Int) (b off n' c : Nat) (f : Nat → Int) (ps : List Pt) (w : World) (hk : PsOk n ps) (hv : PsV w ao ps) (hn' : n' ≤ 1000000) (hc : IC w b off n' f) (ht : 0 ≤ t ∧ t ≤ 1000000) :
    Calls Tryz.prog 62 #[.int .i64 n, .slice ao ps.length c0, .int .i64 t, .slice (some ⟨b, off, none⟩) n' c] w (AdR (adO ps n n' f t) ps f n w) := by
  have HK := Lib.hid hk
  have HV := Lib.hid hv
  have hn1 := hk.n1
  have hn5 := hk.n5
  have hlen := hk.len
  have HFT := Lib.hid (specPsFit_any ao c0 n t b off n' c f ps w hk hv hn' hc ht)
  have HT := Lib.hid ht
  clear hc hk hv ht
  cases ho : ftO ps n n' f t with
  | none =>
   have HN : Hid (adO ps n n' f t = none) := by show _ = _; unfold adO; rw [ho]; split <;> rfl
   rw [ho] at HFT
   clear ho
   go_enter Tryz.func62, Tryz.ntmps62
   go_wp2_with fail
   refine HFT.out.mono ?_
   rintro e w2 ⟨hb2, rfl⟩
   have HB2 := Lib.hid hb2
   have HB3 := Lib.hid (hb2.alloc hb2.size (.cells #[.slice none 0 0, .slice none 0 0] 41))
   clear hb2
   go_wp2_with fail
   go_ret2
   exact AdR.no HN.out rfl (HB3.out.alloc HB3.out.size _)
  | some l =>
   have HFO := Lib.hid ho
   rw [ho] at HFT
   clear ho
   go_enter Tryz.func62, Tryz.ntmps62
   go_wp2_with fail
   refine HFT.out.mono ?_
   rintro e w2 ⟨hb2, gI, cI, gO, cO, rfl, hgI, hgO, hI, hO⟩
   have HB2 := Lib.hid hb2
   have HCI := Lib.hid (hI.keep (below_all w2 (.cells #[.slice (some ⟨gI, 0, none⟩) n cI, .slice (some ⟨gO, 0, none⟩) n cO] 41)))
   have HCO := Lib.hid (hO.keep (below_all w2 (.cells #[.slice (some ⟨gI, 0, none⟩) n cI, .slice (some ⟨gO, 0, none⟩) n cO] 41)))
   have HB5 := Lib.hid (hb2.alloc hb2.size (.cells #[.slice (some ⟨gI, 0, none⟩) n cI, .slice (some ⟨gO, 0, none⟩) n cO] 41))
   have HX5 : Hid (Bx (w2.alloc (.cells #[.slice (some ⟨gI, 0, none⟩) n cI, .slice (some ⟨gO, 0, none⟩) n cO] 41)) w2.heap.size 41 #[.slice (some ⟨gI, 0, none⟩) n cI, .slice (some ⟨gO, 0, none⟩) n cO]) := Bx.new _ _ _
   clear hb2 hI hO
   go_wp2_with fail
   have HZ5 : Hid ((w2.alloc (.cells #[.slice (some ⟨gI, 0, none⟩) n cI, .slice (some ⟨gO, 0, none⟩) n cO] 41)).heap.size = w2.heap.size + 1) := by show _ = _; simp
   generalize w2.alloc (.cells #[.slice (some ⟨gI, 0, none⟩) n cI, .slice (some ⟨gO, 0, none⟩) n cO] 41) = w5 at *
   have hs5 := HB5.out.size
   have HA0 : Hid (AdM w w5 (w5.alloc (.cells #[] 41)) (w2.heap.size + 1) 0 0 ps) := by
    show AdM _ _ _ _ _ _ _
    rw [← HZ5.out]
    exact ⟨⟨fun _ => .nilIface, own_empty _ _ _ _, fun k hk => by omega⟩, Nat.le_refl _, below_all _ _⟩
   go_loopw [12, 13] (fun o i wr => ∃ j g c' : Nat, j ≤ ps.length ∧ i = .int .i64 j ∧ o = .slice (some ⟨g, 0, none⟩) j c' ∧ Hid (AdM w w5 wr g c' j ps)) (fun _ i _ => ps.length - (intOf i).toNat)
   case atStart => exact ⟨0, w2.heap.size + 1, 0, Nat.zero_le _, rfl, rfl, HA0⟩
   case round =>
    obtain ⟨j, g, c', hj, rfl, rfl, HA⟩ := hrel
    have hgz := HA.out.gz
    by_cases hlt : j < ps.length
    ·have hji : (j : Int) < (ps.length : Int) := by omega
     obtain ⟨lb, bi, ci, bo, co, e, hp⟩ := HV.out j hlt
     cases e
     have HPR := Lib.hid (hp.keep (HB5.out.trans (HA.out.bl.mono hs5)))
     obtain ⟨_, e1, e2, _⟩ := ptOk_parts (HK.out.ok j hlt)
     have hpp : ∃ p, p = pA ps j := ⟨_, rfl⟩
     obtain ⟨p, hpp⟩ := hpp
     have HPN : Hid (p.ni = n ∧ p.no = n) := by show _ ∧ _; rw [hpp]; omega
     have hpb : p.ni ≤ 5 ∧ p.no ≤ 5 := by have := HPN.out; omega
     have HPI : Hid (∀ W, Below wr.heap.size wr W → IC W bi 0 p.ni p.I) := fun W h => by rw [hpp]; exact (HPR.out.keep h).I
     have HPO : Hid (∀ W, Below wr.heap.size wr W → IC W bo 0 p.no p.O) := fun W h => by rw [hpp]; exact (HPR.out.keep h).O
     have HS5 : Hid (∀ W, Below w5.heap.size w5 W → W.cell? ⟨lb, j * 2, none⟩ = some (.slice (some ⟨bi, 0, none⟩) p.ni ci) ∧ W.cell? ⟨lb, j * 2 + 1, none⟩ = some (.slice (some ⟨bo, 0, none⟩) p.no co)) := fun W h => by rw [hpp]; exact (hp.keep HB5.out).s W h
     have HSS : Hid (∀ W, Below wr.heap.size wr W → W.cell? ⟨lb, j * 2, none⟩ = some (.slice (some ⟨bi, 0, none⟩) p.ni ci) ∧ W.cell? ⟨lb, j * 2 + 1, none⟩ = some (.slice (some ⟨bo, 0, none⟩) p.no co)) := fun W h => by rw [hpp]; exact HPR.out.s W h
     have HPP := Lib.hid hpp
     have HF0 : Hid (CqF wr wr.drew p.I p.O none none) := CqF.start wr p.I p.O
     clear hp hpp e1 e2
     go_wp2_with fail
     refine wp_region_held_drew (S := fun W => W.cell? ⟨lb, j * 2, none⟩ = some (.slice (some ⟨bi, 0, none⟩) p.ni ci) ∧ W.cell? ⟨lb, j * 2 + 1, none⟩ = some (.slice (some ⟨bo, 0, none⟩) p.no co)) (by kernel_rfl) (HSS.out _ HF0.out.bl) (fun hHeld => ?_)
     refine tkR 0 ?_
     refine tkR 2 ?_
     refine tkR 3 ?_
     refine tkR 4 ?_
     refine tkR 5 ?_
     refine tkR 6 ?_
     refine tkR 9 ?_
     refine tkR 10 ?_
     refine tkR 11 ?_
     refine tkR 12 ?_
     refine tkR 13 ?_
     generalize wr.drew = wd at *
     refine wpAnyH_ready (rs := [1, 8]) (by kernel_rfl) (by simp) ?_
     refine c1R (fun K hK => ?_) ?_
     ·go_simp
      have hf := HF0.out.make1
      try simp only [World.size_alloc] at hf
      have HF1 := Lib.hid hf
      clear hf
      refine hK.out _ _ (HSS.out _ HF1.out.bl) (fun hHeld => ?_)
      clear hK K
      try simp only [Act.put, List.setIfInBounds_toArray, List.set_cons_zero, List.set_cons_succ]
      refine wpAnyH_ready (rs := [7, 8]) (by kernel_rfl) (by simp) ?_
      refine c1R (fun K hK => ?_) ?_
      ·refine step_app elInt rfl (.tmp 33) (.tmp 38) rfl HF1.out.own1 rfl ⟨bi, 0, none⟩ p.ni ci rfl (ic_new (HPI.out _ HF1.out.bl)) (fun _ _ => rfl) (by unfold maxLen; omega) (by omega) ?_
       intro g1 c1 wa1 ho1 hg1 hd1
       rw [Nat.zero_add] at ho1
       have hf := HF1.out.app1 ho1 hg1 hd1
       try simp only [World.size_alloc] at hf
       have HF2 := Lib.hid hf
       clear hf
       clear ho1 hg1 hd1
       try simp only [Nat.zero_add]
       refine hK.out _ _ (HSS.out _ HF2.out.bl) (fun hHeld => ?_)
       clear hK K
       try simp only [Act.put, List.setIfInBounds_toArray, List.set_cons_zero, List.set_cons_succ]
       refine r1R 8 (fun K hK => ?_)
       go_simp
       have hf := HF2.out.make2
       try simp only [World.size_alloc] at hf
       have HF3 := Lib.hid hf
       clear hf
       refine hK.out _ _ (HSS.out _ HF3.out.bl) (fun hHeld => ?_)
       clear hK K
       try simp only [Act.put, List.setIfInBounds_toArray, List.set_cons_zero, List.set_cons_succ]
       refine r1R 14 (fun K hK => ?_)
       refine step_app elInt rfl (.tmp 40) (.tmp 45) rfl HF3.out.own2 rfl ⟨bo, 0, none⟩ p.no co rfl (ic_new (HPO.out _ HF3.out.bl)) (fun _ _ => rfl) (by unfold maxLen; omega) (by omega) ?_
       intro g2 c2 wa2 ho2 hg2 hd2
       rw [Nat.zero_add] at ho2
       have hf := HF3.out.app2 ho2 hg2 hd2
       try simp only [World.size_alloc] at hf
       have HF4 := Lib.hid hf
       clear hf
       clear ho2 hg2 hd2
       try simp only [Nat.zero_add]
       refine hK.out _ _ (HSS.out _ HF4.out.bl) (fun hHeld => ?_)
       clear hK K
       try simp only [Act.put, List.setIfInBounds_toArray, List.set_cons_zero, List.set_cons_succ]
       refine tkR 15 ?_
       have HPu : Hid (OwPs w.heap.size wa2 g c' j (pA ps)) := HA.out.ow.below HF4.out.bl
       have hb16 := HF4.out.bl
       have h16s := hb16.size
       have hg1w := (HF4.out.r1 _ _ _ rfl).2
       have hg2w := (HF4.out.r2 _ _ _ rfl).2
       have HQI : Hid (IC wa2 g1 0 p.ni p.I) := IC.of_own HF4.out.own1
       have HQO : Hid (IC wa2 g2 0 p.no p.O) := IC.of_own HF4.out.own2
       have hg1l := HF4.out.own1.lt
       have hg2l := HF4.out.own2.lt
       have HBQ := Lib.hid hb16
       have hgl := HA.out.ow.lt
       have hw5s := (HA.out.bl.trans (hb16.mono HA.out.bl.size)).size
       clear hb16
       obtain ⟨F, hF⟩ := HPu.out
       have HF := Lib.hid hF
       clear hF
       refine r1R 16 (fun K hK => ?_)
       go_simp
       skip
       refine oR hK ?_ (fun hHeld => ?_)
       ·try dsimp only
        exact HSS.out _ (HBQ.out.alloc HBQ.out.size _)
       clear hK K
       refine r1R 17 (fun K hK => ?_)
       refine step_pushR (w := wa2) elPt rfl (.tmp 32) (.tmp 48) rfl (f := psF F j (.slice (some ⟨g1, 0, none⟩) p.ni c1) (.slice (some ⟨g2, 0, none⟩) p.no c2)) (HF.out.1.congr (fun i hi => by unfold psF; rw [if_pos (by omega)])) rfl [.slice (some ⟨g1, 0, none⟩) p.ni c1, .slice (some ⟨g2, 0, none⟩) p.no c2] rfl (fun q hq => by
        unfold psF
        rw [if_neg (by omega)]
        by_cases e : q = 0
        ·subst e; rw [if_pos (by omega)]; rfl
        ·obtain rfl : q = 1 := by omega
         rw [if_neg (by omega)]; rfl) (fun q hq => by
        unfold psF
        rw [if_neg (by omega)]
        split <;> rfl) (by unfold maxLen; omega) (by omega) ?_
       intro g' c3 wa HAw hgr hd
       have HW3 := Lib.hid (OwPs.push (bi := g1) (bo := g2) (ci := c1) (co := c2) HF.out (by rw [← HPP.out]; exact HAw) hgr hd ⟨by omega, by omega⟩ ⟨by omega, by omega⟩ (by rw [← HPP.out]; exact HQI.out) (by rw [← HPP.out]; exact HQO.out) (by omega) (by omega) (fun k hk => by obtain ⟨_, d1, d2, _⟩ := ptOk_parts (HK.out.ok k (by omega)); omega))
       have HBL : Hid (Below w5.heap.size w5 wa) := (HA.out.bl.trans (HBQ.out.mono HA.out.bl.size)).trans (below_of_grown hgr (by omega) hw5s)
       have hgg : w5.heap.size ≤ g' := by rcases hd with ⟨rfl, _⟩ | hd <;> omega
       clear HAw hgr hd
       refine hK.out _ _ (HS5.out _ HBL.out) (fun hHeld => ?_)
       clear hK K
       try simp only [Act.put, List.setIfInBounds_toArray, List.set_cons_zero, List.set_cons_succ]
       refine tkR 18 ?_
       refine wpAnyH_done (by kernel_rfl) ?_ _
       clear hHeld
       go_wp2_with fail
       go_roundw
       case rel => exact ⟨j + 1, g', c3, by omega, by go_num, by simp, ⟨HW3.out, hgg, HBL.out⟩⟩
       case measure => simp [intOf]; omega
      ·refine c1R (fun K hK => ?_) ?_
       ·go_simp
        have hf := HF1.out.make2
        try simp only [World.size_alloc] at hf
        have HF2 := Lib.hid hf
        clear hf
        refine hK.out _ _ (HSS.out _ HF2.out.bl) (fun hHeld => ?_)
        clear hK K
        try simp only [Act.put, List.setIfInBounds_toArray, List.set_cons_zero, List.set_cons_succ]
        refine r1R 7 (fun K hK => ?_)
        refine step_app elInt rfl (.tmp 33) (.tmp 38) rfl HF2.out.own1 rfl ⟨bi, 0, none⟩ p.ni ci rfl (ic_new (HPI.out _ HF2.out.bl)) (fun _ _ => rfl) (by unfold maxLen; omega) (by omega) ?_
        intro g1 c1 wa1 ho1 hg1 hd1
        rw [Nat.zero_add] at ho1
        have hf := HF2.out.app1 ho1 hg1 hd1
        try simp only [World.size_alloc] at hf
        have HF3 := Lib.hid hf
        clear hf
        clear ho1 hg1 hd1
        try simp only [Nat.zero_add]
        refine hK.out _ _ (HSS.out _ HF3.out.bl) (fun hHeld => ?_)
        clear hK K
        try simp only [Act.put, List.setIfInBounds_toArray, List.set_cons_zero, List.set_cons_succ]
        refine r1R 14 (fun K hK => ?_)
        refine step_app elInt rfl (.tmp 40) (.tmp 45) rfl HF3.out.own2 rfl ⟨bo, 0, none⟩ p.no co rfl (ic_new (HPO.out _ HF3.out.bl)) (fun _ _ => rfl) (by unfold maxLen; omega) (by omega) ?_
        intro g2 c2 wa2 ho2 hg2 hd2
        rw [Nat.zero_add] at ho2
        have hf := HF3.out.app2 ho2 hg2 hd2
        try simp only [World.size_alloc] at hf
        have HF4 := Lib.hid hf
        clear hf
        clear ho2 hg2 hd2
        try simp only [Nat.zero_add]
        refine hK.out _ _ (HSS.out _ HF4.out.bl) (fun hHeld => ?_)
        clear hK K
        try simp only [Act.put, List.setIfInBounds_toArray, List.set_cons_zero, List.set_cons_succ]
        refine tkR 15 ?_
        have HPu : Hid (OwPs w.heap.size wa2 g c' j (pA ps)) := HA.out.ow.below HF4.out.bl
        have hb16 := HF4.out.bl
        have h16s := hb16.size
        have hg1w := (HF4.out.r1 _ _ _ rfl).2
        have hg2w := (HF4.out.r2 _ _ _ rfl).2
        have HQI : Hid (IC wa2 g1 0 p.ni p.I) := IC.of_own HF4.out.own1
        have HQO : Hid (IC wa2 g2 0 p.no p.O) := IC.of_own HF4.out.own2
        have hg1l := HF4.out.own1.lt
        have hg2l := HF4.out.own2.lt
        have HBQ := Lib.hid hb16
        have hgl := HA.out.ow.lt
        have hw5s := (HA.out.bl.trans (hb16.mono HA.out.bl.size)).size
        clear hb16
        obtain ⟨F, hF⟩ := HPu.out
        have HF := Lib.hid hF
        clear hF
        refine r1R 16 (fun K hK => ?_)
        go_simp
        skip
        refine oR hK ?_ (fun hHeld => ?_)
        ·try dsimp only
         exact HSS.out _ (HBQ.out.alloc HBQ.out.size _)
        clear hK K
        refine r1R 17 (fun K hK => ?_)
        refine step_pushR (w := wa2) elPt rfl (.tmp 32) (.tmp 48) rfl (f := psF F j (.slice (some ⟨g1, 0, none⟩) p.ni c1) (.slice (some ⟨g2, 0, none⟩) p.no c2)) (HF.out.1.congr (fun i hi => by unfold psF; rw [if_pos (by omega)])) rfl [.slice (some ⟨g1, 0, none⟩) p.ni c1, .slice (some ⟨g2, 0, none⟩) p.no c2] rfl (fun q hq => by
         unfold psF
         rw [if_neg (by omega)]
         by_cases e : q = 0
         ·subst e; rw [if_pos (by omega)]; rfl
         ·obtain rfl : q = 1 := by omega
          rw [if_neg (by omega)]; rfl) (fun q hq => by
         unfold psF
         rw [if_neg (by omega)]
         split <;> rfl) (by unfold maxLen; omega) (by omega) ?_
        intro g' c3 wa HAw hgr hd
        have HW3 := Lib.hid (OwPs.push (bi := g1) (bo := g2) (ci := c1) (co := c2) HF.out (by rw [← HPP.out]; exact HAw) hgr hd ⟨by omega, by omega⟩ ⟨by omega, by omega⟩ (by rw [← HPP.out]; exact HQI.out) (by rw [← HPP.out]; exact HQO.out) (by omega) (by omega) (fun k hk => by obtain ⟨_, d1, d2, _⟩ := ptOk_parts (HK.out.ok k (by omega)); omega))
        have HBL : Hid (Below w5.heap.size w5 wa) := (HA.out.bl.trans (HBQ.out.mono HA.out.bl.size)).trans (below_of_grown hgr (by omega) hw5s)
        have hgg : w5.heap.size ≤ g' := by rcases hd with ⟨rfl, _⟩ | hd <;> omega
        clear HAw hgr hd
        refine hK.out _ _ (HS5.out _ HBL.out) (fun hHeld => ?_)
        clear hK K
        try simp only [Act.put, List.setIfInBounds_toArray, List.set_cons_zero, List.set_cons_succ]
        refine tkR 18 ?_
        refine wpAnyH_done (by kernel_rfl) ?_ _
        clear hHeld
        go_wp2_with fail
        go_roundw
        case rel => exact ⟨j + 1, g', c3, by omega, by go_num, by simp, ⟨HW3.out, hgg, HBL.out⟩⟩
        case measure => simp [intOf]; omega
       ·exact AllReadyH.nil
     ·refine c1R (fun K hK => ?_) ?_
      ·go_simp
       have hf := HF0.out.make2
       try simp only [World.size_alloc] at hf
       have HF1 := Lib.hid hf
       clear hf
       refine hK.out _ _ (HSS.out _ HF1.out.bl) (fun hHeld => ?_)
       clear hK K
       try simp only [Act.put, List.setIfInBounds_toArray, List.set_cons_zero, List.set_cons_succ]
       refine r1R 1 (fun K hK => ?_)
       go_simp
       have hf := HF1.out.make1
       try simp only [World.size_alloc] at hf
       have HF2 := Lib.hid hf
       clear hf
       refine hK.out _ _ (HSS.out _ HF2.out.bl) (fun hHeld => ?_)
       clear hK K
       try simp only [Act.put, List.setIfInBounds_toArray, List.set_cons_zero, List.set_cons_succ]
       refine r1R 7 (fun K hK => ?_)
       refine step_app elInt rfl (.tmp 33) (.tmp 38) rfl HF2.out.own1 rfl ⟨bi, 0, none⟩ p.ni ci rfl (ic_new (HPI.out _ HF2.out.bl)) (fun _ _ => rfl) (by unfold maxLen; omega) (by omega) ?_
       intro g1 c1 wa1 ho1 hg1 hd1
       rw [Nat.zero_add] at ho1
       have hf := HF2.out.app1 ho1 hg1 hd1
       try simp only [World.size_alloc] at hf
       have HF3 := Lib.hid hf
       clear hf
       clear ho1 hg1 hd1
       try simp only [Nat.zero_add]
       refine hK.out _ _ (HSS.out _ HF3.out.bl) (fun hHeld => ?_)
       clear hK K
       try simp only [Act.put, List.setIfInBounds_toArray, List.set_cons_zero, List.set_cons_succ]
       refine r1R 14 (fun K hK => ?_)
       refine step_app elInt rfl (.tmp 40) (.tmp 45) rfl HF3.out.own2 rfl ⟨bo, 0, none⟩ p.no co rfl (ic_new (HPO.out _ HF3.out.bl)) (fun _ _ => rfl) (by unfold maxLen; omega) (by omega) ?_
       intro g2 c2 wa2 ho2 hg2 hd2
       rw [Nat.zero_add] at ho2
       have hf := HF3.out.app2 ho2 hg2 hd2
       try simp only [World.size_alloc] at hf
       have HF4 := Lib.hid hf
       clear hf
       clear ho2 hg2 hd2
       try simp only [Nat.zero_add]
       refine hK.out _ _ (HSS.out _ HF4.out.bl) (fun hHeld => ?_)
       clear hK K
       try simp only [Act.put, List.setIfInBounds_toArray, List.set_cons_zero, List.set_cons_succ]
       refine tkR 15 ?_
       have HPu : Hid (OwPs w.heap.size wa2 g c' j (pA ps)) := HA.out.ow.below HF4.out.bl
       have hb16 := HF4.out.bl
       have h16s := hb16.size
       have hg1w := (HF4.out.r1 _ _ _ rfl).2
       have hg2w := (HF4.out.r2 _ _ _ rfl).2
       have HQI : Hid (IC wa2 g1 0 p.ni p.I) := IC.of_own HF4.out.own1
       have HQO : Hid (IC wa2 g2 0 p.no p.O) := IC.of_own HF4.out.own2
       have hg1l := HF4.out.own1.lt
       have hg2l := HF4.out.own2.lt
       have HBQ := Lib.hid hb16
       have hgl := HA.out.ow.lt
       have hw5s := (HA.out.bl.trans (hb16.mono HA.out.bl.size)).size
       clear hb16
       obtain ⟨F, hF⟩ := HPu.out
       have HF := Lib.hid hF
       clear hF
       refine r1R 16 (fun K hK => ?_)
       go_simp
       skip
       refine oR hK ?_ (fun hHeld => ?_)
       ·try dsimp only
        exact HSS.out _ (HBQ.out.alloc HBQ.out.size _)
       clear hK K
       refine r1R 17 (fun K hK => ?_)
       refine step_pushR (w := wa2) elPt rfl (.tmp 32) (.tmp 48) rfl (f := psF F j (.slice (some ⟨g1, 0, none⟩) p.ni c1) (.slice (some ⟨g2, 0, none⟩) p.no c2)) (HF.out.1.congr (fun i hi => by unfold psF; rw [if_pos (by omega)])) rfl [.slice (some ⟨g1, 0, none⟩) p.ni c1, .slice (some ⟨g2, 0, none⟩) p.no c2] rfl (fun q hq => by
        unfold psF
        rw [if_neg (by omega)]
        by_cases e : q = 0
        ·subst e; rw [if_pos (by omega)]; rfl
        ·obtain rfl : q = 1 := by omega
         rw [if_neg (by omega)]; rfl) (fun q hq => by
        unfold psF
        rw [if_neg (by omega)]
        split <;> rfl) (by unfold maxLen; omega) (by omega) ?_
       intro g' c3 wa HAw hgr hd
       have HW3 := Lib.hid (OwPs.push (bi := g1) (bo := g2) (ci := c1) (co := c2) HF.out (by rw [← HPP.out]; exact HAw) hgr hd ⟨by omega, by omega⟩ ⟨by omega, by omega⟩ (by rw [← HPP.out]; exact HQI.out) (by rw [← HPP.out]; exact HQO.out) (by omega) (by omega) (fun k hk => by obtain ⟨_, d1, d2, _⟩ := ptOk_parts (HK.out.ok k (by omega)); omega))
       have HBL : Hid (Below w5.heap.size w5 wa) := (HA.out.bl.trans (HBQ.out.mono HA.out.bl.size)).trans (below_of_grown hgr (by omega) hw5s)
       have hgg : w5.heap.size ≤ g' := by rcases hd with ⟨rfl, _⟩ | hd <;> omega
       clear HAw hgr hd
       refine hK.out _ _ (HS5.out _ HBL.out) (fun hHeld => ?_)
       clear hK K
       try simp only [Act.put, List.setIfInBounds_toArray, List.set_cons_zero, List.set_cons_succ]
       refine tkR 18 ?_
       refine wpAnyH_done (by kernel_rfl) ?_ _
       clear hHeld
       go_wp2_with fail
       go_roundw
       case rel => exact ⟨j + 1, g', c3, by omega, by go_num, by simp, ⟨HW3.out, hgg, HBL.out⟩⟩
       case measure => simp [intOf]; omega
      ·exact AllReadyH.nil
    ·obtain rfl : j = ps.length := by omega
     have HXR := Lib.hid (HX5.out.below HA.out.bl HX5.out.lt)
     have hxc := HXR.out.cell
     have hgl := HA.out.ow.lt
     have hw5s := HA.out.bl.size
     have HI6 := Lib.hid (HCI.out.keep HA.out.bl)
     have HO6 := Lib.hid (HCO.out.keep HA.out.bl)
     have hbi := World.block_lt_of_cell? w5 ⟨gI, 0 + 0, none⟩ (HCI.out 0 (by omega))
     have hbo := World.block_lt_of_cell? w5 ⟨gO, 0 + 0, none⟩ (HCO.out 0 (by omega))
     dsimp only at hbi hbo
     have HNW := Lib.hid (pA_new ps (ftP l f n))
     have HWW := HA.out.ow.congr (P' := pA (ps ++ [ftP l f n])) (fun k hk => pA_old hk)
     obtain ⟨F, hF⟩ := HWW
     have HF := Lib.hid hF
     clear hF
     go_wp2_with (at_builtin; refine wpList_push elPt rfl (.tmp 50) (.tmp 52) (by rfl) (f := psF F ps.length (.slice (some ⟨gI, 0, none⟩) n cI) (.slice (some ⟨gO, 0, none⟩) n cO)) (HF.out.1.congr (fun i hi => by unfold psF; rw [if_pos (by omega)])) (by rfl) [.slice (some ⟨gI, 0, none⟩) n cI, .slice (some ⟨gO, 0, none⟩) n cO] (by rfl) (fun q hq => by
        unfold psF
        rw [if_neg (by omega)]
        by_cases e : q = 0
        ·subst e; rw [if_pos (by omega)]; rfl
        ·obtain rfl : q = 1 := by omega
         rw [if_neg (by omega)]; rfl) (fun q hq => by
        unfold psF
        rw [if_neg (by omega)]
        split <;> rfl) (by unfold maxLen; omega) (by omega) ?_; intro g' c3 wa HAw hgr hd; have HW3 := Lib.hid (OwPs.push (ci := cI) (co := cO) (bi := gI) (bo := gO) HF.out (by rw [HNW.out]; exact HAw) hgr hd ⟨by omega, by omega⟩ ⟨by omega, by omega⟩ (by rw [HNW.out]; exact HI6.out) (by rw [HNW.out]; exact HO6.out) (by omega) (by omega) (fun k hk => by rw [← pA_old hk]; obtain ⟨_, d1, d2, _⟩ := ptOk_parts (HK.out.ok k (by omega)); omega)); have HBL := Lib.hid (HA.out.bl.trans (below_of_grown hgr (by omega) hw5s)); have hgg : w5.heap.size ≤ g' := (by rcases hd with ⟨rfl, _⟩ | hd <;> omega); clear HAw hgr hd)
     by_cases h8 : ps.length = 8
     ·have HN : Hid (adO ps n n' f t = none) := by show _ = _; unfold adO; rw [if_pos h8]
      refine (specPsValid_many (some ⟨g', 0, none⟩) c3 n (ps.length + 1) wa (by omega) (by omega) (by omega)).mono ?_
      rintro e w7 ⟨rfl, hb7⟩
      have HB7 := Lib.hid (HB5.out.trans ((HBL.out.trans (hb7.mono HBL.out.size)).mono hs5))
      clear hb7
      go_wp2_with fail
      go_ret2
      exact AdR.no HN.out rfl (HB7.out.alloc HB7.out.size _)
     ·have HN : Hid (adO ps n n' f t = some l) := by show _ = _; unfold adO; rw [if_neg h8, HFO.out]
      have hnn : n' = n := by
       have h := HFO.out
       unfold ftO at h
       split at h
       ·rename_i hr
        have := (rvB_parts hr).2.1
        omega
       ·cases h
      have HPK : Hid (PsOk n (ps ++ [ftP l f n])) := by
       have h := HN.out
       rw [hnn] at h
       exact psOk_add HK.out HT.out h
      have HPS : Hid (PsV wa (some ⟨g', 0, none⟩) (ps ++ [ftP l f n])) := OwPs.psv (z := w.heap.size) (c := c3) (by rw [List.length_append]; exact HW3.out)
      have hq := specPsValid_ok (some ⟨g', 0, none⟩) c3 n (ps ++ [ftP l f n]) wa HPK.out HPS.out
      rw [show (ps ++ [ftP l f n]).length = ps.length + 1 by simp] at hq
      refine hq.mono ?_
      rintro e w7 ⟨rfl, hb7⟩
      have HB7 := Lib.hid (HB5.out.trans ((HBL.out.trans (hb7.mono HBL.out.size)).mono hs5))
      have HW7 := Lib.hid (HW3.out.below hb7)
      clear hb7 hq
      go_wp2_with fail
      go_ret2
      refine ⟨HB7.out, ?_⟩
      rw [HN.out]
      exact ⟨g', c3, rfl, by omega, HW7.out⟩
set_option linter.unusedSimpArgs false in
set_option maxRecDepth 100000 in
set_option maxHeartbeats 4000000 in
theorem specRegOf_any (bm cm bt ct : Nat) (ms : List (Int × ByteArray)) (ts : Nat → Int) (k : Int) (w : World) (hn : ms.length ≤ 1000000) (hm : MvsC w bm 0 ms.length (mvM ms) (mvS ms)) (ht : IC w bt 0 ms.length ts) :
    Calls Tryz.prog 113 #[.slice (some ⟨bm, 0, none⟩) ms.length cm, .slice (some ⟨bt, 0, none⟩) ms.length ct, .int .i64 k] w (RuRes (roL ms ts k) (rgV (roF ms ts k ms.length)) w) := by
  have HC : Hid (∀ W, Below w.heap.size w W → ∀ j, j < ms.length → W.cell? ⟨bt, j, none⟩ = some (.int .i64 (ts j)) ∧ W.cell? ⟨bm, j * 2, none⟩ = some (.int .i64 (mvM ms j)) ∧ W.cell? ⟨bm, j * 2 + 1, none⟩ = some (.string (mvS ms j))) := fun W h j hj => by
   have h1 := (ht.keep h) j hj
   obtain ⟨h2, h3⟩ := (hm.keep h) j hj
   simp only [Nat.zero_add] at h1 h2 h3
   exact ⟨h1, h2, h3⟩
  have HI0 : Hid (RoI w (w.alloc (.cells #[] 155)) w.heap.size 0 []) := ⟨own_empty _ _ _ _, Nat.le_refl _, below_all _ _⟩
  clear hm ht
  go_enter Tryz.func113, Tryz.ntmps113
  go_wp2_with fail
  go_loopw [8, 9] (fun o i wr => ∃ j g cap : Nat, j ≤ ms.length ∧ i = .int .i64 j ∧ o = .slice (some ⟨g, 0, none⟩) (roF ms ts k j).length cap ∧ Hid (RoI w wr g cap (roF ms ts k j))) (fun _ i _ => ms.length - (intOf i).toNat)
  case atStart => exact ⟨0, w.heap.size, 0, Nat.zero_le _, rfl, rfl, HI0⟩
  case round =>
   obtain ⟨j, g, cap, hj, rfl, rfl, HI⟩ := hrel
   by_cases hlt : j < ms.length
   ·have hji : (j : Int) < (ms.length : Int) := by omega
    obtain ⟨ct0, c0, c1⟩ := HC.out _ HI.out.bl j hlt
    have HN : Hid (roF ms ts k (j + 1) = if mvM ms j = k then roF ms ts k j ++ [(ts j, mvS ms j)] else roF ms ts k j) := rfl
    have hxl := roF_len ms ts k j
    have HCT : Hid (∀ W, Below w.heap.size w W → W.cell? ⟨bt, j, none⟩ = some (.int .i64 (ts j)) ∧ W.cell? ⟨bm, j * 2 + 1, none⟩ = some (.string (mvS ms j))) := fun W h => ⟨(HC.out W h j hlt).1, (HC.out W h j hlt).2.2⟩
    generalize mvM ms j = m at *
    generalize mvS ms j = l at *
    generalize ts j = t at *
    generalize roF ms ts k j = xs at *
    have hgl : g < wr.heap.size := Own.lt HI.out.ow
    by_cases hmk : m = k
    ·have hb : (m == k) = true := beq_iff_eq.2 hmk
     have HN2 : Hid (roF ms ts k (j + 1) = xs ++ [(t, l)]) := by show _ = _; rw [HN.out, if_pos hmk]
     clear hmk HN
     go_wp2_with fail
     have HBd : Hid (Below wr.heap.size wr wr.drew) := (Below.refl _ _).drew
     have HCC : Hid (∀ W, Below wr.heap.size wr W → W.cell? ⟨bt, j, none⟩ = some (.int .i64 t) ∧ W.cell? ⟨bm, j * 2 + 1, none⟩ = some (.string l)) := fun W h => HCT.out W (HI.out.bl.trans (h.mono HI.out.bl.size))
     have HO : Hid (Own wr.drew g cap xs.length 2 155 (mvF (nM (xs ++ [(t, l)])) (nL (xs ++ [(t, l)])))) := Own.below (B := wr.heap.size) (OwnN.ext HI.out.ow (t, l)) (Below.refl _ _).drew (Own.lt HI.out.ow)
     have HNN : Hid (∀ q, q < 2 → [Value.int .i64 t, .string l][q]? = some (mvF (nM (xs ++ [(t, l)])) (nL (xs ++ [(t, l)])) (xs.length * 2 + q))) := ntF_new xs (t, l)
     refine wp_region_held_drew (S := fun W => W.cell? ⟨bt, j, none⟩ = some (.int .i64 t) ∧ W.cell? ⟨bm, j * 2 + 1, none⟩ = some (.string l)) (by kernel_rfl) (HCC.out _ HBd.out) (fun hHeld => ?_)
     refine tkR 0 ?_
     refine tkR 1 ?_
     refine tkR 2 ?_
     refine tkR 3 ?_
     refine tkR 4 ?_
     refine tkR 5 ?_
     refine tkR 6 ?_
     refine tkR 7 ?_
     refine tkR 8 ?_
     refine tkR 9 ?_
     refine tkR 10 ?_
     refine r1R 11 (fun K hK => ?_)
     go_simp
     skip
     refine oR hK ?_ (fun hHeld => ?_)
     ·try dsimp only
      exact HCC.out _ (HBd.out.alloc HBd.out.size _)
     clear hK K
     refine r1R 12 (fun K hK => ?_)
     refine step_pushR (w := wr.drew) elMv rfl (.tmp 31) (.tmp 42) rfl HO.out rfl [.int .i64 t, .string l] rfl HNN.out (fun _ _ => mvF_one _ _ _) (by unfold maxLen; omega) (by omega) ?_
     intro g' c' wa HA hgr hd
     have HI2 : Hid (RoI w wa g' c' (xs ++ [(t, l)])) := (HI.out.keep HBd.out).push HA hgr (hd.imp And.left Nat.le_of_lt)
     obtain ⟨hm0, hm1⟩ := HCT.out _ HI2.out.bl
     clear HA hgr hd
     refine oR hK ?_ (fun hHeld => ?_)
     ·try dsimp only
      go_keep
     clear hK K
     refine tkR 13 ?_
     refine wpAnyH_done (by kernel_rfl) ?_ _
     go_wp2_with fail
     go_roundw
     case rel => exact ⟨j + 1, g', c', by omega, by go_num, by rw [HN2.out]; simp, by rw [HN2.out]; exact HI2.out⟩
     case measure => simp [intOf]; omega
    ·have hb : (m == k) = false := beq_eq_false_iff_ne.2 hmk
     have HN2 : Hid (roF ms ts k (j + 1) = xs) := by show _ = _; rw [HN.out, if_neg hmk]
     clear hmk HN
     go_wp2_with fail
     go_roundw
     case rel => exact ⟨j + 1, g, cap, by omega, by go_num, by rw [HN2.out], by rw [HN2.out]; exact HI.out⟩
     case measure => simp [intOf]; omega
   ·obtain rfl : j = ms.length := by omega
    have HV := Lib.hid (specValid_any g 0 cap (roF ms ts k ms.length) wr (by have := roF_len ms ts k ms.length; omega) (OwnN.nt HI.out.ow))
    have hbs := HI.out.bl.size
    have HL0 : Hid (roL ms ts k = if rgV (roF ms ts k ms.length) = true then roF ms ts k ms.length else []) := rfl
    generalize roF ms ts k ms.length = xs at *
    cases hv : rgV xs
    ·rw [hv] at HV
     have HL : Hid (roL ms ts k = []) := by show _ = _; rw [HL0.out, hv]; rfl
     have HVX := Lib.hid hv
     clear hv
     go_wp2_with fail
     refine HV.out.mono ?_
     rintro e w2 ⟨rfl, rfl⟩
     go_wp2_with fail
     go_ret2
     exact ⟨⟨wr.heap.size, 0, by rw [HL.out, HVX.out]; rfl, by rw [HL.out]; exact own_empty _ _ _ _, hbs⟩, HI.out.bl.alloc hbs _⟩
    ·rw [hv] at HV
     have HL : Hid (roL ms ts k = xs) := by show _ = _; rw [HL0.out, hv]; rfl
     have HVX := Lib.hid hv
     clear hv
     go_wp2_with fail
     refine HV.out.mono ?_
     rintro e w2 ⟨rfl, rfl⟩
     go_wp2_with fail
     go_ret2
     exact ⟨⟨g, cap, by rw [HL.out, HVX.out]; rfl, by rw [HL.out]; exact HI.out.ow, HI.out.gz⟩, HI.out.bl⟩
theorem jn_next (tx : Nat → ByteArray) {j : Nat} (h : 0 < j) : jnT tx (j + 1) = jnT tx j ++ ⟨#[32]⟩ ++ tx j := ba_ext (by rw [jn_snoc tx j h]; simp)
theorem jn_first (tx : Nat → ByteArray) {j : Nat} (h : ¬ 0 < j) : jnT tx (j + 1) = jnT tx j ++ tx j := by
 obtain rfl : j = 0 := by omega
 have h0 : jnT tx 0 = ⟨#[]⟩ := rfl
 rw [h0]
 refine ba_ext ?_
 unfold jnT
 show (Lib.join [_] [32]).toArray.toList = _
 rw [Lib.join_one, List.toList_toArray]
 simp
end Go.Proofs.YtlkdmpfifpkpaaaGreatDoor

