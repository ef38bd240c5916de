/-
  Parts of the proof: Zt Zw. No condition.
-/
import Derived.Test.YtlkdmpfifpkpaaaGreatDoorV35
import Derived.Test.YtlkdmpfifpkpaaaGreatDoorV38
namespace Go.Proofs.YtlkdmpfifpkpaaaGreatDoor
open Go.RowKit
theorem OwPs.fr {S : Nat → Prop} {z : Nat} {w w' : World} {g c q : Nat} {P : Nat → Pt} (h : OwPs z w g c q P) (hf : Fr S w w') (hS : ∀ b, S b → b < z) (hg : z ≤ g) (hn : ∀ k, k < q → 0 < (P k).ni ∧ 0 < (P k).no) : OwPs z w' g c q P := by
 obtain ⟨F, h1, h2⟩ := h
 refine ⟨F, h1.fr hf (fun e => by have := hS _ e; omega), fun k hk => ?_⟩
 obtain ⟨bi, ci, bo, co, e1, e2, e3, e4, e5, e6⟩ := h2 k hk
 obtain ⟨p1, p2⟩ := hn k hk
 have hbi : bi < w.heap.size := World.block_lt_of_cell? w ⟨bi, 0 + 0, none⟩ (e5 0 p1)
 have hbo : bo < w.heap.size := World.block_lt_of_cell? w ⟨bo, 0 + 0, none⟩ (e6 0 p2)
 refine ⟨bi, ci, bo, co, e1, e2, e3, e4, fun i hi => ?_, fun i hi => ?_⟩
 ·rw [hf.cellN hbi (fun e => by have := hS _ e; omega)]; exact e5 i hi
 ·rw [hf.cellN hbo (fun e => by have := hS _ e; omega)]; exact e6 i hi
theorem OwPs.low {z z' : Nat} {w : World} {g c q : Nat} {P : Nat → Pt} (h : OwPs z w g c q P) (hz : z' ≤ z) : OwPs z' w g c q P := by
 obtain ⟨F, h1, h2⟩ := h
 refine ⟨F, h1, fun k hk => ?_⟩
 obtain ⟨bi, ci, bo, co, e1, e2, e3, e4, e5, e6⟩ := h2 k hk
 exact ⟨bi, ci, bo, co, e1, e2, ⟨by omega, e3.2⟩, ⟨by omega, e4.2⟩, e5, e6⟩
theorem OwPs.psvQ {z : Nat} {w : World} {g c : Nat} {ps : List Pt} {q : Nat} (h : OwPs z w g c q (pA ps)) (e : ps.length = q) : PsV w (some ⟨g, 0, none⟩) ps := fun k hk => by
 obtain ⟨bi, ci, bo, co, hp⟩ := h.at (k := k) (by omega)
 exact ⟨g, bi, ci, bo, co, rfl, hp⟩
set_option linter.unusedSimpArgs false in
set_option maxRecDepth 100000 in
set_option maxHeartbeats 8000000 in
theorem l9Line_fit (g1 c1 g2 c2 gm cm gt ct c0 bw cw q : Nat) (ao : Option Addr) (st : Ses) (ps : List Pt) (tx : Nat → ByteArray) (w : World) (hM : SpM w g1 g2 gm gt ao st ps) (hk : SesOk st) (hp : PsOk st.x.n ps) (hq : q < 1000000) (hw : ∀ i, i < q + 1 → w.cell? ⟨bw, i, none⟩ = some (.string (tx i))) (hc : ixC (tx 0) = 7) (hn : q = st.x.n + 1) :
    Calls Tryz.prog 41 #[.agg #[.slice (some ⟨g1, 0, none⟩) st.x.n c1, .slice (some ⟨g2, 0, none⟩) st.x.m c2, .slice (some ⟨gm, 0, none⟩) st.ms.length cm, .slice (some ⟨gt, 0, none⟩) st.ts.length ct, .int .i64 st.tm, .slice ao ps.length c0], .slice (some ⟨bw, 0, none⟩) (q + 1) cw] w (LiR st ps ao (stpX st ps tx (q + 1) 7) (sayX st ps tx (q + 1) 7) w) := by
  have hy := wd_y7 hc
  have hxn := hk.xn
  have hn1 := hp.n1
  have hn5 := hp.n5
  have hplen := hp.len
  have hcw : IntKind.i64.wrap (1 + (st.x.n : Int)) = 1 + (st.x.n : Int) := IntWalk.i64_in _ (by omega)
  have hqb : ((q : Int) == 1 + (st.x.n : Int)) = true := beq_iff_eq.2 (by omega)
  have hq1 : (0 : Int) < (q : Int) := by omega
  have hq1n : 0 < q := by omega
  have hq2 : (1 : Int) ≤ (q : Int) := by omega
  have hq2n : 1 ≤ q := by omega
  have HQ : Hid (q - 1 = st.x.n) := by show _ = _; omega
  have HQ1 : Hid (2 ≤ q) := by show _ ≤ _; omega
  have HSY : Hid (sayX st ps tx (q + 1) 7 = match adO ps st.x.n st.x.n (fun i => nmF (tx (i + 2))) (nmF (tx 1)) with | some l => spT (ftP l (fun i => nmF (tx (i + 2))) st.x.n).I st.x.n | none => noT) := if_pos (by omega)
  have HST : Hid (stpX st ps tx (q + 1) 7 = (adO ps st.x.n st.x.n (fun i => nmF (tx (i + 2))) (nmF (tx 1))).map fun l => (st, ps ++ [ftP l (fun i => nmF (tx (i + 2))) st.x.n])) := if_pos (by omega)
  have HFT : Hid (∀ W g n' c, Below w.heap.size w W → n' = st.x.n → IC W g 1 n' (fun i => nmF (tx (i + 2))) → Calls Tryz.prog 62 #[.int .i64 st.x.n, .slice ao ps.length c0, .int .i64 (nmF (tx 1)), .slice (some ⟨g, 1, none⟩) n' c] W (AdR (adO ps st.x.n st.x.n (fun i => nmF (tx (i + 2))) (nmF (tx 1))) ps (fun i => nmF (tx (i + 2))) st.x.n W)) := fun W g n' c hb e hI => by
   subst e
   exact specPsAdd_any ao c0 _ (nmF (tx 1)) g 1 _ c _ ps W hp ((hM.keep hb).pv) (by omega) hI (by have := nmF_bd (tx 1); omega)
  have HBD : Hid (∀ l, adO ps st.x.n st.x.n (fun i => nmF (tx (i + 2))) (nmF (tx 1)) = some l → ∀ i, i < st.x.n → 0 ≤ (ftP l (fun i => nmF (tx (i + 2))) st.x.n).I i ∧ (ftP l (fun i => nmF (tx (i + 2))) st.x.n).I i ≤ 1000000) := fun l hl i hi => by
   have h := adO_bd (by have := nmF_bd (tx 1); omega) hl i hi
   omega
  clear hc hn
  generalize hF : (fun i => nmF (tx (i + 2))) = F at *
  have HB0 : Hid (Below w.heap.size w ((w.alloc (.cells #[.slice (some ⟨g1, 0, none⟩) st.x.n c1, .slice (some ⟨g2, 0, none⟩) st.x.m c2, .slice (some ⟨gm, 0, none⟩) st.ms.length cm, .slice (some ⟨gt, 0, none⟩) st.ts.length ct, .int .i64 st.tm, .slice ao ps.length c0] 68)).alloc (.cells #[.slice none 0 0, .slice none 0 0, .slice none 0 0, .slice none 0 0, .int .i64 0, .slice none 0 0] 68))) := (below_all _ _).alloc (by simp) _
  have HX2 : Hid (Bx ((w.alloc (.cells #[.slice (some ⟨g1, 0, none⟩) st.x.n c1, .slice (some ⟨g2, 0, none⟩) st.x.m c2, .slice (some ⟨gm, 0, none⟩) st.ms.length cm, .slice (some ⟨gt, 0, none⟩) st.ts.length ct, .int .i64 st.tm, .slice ao ps.length c0] 68)).alloc (.cells #[.slice none 0 0, .slice none 0 0, .slice none 0 0, .slice none 0 0, .int .i64 0, .slice none 0 0] 68)) w.heap.size 68 #[.slice (some ⟨g1, 0, none⟩) st.x.n c1, .slice (some ⟨g2, 0, none⟩) st.x.m c2, .slice (some ⟨gm, 0, none⟩) st.ms.length cm, .slice (some ⟨gt, 0, none⟩) st.ts.length ct, .int .i64 st.tm, .slice ao ps.length c0]) := (Bx.new _ _ _).alloc _
  have HX4 : Hid (Bx ((w.alloc (.cells #[.slice (some ⟨g1, 0, none⟩) st.x.n c1, .slice (some ⟨g2, 0, none⟩) st.x.m c2, .slice (some ⟨gm, 0, none⟩) st.ms.length cm, .slice (some ⟨gt, 0, none⟩) st.ts.length ct, .int .i64 st.tm, .slice ao ps.length c0] 68)).alloc (.cells #[.slice none 0 0, .slice none 0 0, .slice none 0 0, .slice none 0 0, .int .i64 0, .slice none 0 0] 68)) (w.heap.size + 1) 68 #[.slice none 0 0, .slice none 0 0, .slice none 0 0, .slice none 0 0, .int .i64 0, .slice none 0 0]) := Bx.newAt (by simp)
  have HZ0 : Hid (((w.alloc (.cells #[.slice (some ⟨g1, 0, none⟩) st.x.n c1, .slice (some ⟨g2, 0, none⟩) st.x.m c2, .slice (some ⟨gm, 0, none⟩) st.ms.length cm, .slice (some ⟨gt, 0, none⟩) st.ts.length ct, .int .i64 st.tm, .slice ao ps.length c0] 68)).alloc (.cells #[.slice none 0 0, .slice none 0 0, .slice none 0 0, .slice none 0 0, .int .i64 0, .slice none 0 0] 68)).heap.size = w.heap.size + 2) := by show _ = _; simp
  have HM := Lib.hid hM
  have HK := Lib.hid hk
  have HP := Lib.hid hp
  have hbl : bw < w.heap.size := World.block_lt_of_cell? w ⟨bw, 0, none⟩ (hw 0 (by omega))
  have HW : Hid (∀ W, Below w.heap.size w W → ∀ i, i < q + 1 → W.cell? ⟨bw, i, none⟩ = some (.string (tx i))) := fun W h i hi => by rw [h.cell (p := ⟨bw, i, none⟩) hbl]; exact hw i hi
  have HNB := Lib.hid (l9Numbers_any bw cw q tx ((w.alloc (.cells #[.slice (some ⟨g1, 0, none⟩) st.x.n c1, .slice (some ⟨g2, 0, none⟩) st.x.m c2, .slice (some ⟨gm, 0, none⟩) st.ms.length cm, .slice (some ⟨gt, 0, none⟩) st.ts.length ct, .int .i64 st.tm, .slice ao ps.length c0] 68)).alloc (.cells #[.slice none 0 0, .slice none 0 0, .slice none 0 0, .slice none 0 0, .int .i64 0, .slice none 0 0] 68)) hq (HW.out _ HB0.out))
  clear hM hk hp hw
  go_enter Tryz.func41, Tryz.ntmps41
  go_wp2_with fail
  generalize (w.alloc (.cells #[.slice (some ⟨g1, 0, none⟩) st.x.n c1, .slice (some ⟨g2, 0, none⟩) st.x.m c2, .slice (some ⟨gm, 0, none⟩) st.ms.length cm, .slice (some ⟨gt, 0, none⟩) st.ts.length ct, .int .i64 st.tm, .slice ao ps.length c0] 68)).alloc (.cells #[.slice none 0 0, .slice none 0 0, .slice none 0 0, .slice none 0 0, .int .i64 0, .slice none 0 0] 68) = w0 at *
  refine HNB.out.mono ?_
  rintro e w2 ⟨⟨gn, cn, rfl, hnc, hgz, hgl, hqc⟩, hb2⟩
  have hz0 := HZ0.out
  have hz2 := hb2.size
  have HB2 := Lib.hid (HB0.out.trans (hb2.mono HB0.out.size))
  have hsx := (HX2.out.below hb2 HX2.out.lt).cell
  have HM3 : Hid (∀ c7, LiM w (w2.alloc (.cells c7 68)) w2.heap.size gn bw q tx #[.slice (some ⟨g1, 0, none⟩) st.x.n c1, .slice (some ⟨g2, 0, none⟩) st.x.m c2, .slice (some ⟨gm, 0, none⟩) st.ms.length cm, .slice (some ⟨gt, 0, none⟩) st.ts.length ct, .int .i64 st.tm, .slice ao ps.length c0] #[.slice none 0 0, .slice none 0 0, .slice none 0 0, .slice none 0 0, .int .i64 0, .slice none 0 0] c7) := fun c7 => ⟨(HX2.out.below hb2 HX2.out.lt).alloc _, (HX4.out.below hb2 HX4.out.lt).alloc _, Bx.new _ _ _, HB2.out.alloc HB2.out.size _, hnc.keep (below_all _ _), by omega, by omega, hgl, hbl, fun i hi => HW.out _ (HB2.out.alloc HB2.out.size _) i hi⟩
  have HQC : Hid (q ≤ cn) := hqc
  have hs2 := fun c7 => (HM3.out c7).x2.cell
  have hwd : ∀ c7, (w2.alloc (.cells c7 68)).cell? ⟨bw, 0, none⟩ = some (.string (tx 0)) := fun c7 => (HM3.out c7).wd 0 (by omega)
  clear hb2 hnc HB0 HX2 HX4 HZ0 HNB hgz hgl hz0 hz2 HB2 hqc
  go_wp2_with fail
  have HMA : Hid (LiM w (w2.alloc (.cells #[.slice (some ⟨g1, 0, none⟩) st.x.n c1, .slice (some ⟨g2, 0, none⟩) st.x.m c2, .slice (some ⟨gm, 0, none⟩) st.ms.length cm, .slice (some ⟨gt, 0, none⟩) st.ts.length ct, .int .i64 st.tm, .slice ao ps.length c0] 68)) w2.heap.size gn bw q tx #[.slice (some ⟨g1, 0, none⟩) st.x.n c1, .slice (some ⟨g2, 0, none⟩) st.x.m c2, .slice (some ⟨gm, 0, none⟩) st.ms.length cm, .slice (some ⟨gt, 0, none⟩) st.ts.length ct, .int .i64 st.tm, .slice ao ps.length c0] #[.slice none 0 0, .slice none 0 0, .slice none 0 0, .slice none 0 0, .int .i64 0, .slice none 0 0] #[.slice (some ⟨g1, 0, none⟩) st.x.n c1, .slice (some ⟨g2, 0, none⟩) st.x.m c2, .slice (some ⟨gm, 0, none⟩) st.ms.length cm, .slice (some ⟨gt, 0, none⟩) st.ts.length ct, .int .i64 st.tm, .slice ao ps.length c0]) := HM3.out _
  clear hwd hsx HM3 hs2
  generalize w2.alloc (.cells #[.slice (some ⟨g1, 0, none⟩) st.x.n c1, .slice (some ⟨g2, 0, none⟩) st.x.m c2, .slice (some ⟨gm, 0, none⟩) st.ms.length cm, .slice (some ⟨gt, 0, none⟩) st.ts.length ct, .int .i64 st.tm, .slice ao ps.length c0] 68) = w3 at *
  generalize w2.heap.size = b7 at *
  have HMD := Lib.hid (HMA.out.below (Below.refl _ _).drew)
  clear HMA
  have HWD : Hid (w3.drew = w3.drew) := rfl
  revert HMD HWD
  generalize hWD : w3.drew = W
  intro HMD _
  have HWD := Lib.hid hWD
  clear hWD
  have hnm := nmF_bd (tx 1)
  have ht0 := HK.out.t0
  have ht1 := HK.out.t1
  have hqc := HQC.out
  have hq2' := HQ1.out
  have hcn1 : (1 : Int) ≤ (cn : Int) := by omega
  have hcn1n : 1 ≤ cn := by omega
  have hcn : ¬ cn = 1 := by omega
  have hcni : ¬ (cn : Int) = 1 := by omega
  have hcne : (cn == 1) = false := by simpa using hcn
  have hn0 : W.cell? ⟨gn, 0, none⟩ = some (.int .i64 (nmF (tx 1))) := HMD.out.nu 0 (by omega)
  have HIC : Hid (IC W gn 1 (q - 1) F) := fun i hi => by
   have h := HMD.out.nu (1 + i) (by omega)
   rw [Nat.zero_add] at h
   rw [h, ← hF]
   show some (Value.int .i64 (nmF (tx (1 + i + 1)))) = some (Value.int .i64 (nmF (tx (i + 2))))
   rw [show 1 + i + 1 = i + 2 by omega]
  have HCC : Hid (∀ V, Below W.heap.size W V → (∀ o, V.cell? ⟨w.heap.size, o, none⟩ = (#[.slice (some ⟨g1, 0, none⟩) st.x.n c1, .slice (some ⟨g2, 0, none⟩) st.x.m c2, .slice (some ⟨gm, 0, none⟩) st.ms.length cm, .slice (some ⟨gt, 0, none⟩) st.ts.length ct, .int .i64 st.tm, .slice ao ps.length c0] : Array Value)[o]?) ∧ V.cell? ⟨gn, 0, none⟩ = some (.int .i64 (nmF (tx 1)))) := fun V h => ⟨(HMD.out.below h).x2.cell, (HMD.out.below h).nu 0 (by omega)⟩
  clear hF
  refine wp_region_held_drew (S := fun W => (∀ o, W.cell? ⟨w.heap.size, o, none⟩ = (#[.slice (some ⟨g1, 0, none⟩) st.x.n c1, .slice (some ⟨g2, 0, none⟩) st.x.m c2, .slice (some ⟨gm, 0, none⟩) st.ms.length cm, .slice (some ⟨gt, 0, none⟩) st.ts.length ct, .int .i64 st.tm, .slice ao ps.length c0] : Array Value)[o]?) ∧ W.cell? ⟨gn, 0, none⟩ = some (.int .i64 (nmF (tx 1)))) (by kernel_rfl) (by rw [HWD.out]; exact HCC.out _ (Below.refl _ _)) (fun hHeld => ?_)
  rw [HWD.out] at hHeld ⊢
  refine tkR 0 ?_
  refine tkR 1 ?_
  refine tkR 2 ?_
  refine tkR 3 ?_
  refine tkR 4 ?_
  refine tkR 5 ?_
  refine tkR 6 ?_
  refine tkR 7 ?_
  refine tkR 8 ?_
  refine tkR 9 ?_
  refine tkR 10 ?_
  cases ho : adO ps st.x.n st.x.n F (nmF (tx 1)) with
  | none =>
   have HN : Hid (stpX st ps tx (q + 1) 7 = none) := by show _ = _; rw [HST.out, ho]; rfl
   rw [ho] at HFT
   clear ho
   refine r1R 11 (fun K hK => ?_)
   go_simp
   go_at_call 62
   go_must (refine Calls.mono (HFT.out _ gn _ _ HMD.out.bl HQ.out HIC.out) ?_)
   rintro e w5 ⟨hb5, va, vn, vc, rfl⟩
   have HB5 := Lib.hid hb5
   have HM5 := Lib.hid (HMD.out.below hb5)
   have hf7 := HM5.out.x7.free
   have hc7 := HM5.out.x7.cell
   clear hb5
   refine oR hK ?_ (fun hHeld => ?_)
   ·try dsimp only
    exact HCC.out _ HB5.out
   clear hK K
   refine tkR 12 ?_
   refine tkR 13 ?_
   refine tkR 14 ?_
   refine tkR 15 ?_
   have HMS := Lib.hid (HM5.out.set7 5 (.slice va vn vc))
   refine r1R 16 (fun K hK => ?_)
   go_simp
   skip
   refine oR hK ?_ (fun hHeld => ?_)
   ·try dsimp only
    exact ⟨HMS.out.x2.cell, HMS.out.nu 0 (by omega)⟩
   clear hK K
   refine tkR 17 ?_
   refine wpAnyH_done (by kernel_rfl) ?_ _
   clear hHeld
   have hcs2 := HMS.out.x2.cell
   have hcs4 := HMS.out.x4.cell
   have hfs4 := HMS.out.x4.free
   go_wp2_with fail
   obtain ⟨HXE, HFE⟩ := st6_both HMS.out.x4 (.slice (some ⟨g1, 0, none⟩) st.x.n c1) (.slice (some ⟨g2, 0, none⟩) st.x.m c2) (.slice (some ⟨gm, 0, none⟩) st.ms.length cm) (.slice (some ⟨gt, 0, none⟩) st.ts.length ct) (.int .i64 st.tm) (.slice ao ps.length c0)
   have hec := HXE.cell
   have HBE := HMS.out.bl.trans (HFE.below (B := w.heap.size) (fun k hk => by omega) HMS.out.bl.size)
   refine bodyPost_ret (v := .tuple #[.agg #[(.slice (some ⟨g1, 0, none⟩) st.x.n c1), (.slice (some ⟨g2, 0, none⟩) st.x.m c2), (.slice (some ⟨gm, 0, none⟩) st.ms.length cm), (.slice (some ⟨gt, 0, none⟩) st.ts.length ct), (.int .i64 st.tm), (.slice ao ps.length c0)], .string (noT ++ ⟨#[10]⟩)]) (by simp [results, Tryz.results41, go_sem, hec]; try rfl) rfl ⟨HBE, ?_⟩
   rw [HN.out]
   exact ⟨g1, c1, g2, c2, gm, cm, gt, ct, ao, c0, rfl, HM.out.keep HBE, .inr (.inl ⟨rfl, rfl⟩)⟩
  | some l =>
   have HN : Hid (stpX st ps tx (q + 1) 7 = some (st, ps ++ [ftP l F st.x.n])) := by show _ = _; rw [HST.out, ho]; rfl
   have HNS : Hid (sayX st ps tx (q + 1) 7 = spT (ftP l F st.x.n).I st.x.n) := by show _ = _; rw [HSY.out, ho]
   have HLI := Lib.hid (HBD.out l ho)
   rw [ho] at HFT
   clear ho
   refine r1R 11 (fun K hK => ?_)
   go_simp
   go_at_call 62
   go_must (refine Calls.mono (HFT.out _ gn _ _ HMD.out.bl HQ.out HIC.out) ?_)
   rintro e w5 ⟨hb5, g', c', rfl, hg', hps⟩
   have HPS := Lib.hid hps
   have HB5 := Lib.hid hb5
   have HM5 := Lib.hid (HMD.out.below hb5)
   have hf7 := HM5.out.x7.free
   have hc7 := HM5.out.x7.cell
   clear hb5 hps
   refine oR hK ?_ (fun hHeld => ?_)
   ·try dsimp only
    exact HCC.out _ HB5.out
   clear hK K
   refine tkR 12 ?_
   refine tkR 13 ?_
   refine tkR 14 ?_
   refine tkR 15 ?_
   have HMS := Lib.hid (HM5.out.set7 5 (.slice (some ⟨g', 0, none⟩) (ps.length + 1) c'))
   refine r1R 16 (fun K hK => ?_)
   go_simp
   skip
   refine oR hK ?_ (fun hHeld => ?_)
   ·try dsimp only
    exact ⟨HMS.out.x2.cell, HMS.out.nu 0 (by omega)⟩
   clear hK K
   refine tkR 17 ?_
   refine wpAnyH_done (by kernel_rfl) ?_ _
   clear hHeld
   have hz7 := HM5.out.x7.lt
   have hzz7 := HM5.out.z7
   have hb7W : b7 < W.heap.size := HMD.out.x7.lt
   have HNN : Hid (∀ k, k < ps.length + 1 → 0 < (pA (ps ++ [ftP l F st.x.n]) k).ni ∧ 0 < (pA (ps ++ [ftP l F st.x.n]) k).no) := fun k hk => by
    by_cases e : k = ps.length
    ·subst e
     rw [pA_new]
     exact ⟨by show 0 < st.x.n; omega, by show 0 < st.x.n; omega⟩
    ·rw [← pA_old (by omega)]
     obtain ⟨_, d1, d2, _⟩ := ptOk_parts (HP.out.ok k (by omega))
     omega
   have HP5 : Hid (OwPs W.heap.size (w5.setCell ⟨b7, 5, none⟩ (.slice (some ⟨g', 0, none⟩) (ps.length + 1) c')) g' c' (ps.length + 1) (pA (ps ++ [ftP l F st.x.n]))) := HPS.out.fr (Fr.set w5 ⟨b7, 5, none⟩ (.slice (some ⟨g', 0, none⟩) (ps.length + 1) c')) (fun b e => by have : b = b7 := e; omega) hg' HNN.out
   obtain ⟨bi, ci, bo, co, hpt⟩ := HP5.out.at (k := ps.length) (by omega)
   rw [pA_new] at hpt
   have hp0 := hpt.c0
   have HPI := Lib.hid hpt.I
   clear hpt
   have hcs2 := HMS.out.x2.cell
   have hcs4 := HMS.out.x4.cell
   have hfs4 := HMS.out.x4.free
   have hcs7 := HMS.out.x7.cell
   have hpl1 : (ps.length : Int) < (ps.length : Int) + 1 := by omega
   have hpl2 : ps.length < ps.length + 1 := by omega
   have hni : (ftP l F st.x.n).ni = st.x.n := rfl
   rw [hni] at hp0 HPI
   generalize hW6 : w5.setCell ⟨b7, 5, none⟩ (.slice (some ⟨g', 0, none⟩) (ps.length + 1) c') = w6 at *
   have HLL := Lib.hid (l9List_any bi st.x.n ci (ftP l F st.x.n).I w6 (by omega) HLI.out HPI.out)
   go_wp2_with fail
   refine HLL.out.mono ?_
   rintro e w7 ⟨rfl, hb7⟩
   have HB7 := Lib.hid hb7
   have HM7 := Lib.hid (HMS.out.below hb7)
   have hds2 := HM7.out.x2.cell
   have hds4 := HM7.out.x4.cell
   have hdf4 := HM7.out.x4.free
   have hds7 := HM7.out.x7.cell
   clear hb7 hcs2 hcs4 hfs4 hcs7 hp0 hf7 hc7
   go_wp2_with fail
   obtain ⟨HXE, HFE⟩ := st6_both HM7.out.x4 (.slice (some ⟨g1, 0, none⟩) st.x.n c1) (.slice (some ⟨g2, 0, none⟩) st.x.m c2) (.slice (some ⟨gm, 0, none⟩) st.ms.length cm) (.slice (some ⟨gt, 0, none⟩) st.ts.length ct) (.int .i64 st.tm) (.slice (some ⟨g', 0, none⟩) (ps.length + 1) c')
   have hec := HXE.cell
   have HBE := HM7.out.bl.trans (HFE.below (B := w.heap.size) (fun k hk => by omega) HM7.out.bl.size)
   refine bodyPost_ret (v := .tuple #[.agg #[(.slice (some ⟨g1, 0, none⟩) st.x.n c1), (.slice (some ⟨g2, 0, none⟩) st.x.m c2), (.slice (some ⟨gm, 0, none⟩) st.ms.length cm), (.slice (some ⟨gt, 0, none⟩) st.ts.length ct), (.int .i64 st.tm), (.slice (some ⟨g', 0, none⟩) (ps.length + 1) c')], .string (spT (ftP l F st.x.n).I st.x.n ++ ⟨#[10]⟩)]) (by simp [results, Tryz.results41, go_sem, hec]; try rfl) rfl ⟨HBE, ?_⟩
   rw [HN.out, HNS.out]
   have hWs := HMD.out.bl.size
   have hW2 := HMD.out.x4.lt
   have HP7 := (HP5.out.below HB7.out).fr HFE (fun b e => by have : b = w.heap.size + 1 := e; omega) hg' HNN.out
   have hle : (ps ++ [ftP l F st.x.n]).length = ps.length + 1 := by simp
   have hm := HM.out.keep HBE
   refine ⟨g1, c1, g2, c2, gm, cm, gt, ct, some ⟨g', 0, none⟩, c', by rw [hle], ⟨hm.bk, hm.tr, hm.mv, hm.tv, HP7.psvQ hle, hm.l1, hm.l2, hm.lm, hm.lt⟩, .inr (.inr ⟨g', c', rfl, by omega, ?_⟩)⟩
   rw [hle]
   exact HP7.low (by omega)
theorem stpX_ask {st : Ses} {ps : List Pt} {tx : Nat → ByteArray} {n k : Nat} (h0 : k ≠ 0) (h1 : k ≠ 1) (h2 : k ≠ 2) (h3 : k ≠ 3) (h7 : k ≠ 7) : stpX st ps tx n k = some (st, ps) := by
 unfold stpX
 split <;> first | (exfalso; omega) | rfl
theorem sayX_ask {st : Ses} {ps : List Pt} {tx : Nat → ByteArray} {n k : Nat} (h0 : k ≠ 0) (h1 : k ≠ 1) (h2 : k ≠ 2) (h3 : k ≠ 3) (h7 : k ≠ 7) : sayX st ps tx n k = askX st ps tx k := by
 unfold sayX
 split <;> first | (exfalso; omega) | rfl
theorem l9Line_any (g1 c1 g2 c2 gm cm gt ct c0 bw cw q : Nat) (ao : Option Addr) (st : Ses) (ps : List Pt) (tx : Nat → ByteArray) (w : World) (hM : SpM w g1 g2 gm gt ao st ps) (hk : SesOk st) (hp : PsOk st.x.n ps) (hq : q < 1000000) (hw : ∀ i, i < q + 1 → w.cell? ⟨bw, i, none⟩ = some (.string (tx i))) :
    Calls Tryz.prog 41 #[.agg #[.slice (some ⟨g1, 0, none⟩) st.x.n c1, .slice (some ⟨g2, 0, none⟩) st.x.m c2, .slice (some ⟨gm, 0, none⟩) st.ms.length cm, .slice (some ⟨gt, 0, none⟩) st.ts.length ct, .int .i64 st.tm, .slice ao ps.length c0], .slice (some ⟨bw, 0, none⟩) (q + 1) cw] w (LiR st ps ao (stpX st ps tx (q + 1) (cmdK (tx 0) (q + 1))) (sayX st ps tx (q + 1) (cmdK (tx 0) (q + 1))) w) := by
  by_cases h0 : ixC (tx 0) = 0
  ·by_cases hn : q = 2
   ·rw [cmdK_hit h0 (by omega) (.inr (by subst hn; rfl))]
    exact l9Line_line g1 c1 g2 c2 gm cm gt ct c0 bw cw q ao st ps tx w hM hk hp hq hw h0 hn
   ·have hK : cmdK (tx 0) (q + 1) = 9 := cmdK_miss h0 (.inr (by show ¬ (_ ∨ _); intro e; rcases e with e | e <;> revert e <;> simp only [cmN] <;> omega))
    have Q := l9Line_what0 g1 c1 g2 c2 gm cm gt ct c0 bw cw q ao st ps tx w hM hk hp hq hw h0 hn
    rw [hK] at Q ⊢
    exact Q
  by_cases h1 : ixC (tx 0) = 1
  ·by_cases hn : q = 1
   ·rw [cmdK_hit h1 (by omega) (.inr (by subst hn; rfl))]
    exact l9Line_wait g1 c1 g2 c2 gm cm gt ct c0 bw cw q ao st ps tx w hM hk hp hq hw h1 hn
   ·have hK : cmdK (tx 0) (q + 1) = 9 := cmdK_miss h1 (.inr (by show ¬ (_ ∨ _); intro e; rcases e with e | e <;> revert e <;> simp only [cmN] <;> omega))
    have Q := l9Line_what1 g1 c1 g2 c2 gm cm gt ct c0 bw cw q ao st ps tx w hM hk hp hq hw h1 hn
    rw [hK] at Q ⊢
    exact Q
  by_cases h2 : ixC (tx 0) = 2
  ·by_cases hn : q = 2
   ·rw [cmdK_hit h2 (by omega) (.inr (by subst hn; rfl))]
    exact l9Line_do g1 c1 g2 c2 gm cm gt ct c0 bw cw q ao st ps tx w hM hk hp hq hw h2 hn
   ·have hK : cmdK (tx 0) (q + 1) = 9 := cmdK_miss h2 (.inr (by show ¬ (_ ∨ _); intro e; rcases e with e | e <;> revert e <;> simp only [cmN] <;> omega))
    have Q := l9Line_what2 g1 c1 g2 c2 gm cm gt ct c0 bw cw q ao st ps tx w hM hk hp hq hw h2 hn
    rw [hK] at Q ⊢
    exact Q
  by_cases h3 : ixC (tx 0) = 3
  ·by_cases hn : q = 0
   ·rw [cmdK_hit h3 (by omega) (.inr (by subst hn; rfl))]
    exact l9Line_finish g1 c1 g2 c2 gm cm gt ct c0 bw cw q ao st ps tx w hM hk hp hq hw h3 hn
   ·have hK : cmdK (tx 0) (q + 1) = 9 := cmdK_miss h3 (.inr (by show ¬ (_ ∨ _); intro e; rcases e with e | e <;> revert e <;> simp only [cmN] <;> omega))
    have Q := l9Line_what3 g1 c1 g2 c2 gm cm gt ct c0 bw cw q ao st ps tx w hM hk hp hq hw h3 hn
    rw [hK] at Q ⊢
    exact Q
  by_cases h7 : ixC (tx 0) = 7
  ·have hK : cmdK (tx 0) (q + 1) = 7 := cmdK_hit h7 (by omega) (.inl (by decide))
   by_cases hn : q = st.x.n + 1
   ·rw [hK]
    exact l9Line_fit g1 c1 g2 c2 gm cm gt ct c0 bw cw q ao st ps tx w hM hk hp hq hw h7 hn
   ·have Q := l9Line_what7 g1 c1 g2 c2 gm cm gt ct c0 bw cw q ao st ps tx w hM hk hp hq hw h7 hn
    rw [hK] at Q ⊢
    have e1 : stpX st ps tx (q + 1) 7 = some (st, ps) := if_neg (by omega)
    have e2 : sayX st ps tx (q + 1) 7 = whatT := if_neg (by omega)
    rw [e1, e2]
    exact Q
  ·have Q := l9Line_what g1 c1 g2 c2 gm cm gt ct c0 bw cw q ao st ps tx w hM hk hp hq hw h0 h1 h2 h3 h7
   have hK : cmdK (tx 0) (q + 1) = ixC (tx 0) ∨ cmdK (tx 0) (q + 1) = 9 := by
    unfold cmdK
    split
    ·exact .inl rfl
    ·exact .inr rfl
   rw [stpX_ask (by omega) (by omega) (by omega) (by omega) (by omega), sayX_ask (by omega) (by omega) (by omega) (by omega) (by omega)]
   exact Q
def AvP (w : World) (ao : Option Addr) (ps : List Pt) (b5 : Nat) : Prop :=
 ∀ k, k < ps.length → ∃ b bi ci bo co, ao = some ⟨b, 0, none⟩ ∧ PtA w b (k * 2) (pA ps k) bi ci bo co ∧ b ≠ b5 ∧ bi ≠ b5 ∧ bo ≠ b5
theorem AvP.psv {w : World} {ao : Option Addr} {ps : List Pt} {b5 : Nat} (h : AvP w ao ps b5) : PsV w ao ps := fun k hk => by
 obtain ⟨b, bi, ci, bo, co, e, h1, _⟩ := h k hk
 exact ⟨b, bi, ci, bo, co, e, h1⟩
theorem AvP.keep {w w' : World} {ao : Option Addr} {ps : List Pt} {b5 : Nat} (h : AvP w ao ps b5) (hb : Below w.heap.size w w') : AvP w' ao ps b5 := fun k hk => by
 obtain ⟨b, bi, ci, bo, co, e, h1, h2⟩ := h k hk
 exact ⟨b, bi, ci, bo, co, e, h1.keep hb, h2⟩
theorem PnW.av {ai ao : Option Addr} {ps ps' : List Pt} {w w' : World} {b5 : Nat} (h : PnW ai ps ao ps' w w') (hA : AvP w ai ps b5) (h5 : b5 < w.heap.size) (hb : Below w.heap.size w w') : AvP w' ao ps' b5 := by
 rcases h with rfl | ⟨rfl, rfl⟩ | ⟨g, c, rfl, hg, hO⟩
 ·exact fun k hk => by simp at hk
 ·exact hA.keep hb
 ·obtain ⟨F, h1, h2⟩ := hO
  intro k hk
  obtain ⟨bi, ci, bo, co, e1, e2, e3, e4, e5, e6⟩ := h2 k hk
  exact ⟨g, bi, ci, bo, co, rfl, ⟨by rw [h1.cell (by omega), e1], by rw [h1.cell (by omega), e2], e5, e6⟩, by omega, by omega, by omega⟩
theorem SpM.st5 {w w' : World} {g1 g2 gm gt : Nat} {ao : Option Addr} {st : Ses} {ps : List Pt} {b5 : Nat} {a : Option Addr} {n c : Nat} (h : SpM w g1 g2 gm gt ao st ps) (hx : w.cell? ⟨b5, 0, none⟩ = some (.slice a n c)) (hA : AvP w ao ps b5) (hp : PsOk st.x.n ps) (hf : Fr (fun q => q = b5) w w') : SpM w' g1 g2 gm gt ao st ps ∧ AvP w' ao ps b5 := by
 have hi : ∀ (b : Nat) (v : Int), w.cell? ⟨b, 0, none⟩ = some (.int .i64 v) → b ≠ b5 := fun b v h e => by
  subst e
  rw [hx] at h
  cases h
 have hA' : AvP w' ao ps b5 := fun k hk => by
  obtain ⟨b, bi, ci, bo, co, e, hq, n1, n2, n3⟩ := hA k hk
  obtain ⟨_, d1, d2, _⟩ := ptOk_parts (hp.ok k hk)
  have hn1 := hp.n1
  have l0 : b < w.heap.size := World.block_lt_of_cell? w ⟨b, k * 2, none⟩ hq.c0
  have l1 : bi < w.heap.size := World.block_lt_of_cell? w ⟨bi, 0 + 0, none⟩ (hq.I 0 (by omega))
  have l2 : bo < w.heap.size := World.block_lt_of_cell? w ⟨bo, 0 + 0, none⟩ (hq.O 0 (by omega))
  refine ⟨b, bi, ci, bo, co, e, ⟨?_, ?_, fun i hi => ?_, fun i hi => ?_⟩, n1, n2, n3⟩
  ·rw [hf.cellN l0 n1]; exact hq.c0
  ·rw [hf.cellN l0 n1]; exact hq.c1
  ·rw [hf.cellN l1 n2]; exact hq.I i hi
  ·rw [hf.cellN l2 n3]; exact hq.O i hi
 have hs := hf.size
 refine ⟨⟨fun k hk => ?_, fun k hk => ?_, fun k hk => ?_, fun k hk => ?_, hA'.psv, Nat.lt_of_lt_of_le h.l1 hs, Nat.lt_of_lt_of_le h.l2 hs, Nat.lt_of_lt_of_le h.lm hs, Nat.lt_of_lt_of_le h.lt hs⟩, hA'⟩
 ·have hne := hi g1 _ (h.bk 0 (by omega)).1
  rw [hf.cellN h.l1 hne, hf.cellN h.l1 hne, hf.cellN h.l1 hne]
  exact h.bk k hk
 ·rw [hf.cellN h.l2 (hi g2 _ (h.tr 0 (by omega)))]
  exact h.tr k hk
 ·have hne := hi gm _ (h.mv 0 (by omega)).1
  rw [hf.cellN h.lm hne, hf.cellN h.lm hne]
  exact h.mv k hk
 ·rw [hf.cellN h.lt (hi gt _ (h.tv 0 (by omega)))]
  exact h.tv k hk
theorem AvP.new {w W : World} {ao : Option Addr} {ps : List Pt} {b5 b9 n : Nat} (h : AvP w ao ps b5) (hp : PsOk n ps) (hb : Below w.heap.size w W) (h9 : w.heap.size ≤ b9) : AvP W ao ps b9 := fun k hk => by
 obtain ⟨b, bi, ci, bo, co, e, hq, n1, n2, n3⟩ := h k hk
 obtain ⟨_, d1, d2, _⟩ := ptOk_parts (hp.ok k hk)
 have hn1 := hp.n1
 have l0 : b < w.heap.size := World.block_lt_of_cell? w ⟨b, k * 2, none⟩ hq.c0
 have l1 : bi < w.heap.size := World.block_lt_of_cell? w ⟨bi, 0 + 0, none⟩ (hq.I 0 (by omega))
 have l2 : bo < w.heap.size := World.block_lt_of_cell? w ⟨bo, 0 + 0, none⟩ (hq.O 0 (by omega))
 exact ⟨b, bi, ci, bo, co, e, hq.keep hb, by omega, by omega, by omega⟩
theorem AvP.fr {w w' : World} {ao : Option Addr} {ps : List Pt} {b5 b9 n : Nat} (h : AvP w ao ps b5) (h9 : AvP w ao ps b9) (hp : PsOk n ps) (hf : Fr (fun q => q = b9) w w') : AvP w' ao ps b5 := fun k hk => by
 obtain ⟨b, bi, ci, bo, co, e, hq, n1, n2, n3⟩ := h k hk
 obtain ⟨b', bi', ci', bo', co', e', hq', m1, m2, m3⟩ := h9 k hk
 obtain rfl : b = b' := by rw [e] at e'; simpa using e'
 obtain ⟨rfl, rfl⟩ : bi = bi' ∧ ci = ci' := by simpa using hq.c0.symm.trans hq'.c0
 obtain ⟨rfl, rfl⟩ : bo = bo' ∧ co = co' := by simpa using hq.c1.symm.trans hq'.c1
 obtain ⟨_, d1, d2, _⟩ := ptOk_parts (hp.ok k hk)
 have hn1 := hp.n1
 have l0 : b < w.heap.size := World.block_lt_of_cell? w ⟨b, k * 2, none⟩ hq.c0
 have l1 : bi < w.heap.size := World.block_lt_of_cell? w ⟨bi, 0 + 0, none⟩ (hq.I 0 (by omega))
 have l2 : bo < w.heap.size := World.block_lt_of_cell? w ⟨bo, 0 + 0, none⟩ (hq.O 0 (by omega))
 refine ⟨b, bi, ci, bo, co, e, ⟨?_, ?_, fun i hi => ?_, fun i hi => ?_⟩, n1, n2, n3⟩
 ·rw [hf.cellN l0 m1]; exact hq.c0
 ·rw [hf.cellN l0 m1]; exact hq.c1
 ·rw [hf.cellN l1 m2]; exact hq.I i hi
 ·rw [hf.cellN l2 m3]; exact hq.O i hi
theorem l9Line_step (g1 c1 g2 c2 gm cm gt ct c0 bw cw q j : Nat) (ao : Option Addr) (t : ByteArray) (w : World) (hM : SpM w g1 g2 gm gt ao (itX t j).1 (itX t j).2) (hq1 : (wdL (lnI t j)).length = q + 1) (hq : q < 1000000) (hw : ∀ i, i < q + 1 → w.cell? ⟨bw, i, none⟩ = some (.string (wdI (lnI t j) i))) :
    Calls Tryz.prog 41 #[.agg #[.slice (some ⟨g1, 0, none⟩) (itX t j).1.x.n c1, .slice (some ⟨g2, 0, none⟩) (itX t j).1.x.m c2, .slice (some ⟨gm, 0, none⟩) (itX t j).1.ms.length cm, .slice (some ⟨gt, 0, none⟩) (itX t j).1.ts.length ct, .int .i64 (itX t j).1.tm, .slice ao (itX t j).2.length c0], .slice (some ⟨bw, 0, none⟩) (q + 1) cw] w fun e w' => Below w.heap.size w w' ∧ ∃ G1 C1 G2 C2 GM CM GT CT AO C0, e = .returned (.tuple #[.agg #[.slice (some ⟨G1, 0, none⟩) (itX t (j + 1)).1.x.n C1, .slice (some ⟨G2, 0, none⟩) (itX t (j + 1)).1.x.m C2, .slice (some ⟨GM, 0, none⟩) (itX t (j + 1)).1.ms.length CM, .slice (some ⟨GT, 0, none⟩) (itX t (j + 1)).1.ts.length CT, .int .i64 (itX t (j + 1)).1.tm, .slice AO (itX t (j + 1)).2.length C0], .string (ouX t j ++ ⟨#[10]⟩)]) ∧ SpM w' G1 G2 GM GT AO (itX t (j + 1)).1 (itX t (j + 1)).2 ∧ ∀ b5, b5 < w.heap.size → AvP w ao (itX t j).2 b5 → AvP w' AO (itX t (j + 1)).2 b5 := by
  have ho := it_ok t j
  have hK : cmdK (wdI (lnI t j) 0) (q + 1) = kdX (lnI t j) := by unfold kdX; rw [hq1]; rfl
  have h := l9Line_any g1 c1 g2 c2 gm cm gt ct c0 bw cw q ao (itX t j).1 (itX t j).2 (wdI (lnI t j)) w hM ho.k ho.p hq hw
  rw [hK] at h
  have hS : stX (itX t j) (lnI t j) = stpX (itX t j).1 (itX t j).2 (wdI (lnI t j)) (q + 1) (kdX (lnI t j)) := by unfold stX; rw [hq1]
  have hT : ouX t j = match stX (itX t j) (lnI t j) with | some _ => sayX (itX t j).1 (itX t j).2 (wdI (lnI t j)) (q + 1) (kdX (lnI t j)) | none => noT := by
   unfold ouX tellX
   rw [hq1]
   cases stX (itX t j) (lnI t j) <;> rfl
  have hN : itX t (j + 1) = (stX (itX t j) (lnI t j)).getD (itX t j) := rfl
  rw [← hS] at h
  refine h.mono ?_
  rintro e w' ⟨hb, h2⟩
  refine ⟨hb, ?_⟩
  cases hs : stX (itX t j) (lnI t j) with
  | none =>
   rw [hs] at h2 hT hN
   obtain ⟨G1, C1, G2, C2, GM, CM, GT, CT, AO, C0, he, hm, hp⟩ := h2
   have hN' : itX t (j + 1) = itX t j := hN
   have hT' : ouX t j = noT := hT
   rw [hN', hT']
   exact ⟨G1, C1, G2, C2, GM, CM, GT, CT, AO, C0, he, hm, fun b5 h5 hA => hp.av hA h5 hb⟩
  | some s =>
   rw [hs] at h2 hT hN
   obtain ⟨st, ps'⟩ := s
   obtain ⟨G1, C1, G2, C2, GM, CM, GT, CT, AO, C0, he, hm, hp⟩ := h2
   have hN' : itX t (j + 1) = (st, ps') := hN
   rw [hN', hT]
   exact ⟨G1, C1, G2, C2, GM, CM, GT, CT, AO, C0, he, hm, fun b5 h5 hA => hp.av hA h5 hb⟩
end Go.Proofs.YtlkdmpfifpkpaaaGreatDoor

