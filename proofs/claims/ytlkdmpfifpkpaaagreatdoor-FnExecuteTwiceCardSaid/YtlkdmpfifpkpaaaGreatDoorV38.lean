/-
  Parts of the proof: Zs. No condition.
-/
import Derived.Test.YtlkdmpfifpkpaaaGreatDoorV37
namespace Go.Proofs.YtlkdmpfifpkpaaaGreatDoor
open Go.RowKit
set_option linter.unusedSimpArgs false in
set_option maxRecDepth 100000 in
set_option maxHeartbeats 8000000 in
theorem l9Line_what (g1 c1 g2 c2 gm cm gt ct c0 bw cw q : Nat) (ao : Option Addr) (st : Ses) (ps : List Pt) (tx : Nat → ByteArray) (w : World) (hM : SpM w g1 g2 gm gt ao st ps) (hk : SesOk st) (hp : PsOk st.x.n ps) (hq : q < 1000000) (hw : ∀ i, i < q + 1 → w.cell? ⟨bw, i, none⟩ = some (.string (tx i))) (h0 : ¬ ixC (tx 0) = 0) (h1 : ¬ ixC (tx 0) = 1) (h2 : ¬ ixC (tx 0) = 2) (h3 : ¬ ixC (tx 0) = 3) (h7 : ¬ ixC (tx 0) = 7) :
    Calls Tryz.prog 41 #[.agg #[.slice (some ⟨g1, 0, none⟩) st.x.n c1, .slice (some ⟨g2, 0, none⟩) st.x.m c2, .slice (some ⟨gm, 0, none⟩) st.ms.length cm, .slice (some ⟨gt, 0, none⟩) st.ts.length ct, .int .i64 st.tm, .slice ao ps.length c0], .slice (some ⟨bw, 0, none⟩) (q + 1) cw] w (LiR st ps ao (some (st, ps)) (askX st ps tx (cmdK (tx 0) (q + 1))) w) := by
  have y0 := wd_n0 h0
  have y1 := wd_n1 h1
  have y2 := wd_n2 h2
  have y3 := wd_n3 h3
  have y7 := wd_n7 h7
  clear h0 h1 h2 h3 h7
  have HAS : Hid (∀ W, Below w.heap.size w W → Calls Tryz.prog 64 #[.agg #[.slice (some ⟨g1, 0, none⟩) st.x.n c1, .slice (some ⟨g2, 0, none⟩) st.x.m c2, .slice (some ⟨gm, 0, none⟩) st.ms.length cm, .slice (some ⟨gt, 0, none⟩) st.ts.length ct, .int .i64 st.tm, .slice ao ps.length c0], .slice (some ⟨bw, 0, none⟩) (q + 1) cw] W fun e w' => e = .returned (.string (askX st ps tx (cmdK (tx 0) (q + 1)) ++ ⟨#[10]⟩)) ∧ Below W.heap.size W w') := fun W h => l9Ask_any g1 c1 g2 c2 gm cm gt ct c0 bw cw q ao st ps tx W (hM.keep h) hk hp hq (fun i hi => by rw [h.cell (p := ⟨bw, i, none⟩) (World.block_lt_of_cell? w ⟨bw, 0, none⟩ (hw 0 (by omega)))]; exact hw i hi)
  generalize askX st ps tx (cmdK (tx 0) (q + 1)) = tt at *
  have HB0 : Hid (Below w.heap.size w ((w.alloc (.cells #[.slice (some ⟨g1, 0, none⟩) st.x.n c1, .slice (some ⟨g2, 0, none⟩) st.x.m c2, .slice (some ⟨gm, 0, none⟩) st.ms.length cm, .slice (some ⟨gt, 0, none⟩) st.ts.length ct, .int .i64 st.tm, .slice ao ps.length c0] 68)).alloc (.cells #[.slice none 0 0, .slice none 0 0, .slice none 0 0, .slice none 0 0, .int .i64 0, .slice none 0 0] 68))) := (below_all _ _).alloc (by simp) _
  have HX2 : Hid (Bx ((w.alloc (.cells #[.slice (some ⟨g1, 0, none⟩) st.x.n c1, .slice (some ⟨g2, 0, none⟩) st.x.m c2, .slice (some ⟨gm, 0, none⟩) st.ms.length cm, .slice (some ⟨gt, 0, none⟩) st.ts.length ct, .int .i64 st.tm, .slice ao ps.length c0] 68)).alloc (.cells #[.slice none 0 0, .slice none 0 0, .slice none 0 0, .slice none 0 0, .int .i64 0, .slice none 0 0] 68)) w.heap.size 68 #[.slice (some ⟨g1, 0, none⟩) st.x.n c1, .slice (some ⟨g2, 0, none⟩) st.x.m c2, .slice (some ⟨gm, 0, none⟩) st.ms.length cm, .slice (some ⟨gt, 0, none⟩) st.ts.length ct, .int .i64 st.tm, .slice ao ps.length c0]) := (Bx.new _ _ _).alloc _
  have HX4 : Hid (Bx ((w.alloc (.cells #[.slice (some ⟨g1, 0, none⟩) st.x.n c1, .slice (some ⟨g2, 0, none⟩) st.x.m c2, .slice (some ⟨gm, 0, none⟩) st.ms.length cm, .slice (some ⟨gt, 0, none⟩) st.ts.length ct, .int .i64 st.tm, .slice ao ps.length c0] 68)).alloc (.cells #[.slice none 0 0, .slice none 0 0, .slice none 0 0, .slice none 0 0, .int .i64 0, .slice none 0 0] 68)) (w.heap.size + 1) 68 #[.slice none 0 0, .slice none 0 0, .slice none 0 0, .slice none 0 0, .int .i64 0, .slice none 0 0]) := Bx.newAt (by simp)
  have HZ0 : Hid (((w.alloc (.cells #[.slice (some ⟨g1, 0, none⟩) st.x.n c1, .slice (some ⟨g2, 0, none⟩) st.x.m c2, .slice (some ⟨gm, 0, none⟩) st.ms.length cm, .slice (some ⟨gt, 0, none⟩) st.ts.length ct, .int .i64 st.tm, .slice ao ps.length c0] 68)).alloc (.cells #[.slice none 0 0, .slice none 0 0, .slice none 0 0, .slice none 0 0, .int .i64 0, .slice none 0 0] 68)).heap.size = w.heap.size + 2) := by show _ = _; simp
  have HM := Lib.hid hM
  have HK := Lib.hid hk
  have HP := Lib.hid hp
  have hbl : bw < w.heap.size := World.block_lt_of_cell? w ⟨bw, 0, none⟩ (hw 0 (by omega))
  have HW : Hid (∀ W, Below w.heap.size w W → ∀ i, i < q + 1 → W.cell? ⟨bw, i, none⟩ = some (.string (tx i))) := fun W h i hi => by rw [h.cell (p := ⟨bw, i, none⟩) hbl]; exact hw i hi
  have HNB := Lib.hid (l9Numbers_any bw cw q tx ((w.alloc (.cells #[.slice (some ⟨g1, 0, none⟩) st.x.n c1, .slice (some ⟨g2, 0, none⟩) st.x.m c2, .slice (some ⟨gm, 0, none⟩) st.ms.length cm, .slice (some ⟨gt, 0, none⟩) st.ts.length ct, .int .i64 st.tm, .slice ao ps.length c0] 68)).alloc (.cells #[.slice none 0 0, .slice none 0 0, .slice none 0 0, .slice none 0 0, .int .i64 0, .slice none 0 0] 68)) hq (HW.out _ HB0.out))
  clear hM hk hp hw
  go_enter Tryz.func41, Tryz.ntmps41
  go_wp2_with fail
  generalize (w.alloc (.cells #[.slice (some ⟨g1, 0, none⟩) st.x.n c1, .slice (some ⟨g2, 0, none⟩) st.x.m c2, .slice (some ⟨gm, 0, none⟩) st.ms.length cm, .slice (some ⟨gt, 0, none⟩) st.ts.length ct, .int .i64 st.tm, .slice ao ps.length c0] 68)).alloc (.cells #[.slice none 0 0, .slice none 0 0, .slice none 0 0, .slice none 0 0, .int .i64 0, .slice none 0 0] 68) = w0 at *
  refine HNB.out.mono ?_
  rintro e w2 ⟨⟨gn, cn, rfl, hnc, hgz, hgl, hqc⟩, hb2⟩
  have hz0 := HZ0.out
  have hz2 := hb2.size
  have HB2 := Lib.hid (HB0.out.trans (hb2.mono HB0.out.size))
  have hsx := (HX2.out.below hb2 HX2.out.lt).cell
  have HM3 : Hid (∀ c7, LiM w (w2.alloc (.cells c7 68)) w2.heap.size gn bw q tx #[.slice (some ⟨g1, 0, none⟩) st.x.n c1, .slice (some ⟨g2, 0, none⟩) st.x.m c2, .slice (some ⟨gm, 0, none⟩) st.ms.length cm, .slice (some ⟨gt, 0, none⟩) st.ts.length ct, .int .i64 st.tm, .slice ao ps.length c0] #[.slice none 0 0, .slice none 0 0, .slice none 0 0, .slice none 0 0, .int .i64 0, .slice none 0 0] c7) := fun c7 => ⟨(HX2.out.below hb2 HX2.out.lt).alloc _, (HX4.out.below hb2 HX4.out.lt).alloc _, Bx.new _ _ _, HB2.out.alloc HB2.out.size _, hnc.keep (below_all _ _), by omega, by omega, hgl, hbl, fun i hi => HW.out _ (HB2.out.alloc HB2.out.size _) i hi⟩
  have HQC : Hid (q ≤ cn) := hqc
  have hs2 := fun c7 => (HM3.out c7).x2.cell
  have hwd : ∀ c7, (w2.alloc (.cells c7 68)).cell? ⟨bw, 0, none⟩ = some (.string (tx 0)) := fun c7 => (HM3.out c7).wd 0 (by omega)
  clear hb2 hnc HB0 HX2 HX4 HZ0 HNB hgz hgl hz0 hz2 HB2 hqc
  go_wp2_with fail
  have HMA : Hid (LiM w (w2.alloc (.cells #[.slice (some ⟨g1, 0, none⟩) st.x.n c1, .slice (some ⟨g2, 0, none⟩) st.x.m c2, .slice (some ⟨gm, 0, none⟩) st.ms.length cm, .slice (some ⟨gt, 0, none⟩) st.ts.length ct, .int .i64 st.tm, .slice ao ps.length c0] 68)) w2.heap.size gn bw q tx #[.slice (some ⟨g1, 0, none⟩) st.x.n c1, .slice (some ⟨g2, 0, none⟩) st.x.m c2, .slice (some ⟨gm, 0, none⟩) st.ms.length cm, .slice (some ⟨gt, 0, none⟩) st.ts.length ct, .int .i64 st.tm, .slice ao ps.length c0] #[.slice none 0 0, .slice none 0 0, .slice none 0 0, .slice none 0 0, .int .i64 0, .slice none 0 0] #[.slice (some ⟨g1, 0, none⟩) st.x.n c1, .slice (some ⟨g2, 0, none⟩) st.x.m c2, .slice (some ⟨gm, 0, none⟩) st.ms.length cm, .slice (some ⟨gt, 0, none⟩) st.ts.length ct, .int .i64 st.tm, .slice ao ps.length c0]) := HM3.out _
  clear hwd hsx HM3 hs2
  generalize w2.alloc (.cells #[.slice (some ⟨g1, 0, none⟩) st.x.n c1, .slice (some ⟨g2, 0, none⟩) st.x.m c2, .slice (some ⟨gm, 0, none⟩) st.ms.length cm, .slice (some ⟨gt, 0, none⟩) st.ts.length ct, .int .i64 st.tm, .slice ao ps.length c0] 68) = w3 at *
  generalize w2.heap.size = b7 at *
  have HMD := Lib.hid (HMA.out.below (Below.refl _ _).drew)
  clear HMA
  have HWD : Hid (w3.drew = w3.drew) := rfl
  revert HMD HWD
  generalize hWD : w3.drew = W
  intro HMD _
  have HWD := Lib.hid hWD
  clear hWD
  have hnm := nmF_bd (tx 1)
  have ht0 := HK.out.t0
  have ht1 := HK.out.t1
  have HCC : Hid (∀ V, Below W.heap.size W V → ∀ o, V.cell? ⟨w.heap.size, o, none⟩ = (#[.slice (some ⟨g1, 0, none⟩) st.x.n c1, .slice (some ⟨g2, 0, none⟩) st.x.m c2, .slice (some ⟨gm, 0, none⟩) st.ms.length cm, .slice (some ⟨gt, 0, none⟩) st.ts.length ct, .int .i64 st.tm, .slice ao ps.length c0] : Array Value)[o]?) := fun V h => (HMD.out.below h).x2.cell
  refine wp_region_held_drew (S := fun W => ∀ o, W.cell? ⟨w.heap.size, o, none⟩ = (#[.slice (some ⟨g1, 0, none⟩) st.x.n c1, .slice (some ⟨g2, 0, none⟩) st.x.m c2, .slice (some ⟨gm, 0, none⟩) st.ms.length cm, .slice (some ⟨gt, 0, none⟩) st.ts.length ct, .int .i64 st.tm, .slice ao ps.length c0] : Array Value)[o]?) (by kernel_rfl) (by rw [HWD.out]; exact HCC.out _ (Below.refl _ _)) (fun hHeld => ?_)
  rw [HWD.out] at hHeld ⊢
  refine tkR 0 ?_
  refine tkR 1 ?_
  refine tkR 2 ?_
  refine r1R 3 (fun K hK => ?_)
  go_simp
  go_at_call 64
  go_must (refine Calls.mono (HAS.out _ HMD.out.bl) ?_)
  rintro e w5 ⟨rfl, hb5⟩
  have HB5 := Lib.hid hb5
  have HM5 := Lib.hid (HMD.out.below hb5)
  have hf4 := HM5.out.x4.free
  have hc4 := HM5.out.x4.cell
  clear hb5
  refine oR hK ?_ (fun hHeld => ?_)
  ·try dsimp only
   exact HCC.out _ HB5.out
  clear hK K
  obtain ⟨HXE, HFE⟩ := st6_both HM5.out.x4 (.slice (some ⟨g1, 0, none⟩) st.x.n c1) (.slice (some ⟨g2, 0, none⟩) st.x.m c2) (.slice (some ⟨gm, 0, none⟩) st.ms.length cm) (.slice (some ⟨gt, 0, none⟩) st.ts.length ct) (.int .i64 st.tm) (.slice ao ps.length c0)
  have hX2 := (((((HM5.out.x2.setOther (a := ⟨w.heap.size + 1, 0, none⟩) (by show w.heap.size ≠ w.heap.size + 1; omega) (.slice (some ⟨g1, 0, none⟩) st.x.n c1)).setOther (a := ⟨w.heap.size + 1, 1, none⟩) (by show w.heap.size ≠ w.heap.size + 1; omega) (.slice (some ⟨g2, 0, none⟩) st.x.m c2)).setOther (a := ⟨w.heap.size + 1, 2, none⟩) (by show w.heap.size ≠ w.heap.size + 1; omega) (.slice (some ⟨gm, 0, none⟩) st.ms.length cm)).setOther (a := ⟨w.heap.size + 1, 3, none⟩) (by show w.heap.size ≠ w.heap.size + 1; omega) (.slice (some ⟨gt, 0, none⟩) st.ts.length ct)).setOther (a := ⟨w.heap.size + 1, 4, none⟩) (by show w.heap.size ≠ w.heap.size + 1; omega) (.int .i64 st.tm)).setOther (a := ⟨w.heap.size + 1, 5, none⟩) (by show w.heap.size ≠ w.heap.size + 1; omega) (.slice ao ps.length c0)
  have hec := HXE.cell
  have HBE := HM5.out.bl.trans (HFE.below (B := w.heap.size) (fun k hk => by omega) HM5.out.bl.size)
  refine r1R 4 (fun K hK => ?_)
  go_simp
  skip
  refine oR hK ?_ (fun hHeld => ?_)
  ·try dsimp only
   exact hX2.cell
  clear hK K
  refine tkR 5 ?_
  refine wpAnyH_done (by kernel_rfl) ?_ _
  clear hHeld
  go_wp2_with fail
  refine bodyPost_ret (v := .tuple #[.agg #[.slice (some ⟨g1, 0, none⟩) st.x.n c1, .slice (some ⟨g2, 0, none⟩) st.x.m c2, .slice (some ⟨gm, 0, none⟩) st.ms.length cm, .slice (some ⟨gt, 0, none⟩) st.ts.length ct, .int .i64 st.tm, .slice ao ps.length c0], .string (tt ++ ⟨#[10]⟩)]) (by simp [results, Tryz.results41, go_sem, hec]; try rfl) rfl ⟨HBE, ?_⟩
  exact ⟨g1, c1, g2, c2, gm, cm, gt, ct, ao, c0, rfl, HM.out.keep HBE, .inr (.inl ⟨rfl, rfl⟩)⟩
set_option linter.unusedSimpArgs false in
set_option maxRecDepth 100000 in
set_option maxHeartbeats 8000000 in
theorem l9Line_what0 (g1 c1 g2 c2 gm cm gt ct c0 bw cw q : Nat) (ao : Option Addr) (st : Ses) (ps : List Pt) (tx : Nat → ByteArray) (w : World) (hM : SpM w g1 g2 gm gt ao st ps) (hk : SesOk st) (hp : PsOk st.x.n ps) (hq : q < 1000000) (hw : ∀ i, i < q + 1 → w.cell? ⟨bw, i, none⟩ = some (.string (tx i))) (hc : ixC (tx 0) = 0) (hn : ¬ q = 2) :
    Calls Tryz.prog 41 #[.agg #[.slice (some ⟨g1, 0, none⟩) st.x.n c1, .slice (some ⟨g2, 0, none⟩) st.x.m c2, .slice (some ⟨gm, 0, none⟩) st.ms.length cm, .slice (some ⟨gt, 0, none⟩) st.ts.length ct, .int .i64 st.tm, .slice ao ps.length c0], .slice (some ⟨bw, 0, none⟩) (q + 1) cw] w (LiR st ps ao (some (st, ps)) (askX st ps tx (cmdK (tx 0) (q + 1))) w) := by
  have hy := wd_y0 hc
  have hqb : ((q : Int) == 2) = false := beq_eq_false_iff_ne.2 (by omega)
  clear hc hn
  have HAS : Hid (∀ W, Below w.heap.size w W → Calls Tryz.prog 64 #[.agg #[.slice (some ⟨g1, 0, none⟩) st.x.n c1, .slice (some ⟨g2, 0, none⟩) st.x.m c2, .slice (some ⟨gm, 0, none⟩) st.ms.length cm, .slice (some ⟨gt, 0, none⟩) st.ts.length ct, .int .i64 st.tm, .slice ao ps.length c0], .slice (some ⟨bw, 0, none⟩) (q + 1) cw] W fun e w' => e = .returned (.string (askX st ps tx (cmdK (tx 0) (q + 1)) ++ ⟨#[10]⟩)) ∧ Below W.heap.size W w') := fun W h => l9Ask_any g1 c1 g2 c2 gm cm gt ct c0 bw cw q ao st ps tx W (hM.keep h) hk hp hq (fun i hi => by rw [h.cell (p := ⟨bw, i, none⟩) (World.block_lt_of_cell? w ⟨bw, 0, none⟩ (hw 0 (by omega)))]; exact hw i hi)
  generalize askX st ps tx (cmdK (tx 0) (q + 1)) = tt at *
  have HB0 : Hid (Below w.heap.size w ((w.alloc (.cells #[.slice (some ⟨g1, 0, none⟩) st.x.n c1, .slice (some ⟨g2, 0, none⟩) st.x.m c2, .slice (some ⟨gm, 0, none⟩) st.ms.length cm, .slice (some ⟨gt, 0, none⟩) st.ts.length ct, .int .i64 st.tm, .slice ao ps.length c0] 68)).alloc (.cells #[.slice none 0 0, .slice none 0 0, .slice none 0 0, .slice none 0 0, .int .i64 0, .slice none 0 0] 68))) := (below_all _ _).alloc (by simp) _
  have HX2 : Hid (Bx ((w.alloc (.cells #[.slice (some ⟨g1, 0, none⟩) st.x.n c1, .slice (some ⟨g2, 0, none⟩) st.x.m c2, .slice (some ⟨gm, 0, none⟩) st.ms.length cm, .slice (some ⟨gt, 0, none⟩) st.ts.length ct, .int .i64 st.tm, .slice ao ps.length c0] 68)).alloc (.cells #[.slice none 0 0, .slice none 0 0, .slice none 0 0, .slice none 0 0, .int .i64 0, .slice none 0 0] 68)) w.heap.size 68 #[.slice (some ⟨g1, 0, none⟩) st.x.n c1, .slice (some ⟨g2, 0, none⟩) st.x.m c2, .slice (some ⟨gm, 0, none⟩) st.ms.length cm, .slice (some ⟨gt, 0, none⟩) st.ts.length ct, .int .i64 st.tm, .slice ao ps.length c0]) := (Bx.new _ _ _).alloc _
  have HX4 : Hid (Bx ((w.alloc (.cells #[.slice (some ⟨g1, 0, none⟩) st.x.n c1, .slice (some ⟨g2, 0, none⟩) st.x.m c2, .slice (some ⟨gm, 0, none⟩) st.ms.length cm, .slice (some ⟨gt, 0, none⟩) st.ts.length ct, .int .i64 st.tm, .slice ao ps.length c0] 68)).alloc (.cells #[.slice none 0 0, .slice none 0 0, .slice none 0 0, .slice none 0 0, .int .i64 0, .slice none 0 0] 68)) (w.heap.size + 1) 68 #[.slice none 0 0, .slice none 0 0, .slice none 0 0, .slice none 0 0, .int .i64 0, .slice none 0 0]) := Bx.newAt (by simp)
  have HZ0 : Hid (((w.alloc (.cells #[.slice (some ⟨g1, 0, none⟩) st.x.n c1, .slice (some ⟨g2, 0, none⟩) st.x.m c2, .slice (some ⟨gm, 0, none⟩) st.ms.length cm, .slice (some ⟨gt, 0, none⟩) st.ts.length ct, .int .i64 st.tm, .slice ao ps.length c0] 68)).alloc (.cells #[.slice none 0 0, .slice none 0 0, .slice none 0 0, .slice none 0 0, .int .i64 0, .slice none 0 0] 68)).heap.size = w.heap.size + 2) := by show _ = _; simp
  have HM := Lib.hid hM
  have HK := Lib.hid hk
  have HP := Lib.hid hp
  have hbl : bw < w.heap.size := World.block_lt_of_cell? w ⟨bw, 0, none⟩ (hw 0 (by omega))
  have HW : Hid (∀ W, Below w.heap.size w W → ∀ i, i < q + 1 → W.cell? ⟨bw, i, none⟩ = some (.string (tx i))) := fun W h i hi => by rw [h.cell (p := ⟨bw, i, none⟩) hbl]; exact hw i hi
  have HNB := Lib.hid (l9Numbers_any bw cw q tx ((w.alloc (.cells #[.slice (some ⟨g1, 0, none⟩) st.x.n c1, .slice (some ⟨g2, 0, none⟩) st.x.m c2, .slice (some ⟨gm, 0, none⟩) st.ms.length cm, .slice (some ⟨gt, 0, none⟩) st.ts.length ct, .int .i64 st.tm, .slice ao ps.length c0] 68)).alloc (.cells #[.slice none 0 0, .slice none 0 0, .slice none 0 0, .slice none 0 0, .int .i64 0, .slice none 0 0] 68)) hq (HW.out _ HB0.out))
  clear hM hk hp hw
  go_enter Tryz.func41, Tryz.ntmps41
  go_wp2_with fail
  generalize (w.alloc (.cells #[.slice (some ⟨g1, 0, none⟩) st.x.n c1, .slice (some ⟨g2, 0, none⟩) st.x.m c2, .slice (some ⟨gm, 0, none⟩) st.ms.length cm, .slice (some ⟨gt, 0, none⟩) st.ts.length ct, .int .i64 st.tm, .slice ao ps.length c0] 68)).alloc (.cells #[.slice none 0 0, .slice none 0 0, .slice none 0 0, .slice none 0 0, .int .i64 0, .slice none 0 0] 68) = w0 at *
  refine HNB.out.mono ?_
  rintro e w2 ⟨⟨gn, cn, rfl, hnc, hgz, hgl, hqc⟩, hb2⟩
  have hz0 := HZ0.out
  have hz2 := hb2.size
  have HB2 := Lib.hid (HB0.out.trans (hb2.mono HB0.out.size))
  have hsx := (HX2.out.below hb2 HX2.out.lt).cell
  have HM3 : Hid (∀ c7, LiM w (w2.alloc (.cells c7 68)) w2.heap.size gn bw q tx #[.slice (some ⟨g1, 0, none⟩) st.x.n c1, .slice (some ⟨g2, 0, none⟩) st.x.m c2, .slice (some ⟨gm, 0, none⟩) st.ms.length cm, .slice (some ⟨gt, 0, none⟩) st.ts.length ct, .int .i64 st.tm, .slice ao ps.length c0] #[.slice none 0 0, .slice none 0 0, .slice none 0 0, .slice none 0 0, .int .i64 0, .slice none 0 0] c7) := fun c7 => ⟨(HX2.out.below hb2 HX2.out.lt).alloc _, (HX4.out.below hb2 HX4.out.lt).alloc _, Bx.new _ _ _, HB2.out.alloc HB2.out.size _, hnc.keep (below_all _ _), by omega, by omega, hgl, hbl, fun i hi => HW.out _ (HB2.out.alloc HB2.out.size _) i hi⟩
  have HQC : Hid (q ≤ cn) := hqc
  have hs2 := fun c7 => (HM3.out c7).x2.cell
  have hwd : ∀ c7, (w2.alloc (.cells c7 68)).cell? ⟨bw, 0, none⟩ = some (.string (tx 0)) := fun c7 => (HM3.out c7).wd 0 (by omega)
  clear hb2 hnc HB0 HX2 HX4 HZ0 HNB hgz hgl hz0 hz2 HB2 hqc
  go_wp2_with fail
  have HMA : Hid (LiM w (w2.alloc (.cells #[.slice (some ⟨g1, 0, none⟩) st.x.n c1, .slice (some ⟨g2, 0, none⟩) st.x.m c2, .slice (some ⟨gm, 0, none⟩) st.ms.length cm, .slice (some ⟨gt, 0, none⟩) st.ts.length ct, .int .i64 st.tm, .slice ao ps.length c0] 68)) w2.heap.size gn bw q tx #[.slice (some ⟨g1, 0, none⟩) st.x.n c1, .slice (some ⟨g2, 0, none⟩) st.x.m c2, .slice (some ⟨gm, 0, none⟩) st.ms.length cm, .slice (some ⟨gt, 0, none⟩) st.ts.length ct, .int .i64 st.tm, .slice ao ps.length c0] #[.slice none 0 0, .slice none 0 0, .slice none 0 0, .slice none 0 0, .int .i64 0, .slice none 0 0] #[.slice (some ⟨g1, 0, none⟩) st.x.n c1, .slice (some ⟨g2, 0, none⟩) st.x.m c2, .slice (some ⟨gm, 0, none⟩) st.ms.length cm, .slice (some ⟨gt, 0, none⟩) st.ts.length ct, .int .i64 st.tm, .slice ao ps.length c0]) := HM3.out _
  clear hwd hsx HM3 hs2
  generalize w2.alloc (.cells #[.slice (some ⟨g1, 0, none⟩) st.x.n c1, .slice (some ⟨g2, 0, none⟩) st.x.m c2, .slice (some ⟨gm, 0, none⟩) st.ms.length cm, .slice (some ⟨gt, 0, none⟩) st.ts.length ct, .int .i64 st.tm, .slice ao ps.length c0] 68) = w3 at *
  generalize w2.heap.size = b7 at *
  have HMD := Lib.hid (HMA.out.below (Below.refl _ _).drew)
  clear HMA
  have HWD : Hid (w3.drew = w3.drew) := rfl
  revert HMD HWD
  generalize hWD : w3.drew = W
  intro HMD _
  have HWD := Lib.hid hWD
  clear hWD
  have hnm := nmF_bd (tx 1)
  have ht0 := HK.out.t0
  have ht1 := HK.out.t1
  have HCC : Hid (∀ V, Below W.heap.size W V → ∀ o, V.cell? ⟨w.heap.size, o, none⟩ = (#[.slice (some ⟨g1, 0, none⟩) st.x.n c1, .slice (some ⟨g2, 0, none⟩) st.x.m c2, .slice (some ⟨gm, 0, none⟩) st.ms.length cm, .slice (some ⟨gt, 0, none⟩) st.ts.length ct, .int .i64 st.tm, .slice ao ps.length c0] : Array Value)[o]?) := fun V h => (HMD.out.below h).x2.cell
  refine wp_region_held_drew (S := fun W => ∀ o, W.cell? ⟨w.heap.size, o, none⟩ = (#[.slice (some ⟨g1, 0, none⟩) st.x.n c1, .slice (some ⟨g2, 0, none⟩) st.x.m c2, .slice (some ⟨gm, 0, none⟩) st.ms.length cm, .slice (some ⟨gt, 0, none⟩) st.ts.length ct, .int .i64 st.tm, .slice ao ps.length c0] : Array Value)[o]?) (by kernel_rfl) (by rw [HWD.out]; exact HCC.out _ (Below.refl _ _)) (fun hHeld => ?_)
  rw [HWD.out] at hHeld ⊢
  refine tkR 0 ?_
  refine tkR 1 ?_
  refine tkR 2 ?_
  refine r1R 3 (fun K hK => ?_)
  go_simp
  go_at_call 64
  go_must (refine Calls.mono (HAS.out _ HMD.out.bl) ?_)
  rintro e w5 ⟨rfl, hb5⟩
  have HB5 := Lib.hid hb5
  have HM5 := Lib.hid (HMD.out.below hb5)
  have hf4 := HM5.out.x4.free
  have hc4 := HM5.out.x4.cell
  clear hb5
  refine oR hK ?_ (fun hHeld => ?_)
  ·try dsimp only
   exact HCC.out _ HB5.out
  clear hK K
  obtain ⟨HXE, HFE⟩ := st6_both HM5.out.x4 (.slice (some ⟨g1, 0, none⟩) st.x.n c1) (.slice (some ⟨g2, 0, none⟩) st.x.m c2) (.slice (some ⟨gm, 0, none⟩) st.ms.length cm) (.slice (some ⟨gt, 0, none⟩) st.ts.length ct) (.int .i64 st.tm) (.slice ao ps.length c0)
  have hX2 := (((((HM5.out.x2.setOther (a := ⟨w.heap.size + 1, 0, none⟩) (by show w.heap.size ≠ w.heap.size + 1; omega) (.slice (some ⟨g1, 0, none⟩) st.x.n c1)).setOther (a := ⟨w.heap.size + 1, 1, none⟩) (by show w.heap.size ≠ w.heap.size + 1; omega) (.slice (some ⟨g2, 0, none⟩) st.x.m c2)).setOther (a := ⟨w.heap.size + 1, 2, none⟩) (by show w.heap.size ≠ w.heap.size + 1; omega) (.slice (some ⟨gm, 0, none⟩) st.ms.length cm)).setOther (a := ⟨w.heap.size + 1, 3, none⟩) (by show w.heap.size ≠ w.heap.size + 1; omega) (.slice (some ⟨gt, 0, none⟩) st.ts.length ct)).setOther (a := ⟨w.heap.size + 1, 4, none⟩) (by show w.heap.size ≠ w.heap.size + 1; omega) (.int .i64 st.tm)).setOther (a := ⟨w.heap.size + 1, 5, none⟩) (by show w.heap.size ≠ w.heap.size + 1; omega) (.slice ao ps.length c0)
  have hec := HXE.cell
  have HBE := HM5.out.bl.trans (HFE.below (B := w.heap.size) (fun k hk => by omega) HM5.out.bl.size)
  refine r1R 4 (fun K hK => ?_)
  go_simp
  skip
  refine oR hK ?_ (fun hHeld => ?_)
  ·try dsimp only
   exact hX2.cell
  clear hK K
  refine tkR 5 ?_
  refine wpAnyH_done (by kernel_rfl) ?_ _
  clear hHeld
  go_wp2_with fail
  refine bodyPost_ret (v := .tuple #[.agg #[.slice (some ⟨g1, 0, none⟩) st.x.n c1, .slice (some ⟨g2, 0, none⟩) st.x.m c2, .slice (some ⟨gm, 0, none⟩) st.ms.length cm, .slice (some ⟨gt, 0, none⟩) st.ts.length ct, .int .i64 st.tm, .slice ao ps.length c0], .string (tt ++ ⟨#[10]⟩)]) (by simp [results, Tryz.results41, go_sem, hec]; try rfl) rfl ⟨HBE, ?_⟩
  exact ⟨g1, c1, g2, c2, gm, cm, gt, ct, ao, c0, rfl, HM.out.keep HBE, .inr (.inl ⟨rfl, rfl⟩)⟩
set_option linter.unusedSimpArgs false in
set_option maxRecDepth 100000 in
set_option maxHeartbeats 8000000 in
theorem l9Line_what1 (g1 c1 g2 c2 gm cm gt ct c0 bw cw q : Nat) (ao : Option Addr) (st : Ses) (ps : List Pt) (tx : Nat → ByteArray) (w : World) (hM : SpM w g1 g2 gm gt ao st ps) (hk : SesOk st) (hp : PsOk st.x.n ps) (hq : q < 1000000) (hw : ∀ i, i < q + 1 → w.cell? ⟨bw, i, none⟩ = some (.string (tx i))) (hc : ixC (tx 0) = 1) (hn : ¬ q = 1) :
    Calls Tryz.prog 41 #[.agg #[.slice (some ⟨g1, 0, none⟩) st.x.n c1, .slice (some ⟨g2, 0, none⟩) st.x.m c2, .slice (some ⟨gm, 0, none⟩) st.ms.length cm, .slice (some ⟨gt, 0, none⟩) st.ts.length ct, .int .i64 st.tm, .slice ao ps.length c0], .slice (some ⟨bw, 0, none⟩) (q + 1) cw] w (LiR st ps ao (some (st, ps)) (askX st ps tx (cmdK (tx 0) (q + 1))) w) := by
  have hy := wd_y1 hc
  have hqb : ((q : Int) == 1) = false := beq_eq_false_iff_ne.2 (by omega)
  clear hc hn
  have HAS : Hid (∀ W, Below w.heap.size w W → Calls Tryz.prog 64 #[.agg #[.slice (some ⟨g1, 0, none⟩) st.x.n c1, .slice (some ⟨g2, 0, none⟩) st.x.m c2, .slice (some ⟨gm, 0, none⟩) st.ms.length cm, .slice (some ⟨gt, 0, none⟩) st.ts.length ct, .int .i64 st.tm, .slice ao ps.length c0], .slice (some ⟨bw, 0, none⟩) (q + 1) cw] W fun e w' => e = .returned (.string (askX st ps tx (cmdK (tx 0) (q + 1)) ++ ⟨#[10]⟩)) ∧ Below W.heap.size W w') := fun W h => l9Ask_any g1 c1 g2 c2 gm cm gt ct c0 bw cw q ao st ps tx W (hM.keep h) hk hp hq (fun i hi => by rw [h.cell (p := ⟨bw, i, none⟩) (World.block_lt_of_cell? w ⟨bw, 0, none⟩ (hw 0 (by omega)))]; exact hw i hi)
  generalize askX st ps tx (cmdK (tx 0) (q + 1)) = tt at *
  have HB0 : Hid (Below w.heap.size w ((w.alloc (.cells #[.slice (some ⟨g1, 0, none⟩) st.x.n c1, .slice (some ⟨g2, 0, none⟩) st.x.m c2, .slice (some ⟨gm, 0, none⟩) st.ms.length cm, .slice (some ⟨gt, 0, none⟩) st.ts.length ct, .int .i64 st.tm, .slice ao ps.length c0] 68)).alloc (.cells #[.slice none 0 0, .slice none 0 0, .slice none 0 0, .slice none 0 0, .int .i64 0, .slice none 0 0] 68))) := (below_all _ _).alloc (by simp) _
  have HX2 : Hid (Bx ((w.alloc (.cells #[.slice (some ⟨g1, 0, none⟩) st.x.n c1, .slice (some ⟨g2, 0, none⟩) st.x.m c2, .slice (some ⟨gm, 0, none⟩) st.ms.length cm, .slice (some ⟨gt, 0, none⟩) st.ts.length ct, .int .i64 st.tm, .slice ao ps.length c0] 68)).alloc (.cells #[.slice none 0 0, .slice none 0 0, .slice none 0 0, .slice none 0 0, .int .i64 0, .slice none 0 0] 68)) w.heap.size 68 #[.slice (some ⟨g1, 0, none⟩) st.x.n c1, .slice (some ⟨g2, 0, none⟩) st.x.m c2, .slice (some ⟨gm, 0, none⟩) st.ms.length cm, .slice (some ⟨gt, 0, none⟩) st.ts.length ct, .int .i64 st.tm, .slice ao ps.length c0]) := (Bx.new _ _ _).alloc _
  have HX4 : Hid (Bx ((w.alloc (.cells #[.slice (some ⟨g1, 0, none⟩) st.x.n c1, .slice (some ⟨g2, 0, none⟩) st.x.m c2, .slice (some ⟨gm, 0, none⟩) st.ms.length cm, .slice (some ⟨gt, 0, none⟩) st.ts.length ct, .int .i64 st.tm, .slice ao ps.length c0] 68)).alloc (.cells #[.slice none 0 0, .slice none 0 0, .slice none 0 0, .slice none 0 0, .int .i64 0, .slice none 0 0] 68)) (w.heap.size + 1) 68 #[.slice none 0 0, .slice none 0 0, .slice none 0 0, .slice none 0 0, .int .i64 0, .slice none 0 0]) := Bx.newAt (by simp)
  have HZ0 : Hid (((w.alloc (.cells #[.slice (some ⟨g1, 0, none⟩) st.x.n c1, .slice (some ⟨g2, 0, none⟩) st.x.m c2, .slice (some ⟨gm, 0, none⟩) st.ms.length cm, .slice (some ⟨gt, 0, none⟩) st.ts.length ct, .int .i64 st.tm, .slice ao ps.length c0] 68)).alloc (.cells #[.slice none 0 0, .slice none 0 0, .slice none 0 0, .slice none 0 0, .int .i64 0, .slice none 0 0] 68)).heap.size = w.heap.size + 2) := by show _ = _; simp
  have HM := Lib.hid hM
  have HK := Lib.hid hk
  have HP := Lib.hid hp
  have hbl : bw < w.heap.size := World.block_lt_of_cell? w ⟨bw, 0, none⟩ (hw 0 (by omega))
  have HW : Hid (∀ W, Below w.heap.size w W → ∀ i, i < q + 1 → W.cell? ⟨bw, i, none⟩ = some (.string (tx i))) := fun W h i hi => by rw [h.cell (p := ⟨bw, i, none⟩) hbl]; exact hw i hi
  have HNB := Lib.hid (l9Numbers_any bw cw q tx ((w.alloc (.cells #[.slice (some ⟨g1, 0, none⟩) st.x.n c1, .slice (some ⟨g2, 0, none⟩) st.x.m c2, .slice (some ⟨gm, 0, none⟩) st.ms.length cm, .slice (some ⟨gt, 0, none⟩) st.ts.length ct, .int .i64 st.tm, .slice ao ps.length c0] 68)).alloc (.cells #[.slice none 0 0, .slice none 0 0, .slice none 0 0, .slice none 0 0, .int .i64 0, .slice none 0 0] 68)) hq (HW.out _ HB0.out))
  clear hM hk hp hw
  go_enter Tryz.func41, Tryz.ntmps41
  go_wp2_with fail
  generalize (w.alloc (.cells #[.slice (some ⟨g1, 0, none⟩) st.x.n c1, .slice (some ⟨g2, 0, none⟩) st.x.m c2, .slice (some ⟨gm, 0, none⟩) st.ms.length cm, .slice (some ⟨gt, 0, none⟩) st.ts.length ct, .int .i64 st.tm, .slice ao ps.length c0] 68)).alloc (.cells #[.slice none 0 0, .slice none 0 0, .slice none 0 0, .slice none 0 0, .int .i64 0, .slice none 0 0] 68) = w0 at *
  refine HNB.out.mono ?_
  rintro e w2 ⟨⟨gn, cn, rfl, hnc, hgz, hgl, hqc⟩, hb2⟩
  have hz0 := HZ0.out
  have hz2 := hb2.size
  have HB2 := Lib.hid (HB0.out.trans (hb2.mono HB0.out.size))
  have hsx := (HX2.out.below hb2 HX2.out.lt).cell
  have HM3 : Hid (∀ c7, LiM w (w2.alloc (.cells c7 68)) w2.heap.size gn bw q tx #[.slice (some ⟨g1, 0, none⟩) st.x.n c1, .slice (some ⟨g2, 0, none⟩) st.x.m c2, .slice (some ⟨gm, 0, none⟩) st.ms.length cm, .slice (some ⟨gt, 0, none⟩) st.ts.length ct, .int .i64 st.tm, .slice ao ps.length c0] #[.slice none 0 0, .slice none 0 0, .slice none 0 0, .slice none 0 0, .int .i64 0, .slice none 0 0] c7) := fun c7 => ⟨(HX2.out.below hb2 HX2.out.lt).alloc _, (HX4.out.below hb2 HX4.out.lt).alloc _, Bx.new _ _ _, HB2.out.alloc HB2.out.size _, hnc.keep (below_all _ _), by omega, by omega, hgl, hbl, fun i hi => HW.out _ (HB2.out.alloc HB2.out.size _) i hi⟩
  have HQC : Hid (q ≤ cn) := hqc
  have hs2 := fun c7 => (HM3.out c7).x2.cell
  have hwd : ∀ c7, (w2.alloc (.cells c7 68)).cell? ⟨bw, 0, none⟩ = some (.string (tx 0)) := fun c7 => (HM3.out c7).wd 0 (by omega)
  clear hb2 hnc HB0 HX2 HX4 HZ0 HNB hgz hgl hz0 hz2 HB2 hqc
  go_wp2_with fail
  have HMA : Hid (LiM w (w2.alloc (.cells #[.slice (some ⟨g1, 0, none⟩) st.x.n c1, .slice (some ⟨g2, 0, none⟩) st.x.m c2, .slice (some ⟨gm, 0, none⟩) st.ms.length cm, .slice (some ⟨gt, 0, none⟩) st.ts.length ct, .int .i64 st.tm, .slice ao ps.length c0] 68)) w2.heap.size gn bw q tx #[.slice (some ⟨g1, 0, none⟩) st.x.n c1, .slice (some ⟨g2, 0, none⟩) st.x.m c2, .slice (some ⟨gm, 0, none⟩) st.ms.length cm, .slice (some ⟨gt, 0, none⟩) st.ts.length ct, .int .i64 st.tm, .slice ao ps.length c0] #[.slice none 0 0, .slice none 0 0, .slice none 0 0, .slice none 0 0, .int .i64 0, .slice none 0 0] #[.slice (some ⟨g1, 0, none⟩) st.x.n c1, .slice (some ⟨g2, 0, none⟩) st.x.m c2, .slice (some ⟨gm, 0, none⟩) st.ms.length cm, .slice (some ⟨gt, 0, none⟩) st.ts.length ct, .int .i64 st.tm, .slice ao ps.length c0]) := HM3.out _
  clear hwd hsx HM3 hs2
  generalize w2.alloc (.cells #[.slice (some ⟨g1, 0, none⟩) st.x.n c1, .slice (some ⟨g2, 0, none⟩) st.x.m c2, .slice (some ⟨gm, 0, none⟩) st.ms.length cm, .slice (some ⟨gt, 0, none⟩) st.ts.length ct, .int .i64 st.tm, .slice ao ps.length c0] 68) = w3 at *
  generalize w2.heap.size = b7 at *
  have HMD := Lib.hid (HMA.out.below (Below.refl _ _).drew)
  clear HMA
  have HWD : Hid (w3.drew = w3.drew) := rfl
  revert HMD HWD
  generalize hWD : w3.drew = W
  intro HMD _
  have HWD := Lib.hid hWD
  clear hWD
  have hnm := nmF_bd (tx 1)
  have ht0 := HK.out.t0
  have ht1 := HK.out.t1
  have HCC : Hid (∀ V, Below W.heap.size W V → ∀ o, V.cell? ⟨w.heap.size, o, none⟩ = (#[.slice (some ⟨g1, 0, none⟩) st.x.n c1, .slice (some ⟨g2, 0, none⟩) st.x.m c2, .slice (some ⟨gm, 0, none⟩) st.ms.length cm, .slice (some ⟨gt, 0, none⟩) st.ts.length ct, .int .i64 st.tm, .slice ao ps.length c0] : Array Value)[o]?) := fun V h => (HMD.out.below h).x2.cell
  refine wp_region_held_drew (S := fun W => ∀ o, W.cell? ⟨w.heap.size, o, none⟩ = (#[.slice (some ⟨g1, 0, none⟩) st.x.n c1, .slice (some ⟨g2, 0, none⟩) st.x.m c2, .slice (some ⟨gm, 0, none⟩) st.ms.length cm, .slice (some ⟨gt, 0, none⟩) st.ts.length ct, .int .i64 st.tm, .slice ao ps.length c0] : Array Value)[o]?) (by kernel_rfl) (by rw [HWD.out]; exact HCC.out _ (Below.refl _ _)) (fun hHeld => ?_)
  rw [HWD.out] at hHeld ⊢
  refine tkR 0 ?_
  refine tkR 1 ?_
  refine tkR 2 ?_
  refine r1R 3 (fun K hK => ?_)
  go_simp
  go_at_call 64
  go_must (refine Calls.mono (HAS.out _ HMD.out.bl) ?_)
  rintro e w5 ⟨rfl, hb5⟩
  have HB5 := Lib.hid hb5
  have HM5 := Lib.hid (HMD.out.below hb5)
  have hf4 := HM5.out.x4.free
  have hc4 := HM5.out.x4.cell
  clear hb5
  refine oR hK ?_ (fun hHeld => ?_)
  ·try dsimp only
   exact HCC.out _ HB5.out
  clear hK K
  obtain ⟨HXE, HFE⟩ := st6_both HM5.out.x4 (.slice (some ⟨g1, 0, none⟩) st.x.n c1) (.slice (some ⟨g2, 0, none⟩) st.x.m c2) (.slice (some ⟨gm, 0, none⟩) st.ms.length cm) (.slice (some ⟨gt, 0, none⟩) st.ts.length ct) (.int .i64 st.tm) (.slice ao ps.length c0)
  have hX2 := (((((HM5.out.x2.setOther (a := ⟨w.heap.size + 1, 0, none⟩) (by show w.heap.size ≠ w.heap.size + 1; omega) (.slice (some ⟨g1, 0, none⟩) st.x.n c1)).setOther (a := ⟨w.heap.size + 1, 1, none⟩) (by show w.heap.size ≠ w.heap.size + 1; omega) (.slice (some ⟨g2, 0, none⟩) st.x.m c2)).setOther (a := ⟨w.heap.size + 1, 2, none⟩) (by show w.heap.size ≠ w.heap.size + 1; omega) (.slice (some ⟨gm, 0, none⟩) st.ms.length cm)).setOther (a := ⟨w.heap.size + 1, 3, none⟩) (by show w.heap.size ≠ w.heap.size + 1; omega) (.slice (some ⟨gt, 0, none⟩) st.ts.length ct)).setOther (a := ⟨w.heap.size + 1, 4, none⟩) (by show w.heap.size ≠ w.heap.size + 1; omega) (.int .i64 st.tm)).setOther (a := ⟨w.heap.size + 1, 5, none⟩) (by show w.heap.size ≠ w.heap.size + 1; omega) (.slice ao ps.length c0)
  have hec := HXE.cell
  have HBE := HM5.out.bl.trans (HFE.below (B := w.heap.size) (fun k hk => by omega) HM5.out.bl.size)
  refine r1R 4 (fun K hK => ?_)
  go_simp
  skip
  refine oR hK ?_ (fun hHeld => ?_)
  ·try dsimp only
   exact hX2.cell
  clear hK K
  refine tkR 5 ?_
  refine wpAnyH_done (by kernel_rfl) ?_ _
  clear hHeld
  go_wp2_with fail
  refine bodyPost_ret (v := .tuple #[.agg #[.slice (some ⟨g1, 0, none⟩) st.x.n c1, .slice (some ⟨g2, 0, none⟩) st.x.m c2, .slice (some ⟨gm, 0, none⟩) st.ms.length cm, .slice (some ⟨gt, 0, none⟩) st.ts.length ct, .int .i64 st.tm, .slice ao ps.length c0], .string (tt ++ ⟨#[10]⟩)]) (by simp [results, Tryz.results41, go_sem, hec]; try rfl) rfl ⟨HBE, ?_⟩
  exact ⟨g1, c1, g2, c2, gm, cm, gt, ct, ao, c0, rfl, HM.out.keep HBE, .inr (.inl ⟨rfl, rfl⟩)⟩
set_option linter.unusedSimpArgs false in
set_option maxRecDepth 100000 in
set_option maxHeartbeats 8000000 in
theorem l9Line_what2 (g1 c1 g2 c2 gm cm gt ct c0 bw cw q : Nat) (ao : Option Addr) (st : Ses) (ps : List Pt) (tx : Nat → ByteArray) (w : World) (hM : SpM w g1 g2 gm gt ao st ps) (hk : SesOk st) (hp : PsOk st.x.n ps) (hq : q < 1000000) (hw : ∀ i, i < q + 1 → w.cell? ⟨bw, i, none⟩ = some (.string (tx i))) (hc : ixC (tx 0) = 2) (hn : ¬ q = 2) :
    Calls Tryz.prog 41 #[.agg #[.slice (some ⟨g1, 0, none⟩) st.x.n c1, .slice (some ⟨g2, 0, none⟩) st.x.m c2, .slice (some ⟨gm, 0, none⟩) st.ms.length cm, .slice (some ⟨gt, 0, none⟩) st.ts.length ct, .int .i64 st.tm, .slice ao ps.length c0], .slice (some ⟨bw, 0, none⟩) (q + 1) cw] w (LiR st ps ao (some (st, ps)) (askX st ps tx (cmdK (tx 0) (q + 1))) w) := by
  have hy := wd_y2 hc
  have hqb : ((q : Int) == 2) = false := beq_eq_false_iff_ne.2 (by omega)
  clear hc hn
  have HAS : Hid (∀ W, Below w.heap.size w W → Calls Tryz.prog 64 #[.agg #[.slice (some ⟨g1, 0, none⟩) st.x.n c1, .slice (some ⟨g2, 0, none⟩) st.x.m c2, .slice (some ⟨gm, 0, none⟩) st.ms.length cm, .slice (some ⟨gt, 0, none⟩) st.ts.length ct, .int .i64 st.tm, .slice ao ps.length c0], .slice (some ⟨bw, 0, none⟩) (q + 1) cw] W fun e w' => e = .returned (.string (askX st ps tx (cmdK (tx 0) (q + 1)) ++ ⟨#[10]⟩)) ∧ Below W.heap.size W w') := fun W h => l9Ask_any g1 c1 g2 c2 gm cm gt ct c0 bw cw q ao st ps tx W (hM.keep h) hk hp hq (fun i hi => by rw [h.cell (p := ⟨bw, i, none⟩) (World.block_lt_of_cell? w ⟨bw, 0, none⟩ (hw 0 (by omega)))]; exact hw i hi)
  generalize askX st ps tx (cmdK (tx 0) (q + 1)) = tt at *
  have HB0 : Hid (Below w.heap.size w ((w.alloc (.cells #[.slice (some ⟨g1, 0, none⟩) st.x.n c1, .slice (some ⟨g2, 0, none⟩) st.x.m c2, .slice (some ⟨gm, 0, none⟩) st.ms.length cm, .slice (some ⟨gt, 0, none⟩) st.ts.length ct, .int .i64 st.tm, .slice ao ps.length c0] 68)).alloc (.cells #[.slice none 0 0, .slice none 0 0, .slice none 0 0, .slice none 0 0, .int .i64 0, .slice none 0 0] 68))) := (below_all _ _).alloc (by simp) _
  have HX2 : Hid (Bx ((w.alloc (.cells #[.slice (some ⟨g1, 0, none⟩) st.x.n c1, .slice (some ⟨g2, 0, none⟩) st.x.m c2, .slice (some ⟨gm, 0, none⟩) st.ms.length cm, .slice (some ⟨gt, 0, none⟩) st.ts.length ct, .int .i64 st.tm, .slice ao ps.length c0] 68)).alloc (.cells #[.slice none 0 0, .slice none 0 0, .slice none 0 0, .slice none 0 0, .int .i64 0, .slice none 0 0] 68)) w.heap.size 68 #[.slice (some ⟨g1, 0, none⟩) st.x.n c1, .slice (some ⟨g2, 0, none⟩) st.x.m c2, .slice (some ⟨gm, 0, none⟩) st.ms.length cm, .slice (some ⟨gt, 0, none⟩) st.ts.length ct, .int .i64 st.tm, .slice ao ps.length c0]) := (Bx.new _ _ _).alloc _
  have HX4 : Hid (Bx ((w.alloc (.cells #[.slice (some ⟨g1, 0, none⟩) st.x.n c1, .slice (some ⟨g2, 0, none⟩) st.x.m c2, .slice (some ⟨gm, 0, none⟩) st.ms.length cm, .slice (some ⟨gt, 0, none⟩) st.ts.length ct, .int .i64 st.tm, .slice ao ps.length c0] 68)).alloc (.cells #[.slice none 0 0, .slice none 0 0, .slice none 0 0, .slice none 0 0, .int .i64 0, .slice none 0 0] 68)) (w.heap.size + 1) 68 #[.slice none 0 0, .slice none 0 0, .slice none 0 0, .slice none 0 0, .int .i64 0, .slice none 0 0]) := Bx.newAt (by simp)
  have HZ0 : Hid (((w.alloc (.cells #[.slice (some ⟨g1, 0, none⟩) st.x.n c1, .slice (some ⟨g2, 0, none⟩) st.x.m c2, .slice (some ⟨gm, 0, none⟩) st.ms.length cm, .slice (some ⟨gt, 0, none⟩) st.ts.length ct, .int .i64 st.tm, .slice ao ps.length c0] 68)).alloc (.cells #[.slice none 0 0, .slice none 0 0, .slice none 0 0, .slice none 0 0, .int .i64 0, .slice none 0 0] 68)).heap.size = w.heap.size + 2) := by show _ = _; simp
  have HM := Lib.hid hM
  have HK := Lib.hid hk
  have HP := Lib.hid hp
  have hbl : bw < w.heap.size := World.block_lt_of_cell? w ⟨bw, 0, none⟩ (hw 0 (by omega))
  have HW : Hid (∀ W, Below w.heap.size w W → ∀ i, i < q + 1 → W.cell? ⟨bw, i, none⟩ = some (.string (tx i))) := fun W h i hi => by rw [h.cell (p := ⟨bw, i, none⟩) hbl]; exact hw i hi
  have HNB := Lib.hid (l9Numbers_any bw cw q tx ((w.alloc (.cells #[.slice (some ⟨g1, 0, none⟩) st.x.n c1, .slice (some ⟨g2, 0, none⟩) st.x.m c2, .slice (some ⟨gm, 0, none⟩) st.ms.length cm, .slice (some ⟨gt, 0, none⟩) st.ts.length ct, .int .i64 st.tm, .slice ao ps.length c0] 68)).alloc (.cells #[.slice none 0 0, .slice none 0 0, .slice none 0 0, .slice none 0 0, .int .i64 0, .slice none 0 0] 68)) hq (HW.out _ HB0.out))
  clear hM hk hp hw
  go_enter Tryz.func41, Tryz.ntmps41
  go_wp2_with fail
  generalize (w.alloc (.cells #[.slice (some ⟨g1, 0, none⟩) st.x.n c1, .slice (some ⟨g2, 0, none⟩) st.x.m c2, .slice (some ⟨gm, 0, none⟩) st.ms.length cm, .slice (some ⟨gt, 0, none⟩) st.ts.length ct, .int .i64 st.tm, .slice ao ps.length c0] 68)).alloc (.cells #[.slice none 0 0, .slice none 0 0, .slice none 0 0, .slice none 0 0, .int .i64 0, .slice none 0 0] 68) = w0 at *
  refine HNB.out.mono ?_
  rintro e w2 ⟨⟨gn, cn, rfl, hnc, hgz, hgl, hqc⟩, hb2⟩
  have hz0 := HZ0.out
  have hz2 := hb2.size
  have HB2 := Lib.hid (HB0.out.trans (hb2.mono HB0.out.size))
  have hsx := (HX2.out.below hb2 HX2.out.lt).cell
  have HM3 : Hid (∀ c7, LiM w (w2.alloc (.cells c7 68)) w2.heap.size gn bw q tx #[.slice (some ⟨g1, 0, none⟩) st.x.n c1, .slice (some ⟨g2, 0, none⟩) st.x.m c2, .slice (some ⟨gm, 0, none⟩) st.ms.length cm, .slice (some ⟨gt, 0, none⟩) st.ts.length ct, .int .i64 st.tm, .slice ao ps.length c0] #[.slice none 0 0, .slice none 0 0, .slice none 0 0, .slice none 0 0, .int .i64 0, .slice none 0 0] c7) := fun c7 => ⟨(HX2.out.below hb2 HX2.out.lt).alloc _, (HX4.out.below hb2 HX4.out.lt).alloc _, Bx.new _ _ _, HB2.out.alloc HB2.out.size _, hnc.keep (below_all _ _), by omega, by omega, hgl, hbl, fun i hi => HW.out _ (HB2.out.alloc HB2.out.size _) i hi⟩
  have HQC : Hid (q ≤ cn) := hqc
  have hs2 := fun c7 => (HM3.out c7).x2.cell
  have hwd : ∀ c7, (w2.alloc (.cells c7 68)).cell? ⟨bw, 0, none⟩ = some (.string (tx 0)) := fun c7 => (HM3.out c7).wd 0 (by omega)
  clear hb2 hnc HB0 HX2 HX4 HZ0 HNB hgz hgl hz0 hz2 HB2 hqc
  go_wp2_with fail
  have HMA : Hid (LiM w (w2.alloc (.cells #[.slice (some ⟨g1, 0, none⟩) st.x.n c1, .slice (some ⟨g2, 0, none⟩) st.x.m c2, .slice (some ⟨gm, 0, none⟩) st.ms.length cm, .slice (some ⟨gt, 0, none⟩) st.ts.length ct, .int .i64 st.tm, .slice ao ps.length c0] 68)) w2.heap.size gn bw q tx #[.slice (some ⟨g1, 0, none⟩) st.x.n c1, .slice (some ⟨g2, 0, none⟩) st.x.m c2, .slice (some ⟨gm, 0, none⟩) st.ms.length cm, .slice (some ⟨gt, 0, none⟩) st.ts.length ct, .int .i64 st.tm, .slice ao ps.length c0] #[.slice none 0 0, .slice none 0 0, .slice none 0 0, .slice none 0 0, .int .i64 0, .slice none 0 0] #[.slice (some ⟨g1, 0, none⟩) st.x.n c1, .slice (some ⟨g2, 0, none⟩) st.x.m c2, .slice (some ⟨gm, 0, none⟩) st.ms.length cm, .slice (some ⟨gt, 0, none⟩) st.ts.length ct, .int .i64 st.tm, .slice ao ps.length c0]) := HM3.out _
  clear hwd hsx HM3 hs2
  generalize w2.alloc (.cells #[.slice (some ⟨g1, 0, none⟩) st.x.n c1, .slice (some ⟨g2, 0, none⟩) st.x.m c2, .slice (some ⟨gm, 0, none⟩) st.ms.length cm, .slice (some ⟨gt, 0, none⟩) st.ts.length ct, .int .i64 st.tm, .slice ao ps.length c0] 68) = w3 at *
  generalize w2.heap.size = b7 at *
  have HMD := Lib.hid (HMA.out.below (Below.refl _ _).drew)
  clear HMA
  have HWD : Hid (w3.drew = w3.drew) := rfl
  revert HMD HWD
  generalize hWD : w3.drew = W
  intro HMD _
  have HWD := Lib.hid hWD
  clear hWD
  have hnm := nmF_bd (tx 1)
  have ht0 := HK.out.t0
  have ht1 := HK.out.t1
  have HCC : Hid (∀ V, Below W.heap.size W V → ∀ o, V.cell? ⟨w.heap.size, o, none⟩ = (#[.slice (some ⟨g1, 0, none⟩) st.x.n c1, .slice (some ⟨g2, 0, none⟩) st.x.m c2, .slice (some ⟨gm, 0, none⟩) st.ms.length cm, .slice (some ⟨gt, 0, none⟩) st.ts.length ct, .int .i64 st.tm, .slice ao ps.length c0] : Array Value)[o]?) := fun V h => (HMD.out.below h).x2.cell
  refine wp_region_held_drew (S := fun W => ∀ o, W.cell? ⟨w.heap.size, o, none⟩ = (#[.slice (some ⟨g1, 0, none⟩) st.x.n c1, .slice (some ⟨g2, 0, none⟩) st.x.m c2, .slice (some ⟨gm, 0, none⟩) st.ms.length cm, .slice (some ⟨gt, 0, none⟩) st.ts.length ct, .int .i64 st.tm, .slice ao ps.length c0] : Array Value)[o]?) (by kernel_rfl) (by rw [HWD.out]; exact HCC.out _ (Below.refl _ _)) (fun hHeld => ?_)
  rw [HWD.out] at hHeld ⊢
  refine tkR 0 ?_
  refine tkR 1 ?_
  refine tkR 2 ?_
  refine r1R 3 (fun K hK => ?_)
  go_simp
  go_at_call 64
  go_must (refine Calls.mono (HAS.out _ HMD.out.bl) ?_)
  rintro e w5 ⟨rfl, hb5⟩
  have HB5 := Lib.hid hb5
  have HM5 := Lib.hid (HMD.out.below hb5)
  have hf4 := HM5.out.x4.free
  have hc4 := HM5.out.x4.cell
  clear hb5
  refine oR hK ?_ (fun hHeld => ?_)
  ·try dsimp only
   exact HCC.out _ HB5.out
  clear hK K
  obtain ⟨HXE, HFE⟩ := st6_both HM5.out.x4 (.slice (some ⟨g1, 0, none⟩) st.x.n c1) (.slice (some ⟨g2, 0, none⟩) st.x.m c2) (.slice (some ⟨gm, 0, none⟩) st.ms.length cm) (.slice (some ⟨gt, 0, none⟩) st.ts.length ct) (.int .i64 st.tm) (.slice ao ps.length c0)
  have hX2 := (((((HM5.out.x2.setOther (a := ⟨w.heap.size + 1, 0, none⟩) (by show w.heap.size ≠ w.heap.size + 1; omega) (.slice (some ⟨g1, 0, none⟩) st.x.n c1)).setOther (a := ⟨w.heap.size + 1, 1, none⟩) (by show w.heap.size ≠ w.heap.size + 1; omega) (.slice (some ⟨g2, 0, none⟩) st.x.m c2)).setOther (a := ⟨w.heap.size + 1, 2, none⟩) (by show w.heap.size ≠ w.heap.size + 1; omega) (.slice (some ⟨gm, 0, none⟩) st.ms.length cm)).setOther (a := ⟨w.heap.size + 1, 3, none⟩) (by show w.heap.size ≠ w.heap.size + 1; omega) (.slice (some ⟨gt, 0, none⟩) st.ts.length ct)).setOther (a := ⟨w.heap.size + 1, 4, none⟩) (by show w.heap.size ≠ w.heap.size + 1; omega) (.int .i64 st.tm)).setOther (a := ⟨w.heap.size + 1, 5, none⟩) (by show w.heap.size ≠ w.heap.size + 1; omega) (.slice ao ps.length c0)
  have hec := HXE.cell
  have HBE := HM5.out.bl.trans (HFE.below (B := w.heap.size) (fun k hk => by omega) HM5.out.bl.size)
  refine r1R 4 (fun K hK => ?_)
  go_simp
  skip
  refine oR hK ?_ (fun hHeld => ?_)
  ·try dsimp only
   exact hX2.cell
  clear hK K
  refine tkR 5 ?_
  refine wpAnyH_done (by kernel_rfl) ?_ _
  clear hHeld
  go_wp2_with fail
  refine bodyPost_ret (v := .tuple #[.agg #[.slice (some ⟨g1, 0, none⟩) st.x.n c1, .slice (some ⟨g2, 0, none⟩) st.x.m c2, .slice (some ⟨gm, 0, none⟩) st.ms.length cm, .slice (some ⟨gt, 0, none⟩) st.ts.length ct, .int .i64 st.tm, .slice ao ps.length c0], .string (tt ++ ⟨#[10]⟩)]) (by simp [results, Tryz.results41, go_sem, hec]; try rfl) rfl ⟨HBE, ?_⟩
  exact ⟨g1, c1, g2, c2, gm, cm, gt, ct, ao, c0, rfl, HM.out.keep HBE, .inr (.inl ⟨rfl, rfl⟩)⟩
set_option linter.unusedSimpArgs false in
set_option maxRecDepth 100000 in
set_option maxHeartbeats 8000000 in
theorem l9Line_what3 (g1 c1 g2 c2 gm cm gt ct c0 bw cw q : Nat) (ao : Option Addr) (st : Ses) (ps : List Pt) (tx : Nat → ByteArray) (w : World) (hM : SpM w g1 g2 gm gt ao st ps) (hk : SesOk st) (hp : PsOk st.x.n ps) (hq : q < 1000000) (hw : ∀ i, i < q + 1 → w.cell? ⟨bw, i, none⟩ = some (.string (tx i))) (hc : ixC (tx 0) = 3) (hn : ¬ q = 0) :
    Calls Tryz.prog 41 #[.agg #[.slice (some ⟨g1, 0, none⟩) st.x.n c1, .slice (some ⟨g2, 0, none⟩) st.x.m c2, .slice (some ⟨gm, 0, none⟩) st.ms.length cm, .slice (some ⟨gt, 0, none⟩) st.ts.length ct, .int .i64 st.tm, .slice ao ps.length c0], .slice (some ⟨bw, 0, none⟩) (q + 1) cw] w (LiR st ps ao (some (st, ps)) (askX st ps tx (cmdK (tx 0) (q + 1))) w) := by
  have hy := wd_y3 hc
  have hqb : ((q : Int) == 0) = false := beq_eq_false_iff_ne.2 (by omega)
  clear hc hn
  have HAS : Hid (∀ W, Below w.heap.size w W → Calls Tryz.prog 64 #[.agg #[.slice (some ⟨g1, 0, none⟩) st.x.n c1, .slice (some ⟨g2, 0, none⟩) st.x.m c2, .slice (some ⟨gm, 0, none⟩) st.ms.length cm, .slice (some ⟨gt, 0, none⟩) st.ts.length ct, .int .i64 st.tm, .slice ao ps.length c0], .slice (some ⟨bw, 0, none⟩) (q + 1) cw] W fun e w' => e = .returned (.string (askX st ps tx (cmdK (tx 0) (q + 1)) ++ ⟨#[10]⟩)) ∧ Below W.heap.size W w') := fun W h => l9Ask_any g1 c1 g2 c2 gm cm gt ct c0 bw cw q ao st ps tx W (hM.keep h) hk hp hq (fun i hi => by rw [h.cell (p := ⟨bw, i, none⟩) (World.block_lt_of_cell? w ⟨bw, 0, none⟩ (hw 0 (by omega)))]; exact hw i hi)
  generalize askX st ps tx (cmdK (tx 0) (q + 1)) = tt at *
  have HB0 : Hid (Below w.heap.size w ((w.alloc (.cells #[.slice (some ⟨g1, 0, none⟩) st.x.n c1, .slice (some ⟨g2, 0, none⟩) st.x.m c2, .slice (some ⟨gm, 0, none⟩) st.ms.length cm, .slice (some ⟨gt, 0, none⟩) st.ts.length ct, .int .i64 st.tm, .slice ao ps.length c0] 68)).alloc (.cells #[.slice none 0 0, .slice none 0 0, .slice none 0 0, .slice none 0 0, .int .i64 0, .slice none 0 0] 68))) := (below_all _ _).alloc (by simp) _
  have HX2 : Hid (Bx ((w.alloc (.cells #[.slice (some ⟨g1, 0, none⟩) st.x.n c1, .slice (some ⟨g2, 0, none⟩) st.x.m c2, .slice (some ⟨gm, 0, none⟩) st.ms.length cm, .slice (some ⟨gt, 0, none⟩) st.ts.length ct, .int .i64 st.tm, .slice ao ps.length c0] 68)).alloc (.cells #[.slice none 0 0, .slice none 0 0, .slice none 0 0, .slice none 0 0, .int .i64 0, .slice none 0 0] 68)) w.heap.size 68 #[.slice (some ⟨g1, 0, none⟩) st.x.n c1, .slice (some ⟨g2, 0, none⟩) st.x.m c2, .slice (some ⟨gm, 0, none⟩) st.ms.length cm, .slice (some ⟨gt, 0, none⟩) st.ts.length ct, .int .i64 st.tm, .slice ao ps.length c0]) := (Bx.new _ _ _).alloc _
  have HX4 : Hid (Bx ((w.alloc (.cells #[.slice (some ⟨g1, 0, none⟩) st.x.n c1, .slice (some ⟨g2, 0, none⟩) st.x.m c2, .slice (some ⟨gm, 0, none⟩) st.ms.length cm, .slice (some ⟨gt, 0, none⟩) st.ts.length ct, .int .i64 st.tm, .slice ao ps.length c0] 68)).alloc (.cells #[.slice none 0 0, .slice none 0 0, .slice none 0 0, .slice none 0 0, .int .i64 0, .slice none 0 0] 68)) (w.heap.size + 1) 68 #[.slice none 0 0, .slice none 0 0, .slice none 0 0, .slice none 0 0, .int .i64 0, .slice none 0 0]) := Bx.newAt (by simp)
  have HZ0 : Hid (((w.alloc (.cells #[.slice (some ⟨g1, 0, none⟩) st.x.n c1, .slice (some ⟨g2, 0, none⟩) st.x.m c2, .slice (some ⟨gm, 0, none⟩) st.ms.length cm, .slice (some ⟨gt, 0, none⟩) st.ts.length ct, .int .i64 st.tm, .slice ao ps.length c0] 68)).alloc (.cells #[.slice none 0 0, .slice none 0 0, .slice none 0 0, .slice none 0 0, .int .i64 0, .slice none 0 0] 68)).heap.size = w.heap.size + 2) := by show _ = _; simp
  have HM := Lib.hid hM
  have HK := Lib.hid hk
  have HP := Lib.hid hp
  have hbl : bw < w.heap.size := World.block_lt_of_cell? w ⟨bw, 0, none⟩ (hw 0 (by omega))
  have HW : Hid (∀ W, Below w.heap.size w W → ∀ i, i < q + 1 → W.cell? ⟨bw, i, none⟩ = some (.string (tx i))) := fun W h i hi => by rw [h.cell (p := ⟨bw, i, none⟩) hbl]; exact hw i hi
  have HNB := Lib.hid (l9Numbers_any bw cw q tx ((w.alloc (.cells #[.slice (some ⟨g1, 0, none⟩) st.x.n c1, .slice (some ⟨g2, 0, none⟩) st.x.m c2, .slice (some ⟨gm, 0, none⟩) st.ms.length cm, .slice (some ⟨gt, 0, none⟩) st.ts.length ct, .int .i64 st.tm, .slice ao ps.length c0] 68)).alloc (.cells #[.slice none 0 0, .slice none 0 0, .slice none 0 0, .slice none 0 0, .int .i64 0, .slice none 0 0] 68)) hq (HW.out _ HB0.out))
  clear hM hk hp hw
  go_enter Tryz.func41, Tryz.ntmps41
  go_wp2_with fail
  generalize (w.alloc (.cells #[.slice (some ⟨g1, 0, none⟩) st.x.n c1, .slice (some ⟨g2, 0, none⟩) st.x.m c2, .slice (some ⟨gm, 0, none⟩) st.ms.length cm, .slice (some ⟨gt, 0, none⟩) st.ts.length ct, .int .i64 st.tm, .slice ao ps.length c0] 68)).alloc (.cells #[.slice none 0 0, .slice none 0 0, .slice none 0 0, .slice none 0 0, .int .i64 0, .slice none 0 0] 68) = w0 at *
  refine HNB.out.mono ?_
  rintro e w2 ⟨⟨gn, cn, rfl, hnc, hgz, hgl, hqc⟩, hb2⟩
  have hz0 := HZ0.out
  have hz2 := hb2.size
  have HB2 := Lib.hid (HB0.out.trans (hb2.mono HB0.out.size))
  have hsx := (HX2.out.below hb2 HX2.out.lt).cell
  have HM3 : Hid (∀ c7, LiM w (w2.alloc (.cells c7 68)) w2.heap.size gn bw q tx #[.slice (some ⟨g1, 0, none⟩) st.x.n c1, .slice (some ⟨g2, 0, none⟩) st.x.m c2, .slice (some ⟨gm, 0, none⟩) st.ms.length cm, .slice (some ⟨gt, 0, none⟩) st.ts.length ct, .int .i64 st.tm, .slice ao ps.length c0] #[.slice none 0 0, .slice none 0 0, .slice none 0 0, .slice none 0 0, .int .i64 0, .slice none 0 0] c7) := fun c7 => ⟨(HX2.out.below hb2 HX2.out.lt).alloc _, (HX4.out.below hb2 HX4.out.lt).alloc _, Bx.new _ _ _, HB2.out.alloc HB2.out.size _, hnc.keep (below_all _ _), by omega, by omega, hgl, hbl, fun i hi => HW.out _ (HB2.out.alloc HB2.out.size _) i hi⟩
  have HQC : Hid (q ≤ cn) := hqc
  have hs2 := fun c7 => (HM3.out c7).x2.cell
  have hwd : ∀ c7, (w2.alloc (.cells c7 68)).cell? ⟨bw, 0, none⟩ = some (.string (tx 0)) := fun c7 => (HM3.out c7).wd 0 (by omega)
  clear hb2 hnc HB0 HX2 HX4 HZ0 HNB hgz hgl hz0 hz2 HB2 hqc
  go_wp2_with fail
  have HMA : Hid (LiM w (w2.alloc (.cells #[.slice (some ⟨g1, 0, none⟩) st.x.n c1, .slice (some ⟨g2, 0, none⟩) st.x.m c2, .slice (some ⟨gm, 0, none⟩) st.ms.length cm, .slice (some ⟨gt, 0, none⟩) st.ts.length ct, .int .i64 st.tm, .slice ao ps.length c0] 68)) w2.heap.size gn bw q tx #[.slice (some ⟨g1, 0, none⟩) st.x.n c1, .slice (some ⟨g2, 0, none⟩) st.x.m c2, .slice (some ⟨gm, 0, none⟩) st.ms.length cm, .slice (some ⟨gt, 0, none⟩) st.ts.length ct, .int .i64 st.tm, .slice ao ps.length c0] #[.slice none 0 0, .slice none 0 0, .slice none 0 0, .slice none 0 0, .int .i64 0, .slice none 0 0] #[.slice (some ⟨g1, 0, none⟩) st.x.n c1, .slice (some ⟨g2, 0, none⟩) st.x.m c2, .slice (some ⟨gm, 0, none⟩) st.ms.length cm, .slice (some ⟨gt, 0, none⟩) st.ts.length ct, .int .i64 st.tm, .slice ao ps.length c0]) := HM3.out _
  clear hwd hsx HM3 hs2
  generalize w2.alloc (.cells #[.slice (some ⟨g1, 0, none⟩) st.x.n c1, .slice (some ⟨g2, 0, none⟩) st.x.m c2, .slice (some ⟨gm, 0, none⟩) st.ms.length cm, .slice (some ⟨gt, 0, none⟩) st.ts.length ct, .int .i64 st.tm, .slice ao ps.length c0] 68) = w3 at *
  generalize w2.heap.size = b7 at *
  have HMD := Lib.hid (HMA.out.below (Below.refl _ _).drew)
  clear HMA
  have HWD : Hid (w3.drew = w3.drew) := rfl
  revert HMD HWD
  generalize hWD : w3.drew = W
  intro HMD _
  have HWD := Lib.hid hWD
  clear hWD
  have hnm := nmF_bd (tx 1)
  have ht0 := HK.out.t0
  have ht1 := HK.out.t1
  have HCC : Hid (∀ V, Below W.heap.size W V → ∀ o, V.cell? ⟨w.heap.size, o, none⟩ = (#[.slice (some ⟨g1, 0, none⟩) st.x.n c1, .slice (some ⟨g2, 0, none⟩) st.x.m c2, .slice (some ⟨gm, 0, none⟩) st.ms.length cm, .slice (some ⟨gt, 0, none⟩) st.ts.length ct, .int .i64 st.tm, .slice ao ps.length c0] : Array Value)[o]?) := fun V h => (HMD.out.below h).x2.cell
  refine wp_region_held_drew (S := fun W => ∀ o, W.cell? ⟨w.heap.size, o, none⟩ = (#[.slice (some ⟨g1, 0, none⟩) st.x.n c1, .slice (some ⟨g2, 0, none⟩) st.x.m c2, .slice (some ⟨gm, 0, none⟩) st.ms.length cm, .slice (some ⟨gt, 0, none⟩) st.ts.length ct, .int .i64 st.tm, .slice ao ps.length c0] : Array Value)[o]?) (by kernel_rfl) (by rw [HWD.out]; exact HCC.out _ (Below.refl _ _)) (fun hHeld => ?_)
  rw [HWD.out] at hHeld ⊢
  refine tkR 0 ?_
  refine tkR 1 ?_
  refine tkR 2 ?_
  refine r1R 3 (fun K hK => ?_)
  go_simp
  go_at_call 64
  go_must (refine Calls.mono (HAS.out _ HMD.out.bl) ?_)
  rintro e w5 ⟨rfl, hb5⟩
  have HB5 := Lib.hid hb5
  have HM5 := Lib.hid (HMD.out.below hb5)
  have hf4 := HM5.out.x4.free
  have hc4 := HM5.out.x4.cell
  clear hb5
  refine oR hK ?_ (fun hHeld => ?_)
  ·try dsimp only
   exact HCC.out _ HB5.out
  clear hK K
  obtain ⟨HXE, HFE⟩ := st6_both HM5.out.x4 (.slice (some ⟨g1, 0, none⟩) st.x.n c1) (.slice (some ⟨g2, 0, none⟩) st.x.m c2) (.slice (some ⟨gm, 0, none⟩) st.ms.length cm) (.slice (some ⟨gt, 0, none⟩) st.ts.length ct) (.int .i64 st.tm) (.slice ao ps.length c0)
  have hX2 := (((((HM5.out.x2.setOther (a := ⟨w.heap.size + 1, 0, none⟩) (by show w.heap.size ≠ w.heap.size + 1; omega) (.slice (some ⟨g1, 0, none⟩) st.x.n c1)).setOther (a := ⟨w.heap.size + 1, 1, none⟩) (by show w.heap.size ≠ w.heap.size + 1; omega) (.slice (some ⟨g2, 0, none⟩) st.x.m c2)).setOther (a := ⟨w.heap.size + 1, 2, none⟩) (by show w.heap.size ≠ w.heap.size + 1; omega) (.slice (some ⟨gm, 0, none⟩) st.ms.length cm)).setOther (a := ⟨w.heap.size + 1, 3, none⟩) (by show w.heap.size ≠ w.heap.size + 1; omega) (.slice (some ⟨gt, 0, none⟩) st.ts.length ct)).setOther (a := ⟨w.heap.size + 1, 4, none⟩) (by show w.heap.size ≠ w.heap.size + 1; omega) (.int .i64 st.tm)).setOther (a := ⟨w.heap.size + 1, 5, none⟩) (by show w.heap.size ≠ w.heap.size + 1; omega) (.slice ao ps.length c0)
  have hec := HXE.cell
  have HBE := HM5.out.bl.trans (HFE.below (B := w.heap.size) (fun k hk => by omega) HM5.out.bl.size)
  refine r1R 4 (fun K hK => ?_)
  go_simp
  skip
  refine oR hK ?_ (fun hHeld => ?_)
  ·try dsimp only
   exact hX2.cell
  clear hK K
  refine tkR 5 ?_
  refine wpAnyH_done (by kernel_rfl) ?_ _
  clear hHeld
  go_wp2_with fail
  refine bodyPost_ret (v := .tuple #[.agg #[.slice (some ⟨g1, 0, none⟩) st.x.n c1, .slice (some ⟨g2, 0, none⟩) st.x.m c2, .slice (some ⟨gm, 0, none⟩) st.ms.length cm, .slice (some ⟨gt, 0, none⟩) st.ts.length ct, .int .i64 st.tm, .slice ao ps.length c0], .string (tt ++ ⟨#[10]⟩)]) (by simp [results, Tryz.results41, go_sem, hec]; try rfl) rfl ⟨HBE, ?_⟩
  exact ⟨g1, c1, g2, c2, gm, cm, gt, ct, ao, c0, rfl, HM.out.keep HBE, .inr (.inl ⟨rfl, rfl⟩)⟩
set_option linter.unusedSimpArgs false in
set_option maxRecDepth 100000 in
set_option maxHeartbeats 8000000 in
theorem l9Line_what7 (g1 c1 g2 c2 gm cm gt ct c0 bw cw q : Nat) (ao : Option Addr) (st : Ses) (ps : List Pt) (tx : Nat → ByteArray) (w : World) (hM : SpM w g1 g2 gm gt ao st ps) (hk : SesOk st) (hp : PsOk st.x.n ps) (hq : q < 1000000) (hw : ∀ i, i < q + 1 → w.cell? ⟨bw, i, none⟩ = some (.string (tx i))) (hc : ixC (tx 0) = 7) (hn : ¬ q = st.x.n + 1) :
    Calls Tryz.prog 41 #[.agg #[.slice (some ⟨g1, 0, none⟩) st.x.n c1, .slice (some ⟨g2, 0, none⟩) st.x.m c2, .slice (some ⟨gm, 0, none⟩) st.ms.length cm, .slice (some ⟨gt, 0, none⟩) st.ts.length ct, .int .i64 st.tm, .slice ao ps.length c0], .slice (some ⟨bw, 0, none⟩) (q + 1) cw] w (LiR st ps ao (some (st, ps)) (askX st ps tx (cmdK (tx 0) (q + 1))) w) := by
  have hy := wd_y7 hc
  have hxn := hk.xn
  have hcw : IntKind.i64.wrap (1 + (st.x.n : Int)) = 1 + (st.x.n : Int) := IntWalk.i64_in _ (by omega)
  have hqb : ((q : Int) == 1 + (st.x.n : Int)) = false := beq_eq_false_iff_ne.2 (by omega)
  clear hc hn
  have HAS : Hid (∀ W, Below w.heap.size w W → Calls Tryz.prog 64 #[.agg #[.slice (some ⟨g1, 0, none⟩) st.x.n c1, .slice (some ⟨g2, 0, none⟩) st.x.m c2, .slice (some ⟨gm, 0, none⟩) st.ms.length cm, .slice (some ⟨gt, 0, none⟩) st.ts.length ct, .int .i64 st.tm, .slice ao ps.length c0], .slice (some ⟨bw, 0, none⟩) (q + 1) cw] W fun e w' => e = .returned (.string (askX st ps tx (cmdK (tx 0) (q + 1)) ++ ⟨#[10]⟩)) ∧ Below W.heap.size W w') := fun W h => l9Ask_any g1 c1 g2 c2 gm cm gt ct c0 bw cw q ao st ps tx W (hM.keep h) hk hp hq (fun i hi => by rw [h.cell (p := ⟨bw, i, none⟩) (World.block_lt_of_cell? w ⟨bw, 0, none⟩ (hw 0 (by omega)))]; exact hw i hi)
  generalize askX st ps tx (cmdK (tx 0) (q + 1)) = tt at *
  have HB0 : Hid (Below w.heap.size w ((w.alloc (.cells #[.slice (some ⟨g1, 0, none⟩) st.x.n c1, .slice (some ⟨g2, 0, none⟩) st.x.m c2, .slice (some ⟨gm, 0, none⟩) st.ms.length cm, .slice (some ⟨gt, 0, none⟩) st.ts.length ct, .int .i64 st.tm, .slice ao ps.length c0] 68)).alloc (.cells #[.slice none 0 0, .slice none 0 0, .slice none 0 0, .slice none 0 0, .int .i64 0, .slice none 0 0] 68))) := (below_all _ _).alloc (by simp) _
  have HX2 : Hid (Bx ((w.alloc (.cells #[.slice (some ⟨g1, 0, none⟩) st.x.n c1, .slice (some ⟨g2, 0, none⟩) st.x.m c2, .slice (some ⟨gm, 0, none⟩) st.ms.length cm, .slice (some ⟨gt, 0, none⟩) st.ts.length ct, .int .i64 st.tm, .slice ao ps.length c0] 68)).alloc (.cells #[.slice none 0 0, .slice none 0 0, .slice none 0 0, .slice none 0 0, .int .i64 0, .slice none 0 0] 68)) w.heap.size 68 #[.slice (some ⟨g1, 0, none⟩) st.x.n c1, .slice (some ⟨g2, 0, none⟩) st.x.m c2, .slice (some ⟨gm, 0, none⟩) st.ms.length cm, .slice (some ⟨gt, 0, none⟩) st.ts.length ct, .int .i64 st.tm, .slice ao ps.length c0]) := (Bx.new _ _ _).alloc _
  have HX4 : Hid (Bx ((w.alloc (.cells #[.slice (some ⟨g1, 0, none⟩) st.x.n c1, .slice (some ⟨g2, 0, none⟩) st.x.m c2, .slice (some ⟨gm, 0, none⟩) st.ms.length cm, .slice (some ⟨gt, 0, none⟩) st.ts.length ct, .int .i64 st.tm, .slice ao ps.length c0] 68)).alloc (.cells #[.slice none 0 0, .slice none 0 0, .slice none 0 0, .slice none 0 0, .int .i64 0, .slice none 0 0] 68)) (w.heap.size + 1) 68 #[.slice none 0 0, .slice none 0 0, .slice none 0 0, .slice none 0 0, .int .i64 0, .slice none 0 0]) := Bx.newAt (by simp)
  have HZ0 : Hid (((w.alloc (.cells #[.slice (some ⟨g1, 0, none⟩) st.x.n c1, .slice (some ⟨g2, 0, none⟩) st.x.m c2, .slice (some ⟨gm, 0, none⟩) st.ms.length cm, .slice (some ⟨gt, 0, none⟩) st.ts.length ct, .int .i64 st.tm, .slice ao ps.length c0] 68)).alloc (.cells #[.slice none 0 0, .slice none 0 0, .slice none 0 0, .slice none 0 0, .int .i64 0, .slice none 0 0] 68)).heap.size = w.heap.size + 2) := by show _ = _; simp
  have HM := Lib.hid hM
  have HK := Lib.hid hk
  have HP := Lib.hid hp
  have hbl : bw < w.heap.size := World.block_lt_of_cell? w ⟨bw, 0, none⟩ (hw 0 (by omega))
  have HW : Hid (∀ W, Below w.heap.size w W → ∀ i, i < q + 1 → W.cell? ⟨bw, i, none⟩ = some (.string (tx i))) := fun W h i hi => by rw [h.cell (p := ⟨bw, i, none⟩) hbl]; exact hw i hi
  have HNB := Lib.hid (l9Numbers_any bw cw q tx ((w.alloc (.cells #[.slice (some ⟨g1, 0, none⟩) st.x.n c1, .slice (some ⟨g2, 0, none⟩) st.x.m c2, .slice (some ⟨gm, 0, none⟩) st.ms.length cm, .slice (some ⟨gt, 0, none⟩) st.ts.length ct, .int .i64 st.tm, .slice ao ps.length c0] 68)).alloc (.cells #[.slice none 0 0, .slice none 0 0, .slice none 0 0, .slice none 0 0, .int .i64 0, .slice none 0 0] 68)) hq (HW.out _ HB0.out))
  clear hM hk hp hw
  go_enter Tryz.func41, Tryz.ntmps41
  go_wp2_with fail
  generalize (w.alloc (.cells #[.slice (some ⟨g1, 0, none⟩) st.x.n c1, .slice (some ⟨g2, 0, none⟩) st.x.m c2, .slice (some ⟨gm, 0, none⟩) st.ms.length cm, .slice (some ⟨gt, 0, none⟩) st.ts.length ct, .int .i64 st.tm, .slice ao ps.length c0] 68)).alloc (.cells #[.slice none 0 0, .slice none 0 0, .slice none 0 0, .slice none 0 0, .int .i64 0, .slice none 0 0] 68) = w0 at *
  refine HNB.out.mono ?_
  rintro e w2 ⟨⟨gn, cn, rfl, hnc, hgz, hgl, hqc⟩, hb2⟩
  have hz0 := HZ0.out
  have hz2 := hb2.size
  have HB2 := Lib.hid (HB0.out.trans (hb2.mono HB0.out.size))
  have hsx := (HX2.out.below hb2 HX2.out.lt).cell
  have HM3 : Hid (∀ c7, LiM w (w2.alloc (.cells c7 68)) w2.heap.size gn bw q tx #[.slice (some ⟨g1, 0, none⟩) st.x.n c1, .slice (some ⟨g2, 0, none⟩) st.x.m c2, .slice (some ⟨gm, 0, none⟩) st.ms.length cm, .slice (some ⟨gt, 0, none⟩) st.ts.length ct, .int .i64 st.tm, .slice ao ps.length c0] #[.slice none 0 0, .slice none 0 0, .slice none 0 0, .slice none 0 0, .int .i64 0, .slice none 0 0] c7) := fun c7 => ⟨(HX2.out.below hb2 HX2.out.lt).alloc _, (HX4.out.below hb2 HX4.out.lt).alloc _, Bx.new _ _ _, HB2.out.alloc HB2.out.size _, hnc.keep (below_all _ _), by omega, by omega, hgl, hbl, fun i hi => HW.out _ (HB2.out.alloc HB2.out.size _) i hi⟩
  have HQC : Hid (q ≤ cn) := hqc
  have hs2 := fun c7 => (HM3.out c7).x2.cell
  have hwd : ∀ c7, (w2.alloc (.cells c7 68)).cell? ⟨bw, 0, none⟩ = some (.string (tx 0)) := fun c7 => (HM3.out c7).wd 0 (by omega)
  clear hb2 hnc HB0 HX2 HX4 HZ0 HNB hgz hgl hz0 hz2 HB2 hqc
  go_wp2_with fail
  have HMA : Hid (LiM w (w2.alloc (.cells #[.slice (some ⟨g1, 0, none⟩) st.x.n c1, .slice (some ⟨g2, 0, none⟩) st.x.m c2, .slice (some ⟨gm, 0, none⟩) st.ms.length cm, .slice (some ⟨gt, 0, none⟩) st.ts.length ct, .int .i64 st.tm, .slice ao ps.length c0] 68)) w2.heap.size gn bw q tx #[.slice (some ⟨g1, 0, none⟩) st.x.n c1, .slice (some ⟨g2, 0, none⟩) st.x.m c2, .slice (some ⟨gm, 0, none⟩) st.ms.length cm, .slice (some ⟨gt, 0, none⟩) st.ts.length ct, .int .i64 st.tm, .slice ao ps.length c0] #[.slice none 0 0, .slice none 0 0, .slice none 0 0, .slice none 0 0, .int .i64 0, .slice none 0 0] #[.slice (some ⟨g1, 0, none⟩) st.x.n c1, .slice (some ⟨g2, 0, none⟩) st.x.m c2, .slice (some ⟨gm, 0, none⟩) st.ms.length cm, .slice (some ⟨gt, 0, none⟩) st.ts.length ct, .int .i64 st.tm, .slice ao ps.length c0]) := HM3.out _
  clear hwd hsx HM3 hs2
  generalize w2.alloc (.cells #[.slice (some ⟨g1, 0, none⟩) st.x.n c1, .slice (some ⟨g2, 0, none⟩) st.x.m c2, .slice (some ⟨gm, 0, none⟩) st.ms.length cm, .slice (some ⟨gt, 0, none⟩) st.ts.length ct, .int .i64 st.tm, .slice ao ps.length c0] 68) = w3 at *
  generalize w2.heap.size = b7 at *
  have HMD := Lib.hid (HMA.out.below (Below.refl _ _).drew)
  clear HMA
  have HWD : Hid (w3.drew = w3.drew) := rfl
  revert HMD HWD
  generalize hWD : w3.drew = W
  intro HMD _
  have HWD := Lib.hid hWD
  clear hWD
  have hnm := nmF_bd (tx 1)
  have ht0 := HK.out.t0
  have ht1 := HK.out.t1
  have HCC : Hid (∀ V, Below W.heap.size W V → ∀ o, V.cell? ⟨w.heap.size, o, none⟩ = (#[.slice (some ⟨g1, 0, none⟩) st.x.n c1, .slice (some ⟨g2, 0, none⟩) st.x.m c2, .slice (some ⟨gm, 0, none⟩) st.ms.length cm, .slice (some ⟨gt, 0, none⟩) st.ts.length ct, .int .i64 st.tm, .slice ao ps.length c0] : Array Value)[o]?) := fun V h => (HMD.out.below h).x2.cell
  refine wp_region_held_drew (S := fun W => ∀ o, W.cell? ⟨w.heap.size, o, none⟩ = (#[.slice (some ⟨g1, 0, none⟩) st.x.n c1, .slice (some ⟨g2, 0, none⟩) st.x.m c2, .slice (some ⟨gm, 0, none⟩) st.ms.length cm, .slice (some ⟨gt, 0, none⟩) st.ts.length ct, .int .i64 st.tm, .slice ao ps.length c0] : Array Value)[o]?) (by kernel_rfl) (by rw [HWD.out]; exact HCC.out _ (Below.refl _ _)) (fun hHeld => ?_)
  rw [HWD.out] at hHeld ⊢
  refine tkR 0 ?_
  refine tkR 1 ?_
  refine tkR 2 ?_
  refine r1R 3 (fun K hK => ?_)
  go_simp
  go_at_call 64
  go_must (refine Calls.mono (HAS.out _ HMD.out.bl) ?_)
  rintro e w5 ⟨rfl, hb5⟩
  have HB5 := Lib.hid hb5
  have HM5 := Lib.hid (HMD.out.below hb5)
  have hf4 := HM5.out.x4.free
  have hc4 := HM5.out.x4.cell
  clear hb5
  refine oR hK ?_ (fun hHeld => ?_)
  ·try dsimp only
   exact HCC.out _ HB5.out
  clear hK K
  obtain ⟨HXE, HFE⟩ := st6_both HM5.out.x4 (.slice (some ⟨g1, 0, none⟩) st.x.n c1) (.slice (some ⟨g2, 0, none⟩) st.x.m c2) (.slice (some ⟨gm, 0, none⟩) st.ms.length cm) (.slice (some ⟨gt, 0, none⟩) st.ts.length ct) (.int .i64 st.tm) (.slice ao ps.length c0)
  have hX2 := (((((HM5.out.x2.setOther (a := ⟨w.heap.size + 1, 0, none⟩) (by show w.heap.size ≠ w.heap.size + 1; omega) (.slice (some ⟨g1, 0, none⟩) st.x.n c1)).setOther (a := ⟨w.heap.size + 1, 1, none⟩) (by show w.heap.size ≠ w.heap.size + 1; omega) (.slice (some ⟨g2, 0, none⟩) st.x.m c2)).setOther (a := ⟨w.heap.size + 1, 2, none⟩) (by show w.heap.size ≠ w.heap.size + 1; omega) (.slice (some ⟨gm, 0, none⟩) st.ms.length cm)).setOther (a := ⟨w.heap.size + 1, 3, none⟩) (by show w.heap.size ≠ w.heap.size + 1; omega) (.slice (some ⟨gt, 0, none⟩) st.ts.length ct)).setOther (a := ⟨w.heap.size + 1, 4, none⟩) (by show w.heap.size ≠ w.heap.size + 1; omega) (.int .i64 st.tm)).setOther (a := ⟨w.heap.size + 1, 5, none⟩) (by show w.heap.size ≠ w.heap.size + 1; omega) (.slice ao ps.length c0)
  have hec := HXE.cell
  have HBE := HM5.out.bl.trans (HFE.below (B := w.heap.size) (fun k hk => by omega) HM5.out.bl.size)
  refine r1R 4 (fun K hK => ?_)
  go_simp
  skip
  refine oR hK ?_ (fun hHeld => ?_)
  ·try dsimp only
   exact hX2.cell
  clear hK K
  refine tkR 5 ?_
  refine wpAnyH_done (by kernel_rfl) ?_ _
  clear hHeld
  go_wp2_with fail
  refine bodyPost_ret (v := .tuple #[.agg #[.slice (some ⟨g1, 0, none⟩) st.x.n c1, .slice (some ⟨g2, 0, none⟩) st.x.m c2, .slice (some ⟨gm, 0, none⟩) st.ms.length cm, .slice (some ⟨gt, 0, none⟩) st.ts.length ct, .int .i64 st.tm, .slice ao ps.length c0], .string (tt ++ ⟨#[10]⟩)]) (by simp [results, Tryz.results41, go_sem, hec]; try rfl) rfl ⟨HBE, ?_⟩
  exact ⟨g1, c1, g2, c2, gm, cm, gt, ct, ao, c0, rfl, HM.out.keep HBE, .inr (.inl ⟨rfl, rfl⟩)⟩
end Go.Proofs.YtlkdmpfifpkpaaaGreatDoor

