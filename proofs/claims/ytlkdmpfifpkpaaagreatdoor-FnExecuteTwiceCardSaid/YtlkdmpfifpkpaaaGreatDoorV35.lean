/-
  Parts of the proof: Zq. No condition.
-/
import Derived.Test.YtlkdmpfifpkpaaaGreatDoorV33
namespace Go.Proofs.YtlkdmpfifpkpaaaGreatDoor
open Go.RowKit
set_option linter.unusedSimpArgs false in
set_option maxRecDepth 100000 in
set_option maxHeartbeats 4000000 in
theorem l9Line_line (g1 c1 g2 c2 gm cm gt ct c0 bw cw q : Nat) (ao : Option Addr) (st : Ses) (ps : List Pt) (tx : Nat → ByteArray) (w : World) (hM : SpM w g1 g2 gm gt ao st ps) (hk : SesOk st) (hp : PsOk st.x.n ps) (hq : q < 1000000) (hw : ∀ i, i < q + 1 → w.cell? ⟨bw, i, none⟩ = some (.string (tx i))) (hc : ixC (tx 0) = 0) (hn : q = 2) :
    Calls Tryz.prog 41 #[.agg #[.slice (some ⟨g1, 0, none⟩) st.x.n c1, .slice (some ⟨g2, 0, none⟩) st.x.m c2, .slice (some ⟨gm, 0, none⟩) st.ms.length cm, .slice (some ⟨gt, 0, none⟩) st.ts.length ct, .int .i64 st.tm, .slice ao ps.length c0], .slice (some ⟨bw, 0, none⟩) (q + 1) cw] w (LiR st ps ao (stpX st ps tx (q + 1) 0) (sayX st ps tx (q + 1) 0) w) := by
  have hy := wd_y0 hc
  have hqb : ((q : Int) == 2) = true := beq_iff_eq.2 (by omega)
  have hq1 : (0 : Int) < (q : Int) := by omega
  have hq1n : 0 < q := by omega
  have hq2 : (1 : Int) < (q : Int) := by omega
  have hq2n : 1 < q := by omega
  clear hc hn
  have HB0 : Hid (Below w.heap.size w ((w.alloc (.cells #[.slice (some ⟨g1, 0, none⟩) st.x.n c1, .slice (some ⟨g2, 0, none⟩) st.x.m c2, .slice (some ⟨gm, 0, none⟩) st.ms.length cm, .slice (some ⟨gt, 0, none⟩) st.ts.length ct, .int .i64 st.tm, .slice ao ps.length c0] 68)).alloc (.cells #[.slice none 0 0, .slice none 0 0, .slice none 0 0, .slice none 0 0, .int .i64 0, .slice none 0 0] 68))) := (below_all _ _).alloc (by simp) _
  have HX2 : Hid (Bx ((w.alloc (.cells #[.slice (some ⟨g1, 0, none⟩) st.x.n c1, .slice (some ⟨g2, 0, none⟩) st.x.m c2, .slice (some ⟨gm, 0, none⟩) st.ms.length cm, .slice (some ⟨gt, 0, none⟩) st.ts.length ct, .int .i64 st.tm, .slice ao ps.length c0] 68)).alloc (.cells #[.slice none 0 0, .slice none 0 0, .slice none 0 0, .slice none 0 0, .int .i64 0, .slice none 0 0] 68)) w.heap.size 68 #[.slice (some ⟨g1, 0, none⟩) st.x.n c1, .slice (some ⟨g2, 0, none⟩) st.x.m c2, .slice (some ⟨gm, 0, none⟩) st.ms.length cm, .slice (some ⟨gt, 0, none⟩) st.ts.length ct, .int .i64 st.tm, .slice ao ps.length c0]) := (Bx.new _ _ _).alloc _
  have HX4 : Hid (Bx ((w.alloc (.cells #[.slice (some ⟨g1, 0, none⟩) st.x.n c1, .slice (some ⟨g2, 0, none⟩) st.x.m c2, .slice (some ⟨gm, 0, none⟩) st.ms.length cm, .slice (some ⟨gt, 0, none⟩) st.ts.length ct, .int .i64 st.tm, .slice ao ps.length c0] 68)).alloc (.cells #[.slice none 0 0, .slice none 0 0, .slice none 0 0, .slice none 0 0, .int .i64 0, .slice none 0 0] 68)) (w.heap.size + 1) 68 #[.slice none 0 0, .slice none 0 0, .slice none 0 0, .slice none 0 0, .int .i64 0, .slice none 0 0]) := Bx.newAt (by simp)
  have HZ0 : Hid (((w.alloc (.cells #[.slice (some ⟨g1, 0, none⟩) st.x.n c1, .slice (some ⟨g2, 0, none⟩) st.x.m c2, .slice (some ⟨gm, 0, none⟩) st.ms.length cm, .slice (some ⟨gt, 0, none⟩) st.ts.length ct, .int .i64 st.tm, .slice ao ps.length c0] 68)).alloc (.cells #[.slice none 0 0, .slice none 0 0, .slice none 0 0, .slice none 0 0, .int .i64 0, .slice none 0 0] 68)).heap.size = w.heap.size + 2) := by show _ = _; simp
  have HM := Lib.hid hM
  have HK := Lib.hid hk
  have HP := Lib.hid hp
  have hbl : bw < w.heap.size := World.block_lt_of_cell? w ⟨bw, 0, none⟩ (hw 0 (by omega))
  have HW : Hid (∀ W, Below w.heap.size w W → ∀ i, i < q + 1 → W.cell? ⟨bw, i, none⟩ = some (.string (tx i))) := fun W h i hi => by rw [h.cell (p := ⟨bw, i, none⟩) hbl]; exact hw i hi
  have HNB := Lib.hid (l9Numbers_any bw cw q tx ((w.alloc (.cells #[.slice (some ⟨g1, 0, none⟩) st.x.n c1, .slice (some ⟨g2, 0, none⟩) st.x.m c2, .slice (some ⟨gm, 0, none⟩) st.ms.length cm, .slice (some ⟨gt, 0, none⟩) st.ts.length ct, .int .i64 st.tm, .slice ao ps.length c0] 68)).alloc (.cells #[.slice none 0 0, .slice none 0 0, .slice none 0 0, .slice none 0 0, .int .i64 0, .slice none 0 0] 68)) hq (HW.out _ HB0.out))
  clear hM hk hp hw
  go_enter Tryz.func41, Tryz.ntmps41
  go_wp2_with fail
  generalize (w.alloc (.cells #[.slice (some ⟨g1, 0, none⟩) st.x.n c1, .slice (some ⟨g2, 0, none⟩) st.x.m c2, .slice (some ⟨gm, 0, none⟩) st.ms.length cm, .slice (some ⟨gt, 0, none⟩) st.ts.length ct, .int .i64 st.tm, .slice ao ps.length c0] 68)).alloc (.cells #[.slice none 0 0, .slice none 0 0, .slice none 0 0, .slice none 0 0, .int .i64 0, .slice none 0 0] 68) = w0 at *
  refine HNB.out.mono ?_
  rintro e w2 ⟨⟨gn, cn, rfl, hnc, hgz, hgl, hqc⟩, hb2⟩
  have hz0 := HZ0.out
  have hz2 := hb2.size
  have HB2 := Lib.hid (HB0.out.trans (hb2.mono HB0.out.size))
  have hsx := (HX2.out.below hb2 HX2.out.lt).cell
  have HM3 : Hid (∀ c7, LiM w (w2.alloc (.cells c7 68)) w2.heap.size gn bw q tx #[.slice (some ⟨g1, 0, none⟩) st.x.n c1, .slice (some ⟨g2, 0, none⟩) st.x.m c2, .slice (some ⟨gm, 0, none⟩) st.ms.length cm, .slice (some ⟨gt, 0, none⟩) st.ts.length ct, .int .i64 st.tm, .slice ao ps.length c0] #[.slice none 0 0, .slice none 0 0, .slice none 0 0, .slice none 0 0, .int .i64 0, .slice none 0 0] c7) := fun c7 => ⟨(HX2.out.below hb2 HX2.out.lt).alloc _, (HX4.out.below hb2 HX4.out.lt).alloc _, Bx.new _ _ _, HB2.out.alloc HB2.out.size _, hnc.keep (below_all _ _), by omega, by omega, hgl, hbl, fun i hi => HW.out _ (HB2.out.alloc HB2.out.size _) i hi⟩
  have HQC : Hid (q ≤ cn) := hqc
  have hs2 := fun c7 => (HM3.out c7).x2.cell
  have hwd : ∀ c7, (w2.alloc (.cells c7 68)).cell? ⟨bw, 0, none⟩ = some (.string (tx 0)) := fun c7 => (HM3.out c7).wd 0 (by omega)
  clear hb2 hnc HB0 HX2 HX4 HZ0 HNB hgz hgl hz0 hz2 HB2 hqc
  go_wp2_with fail
  have HMA : Hid (LiM w (w2.alloc (.cells #[.slice (some ⟨g1, 0, none⟩) st.x.n c1, .slice (some ⟨g2, 0, none⟩) st.x.m c2, .slice (some ⟨gm, 0, none⟩) st.ms.length cm, .slice (some ⟨gt, 0, none⟩) st.ts.length ct, .int .i64 st.tm, .slice ao ps.length c0] 68)) w2.heap.size gn bw q tx #[.slice (some ⟨g1, 0, none⟩) st.x.n c1, .slice (some ⟨g2, 0, none⟩) st.x.m c2, .slice (some ⟨gm, 0, none⟩) st.ms.length cm, .slice (some ⟨gt, 0, none⟩) st.ts.length ct, .int .i64 st.tm, .slice ao ps.length c0] #[.slice none 0 0, .slice none 0 0, .slice none 0 0, .slice none 0 0, .int .i64 0, .slice none 0 0] #[.slice (some ⟨g1, 0, none⟩) st.x.n c1, .slice (some ⟨g2, 0, none⟩) st.x.m c2, .slice (some ⟨gm, 0, none⟩) st.ms.length cm, .slice (some ⟨gt, 0, none⟩) st.ts.length ct, .int .i64 st.tm, .slice ao ps.length c0]) := HM3.out _
  clear hwd hsx HM3 hs2
  generalize w2.alloc (.cells #[.slice (some ⟨g1, 0, none⟩) st.x.n c1, .slice (some ⟨g2, 0, none⟩) st.x.m c2, .slice (some ⟨gm, 0, none⟩) st.ms.length cm, .slice (some ⟨gt, 0, none⟩) st.ts.length ct, .int .i64 st.tm, .slice ao ps.length c0] 68) = w3 at *
  generalize w2.heap.size = b7 at *
  have HMD := Lib.hid (HMA.out.below (Below.refl _ _).drew)
  clear HMA
  have HWD : Hid (w3.drew = w3.drew) := rfl
  revert HMD HWD
  generalize hWD : w3.drew = W
  intro HMD _
  have HWD := Lib.hid hWD
  clear hWD
  have hnm := nmF_bd (tx 1)
  have ht0 := HK.out.t0
  have ht1 := HK.out.t1
  have hn0 : W.cell? ⟨gn, 0, none⟩ = some (.int .i64 (nmF (tx 1))) := HMD.out.nu 0 (by omega)
  have hn1 : W.cell? ⟨gn, 1, none⟩ = some (.int .i64 (nmF (tx 2))) := HMD.out.nu 1 (by omega)
  have HCC : Hid (∀ V, Below W.heap.size W V → V.cell? ⟨gn, 0, none⟩ = some (.int .i64 (nmF (tx 1))) ∧ V.cell? ⟨gn, 1, none⟩ = some (.int .i64 (nmF (tx 2)))) := fun V h => ⟨(HMD.out.below h).nu 0 (by omega), (HMD.out.below h).nu 1 (by omega)⟩
  refine wp_region_held_drew (S := fun W => W.cell? ⟨gn, 0, none⟩ = some (.int .i64 (nmF (tx 1))) ∧ W.cell? ⟨gn, 1, none⟩ = some (.int .i64 (nmF (tx 2)))) (by kernel_rfl) (by rw [HWD.out]; exact ⟨hn0, hn1⟩) (fun hHeld => ?_)
  rw [HWD.out] at hHeld ⊢
  refine tkR 0 ?_
  refine tkR 1 ?_
  refine tkR 2 ?_
  refine tkR 3 ?_
  refine tkR 4 ?_
  refine tkR 5 ?_
  refine wpAnyH_ready (rs := [6, 10]) (by kernel_rfl) (by simp) ?_
  refine c1R (fun K hK => ?_) ?_
  ·go_simp
   go_at_call 17
   go_must (refine Calls.mono (specLineNew_any (nmF (tx 1)) (nmF (tx 2)) _) ?_)
   rintro e w4 ⟨hb4, h4⟩
   have h4' : ∃ a0 n0 d0 a1 n1 d1 okb, e = .returned (.tuple #[.agg #[.slice a0 n0 d0, .slice a1 n1 d1], .bool okb]) ∧ ((okb = false ∧ nwO (nmF (tx 1)) (nmF (tx 2)) = none) ∨ (okb = true ∧ ∃ y, nwO (nmF (tx 1)) (nmF (tx 2)) = some y ∧ ∃ h1 h2, a0 = some ⟨h1, 0, none⟩ ∧ a1 = some ⟨h2, 0, none⟩ ∧ n0 = y.n ∧ n1 = y.m ∧ Own w4 h1 d0 y.n 3 76 (bkF y.N y.I y.O) ∧ Own w4 h2 d1 y.m 1 3 (fun i => .int .i64 (y.T i)) ∧ W.heap.size ≤ h1 ∧ W.heap.size ≤ h2)) := by
    rcases h4 with ⟨ho, he⟩ | ⟨y, v, ho, he, h1, d1, h2, d2, rfl, o1, o2, _, b1, b2⟩
    ·exact ⟨none, 0, 0, none, 0, 0, false, he, .inl ⟨rfl, ho⟩⟩
    ·exact ⟨_, _, _, _, _, _, true, he, .inr ⟨rfl, y, ho, h1, h2, rfl, rfl, rfl, rfl, o1, o2, by first | exact b1 | (have q := b1; simp at q; omega), by first | exact b2 | (have q := b2; simp at q; omega)⟩⟩
   obtain ⟨a0, n0, d0, a1, n1, d1, okb, rfl, hok⟩ := h4'
   have HOK := Lib.hid hok
   have HB4 : Hid (Below W.heap.size W w4) := (Below.refl W.heap.size W).trans (hb4.mono (Below.refl W.heap.size W).size)
   clear h4 hok
   refine oR hK ?_ (fun hHeld => ?_)
   ·try dsimp only
    exact HCC.out _ HB4.out
   clear hK K
   refine tkR 7 ?_
   refine tkR 8 ?_
   refine tkR 9 ?_
   refine r1R 10 (fun K hK => ?_)
   go_simp
   skip
   refine oR hK ?_ (fun hHeld => ?_)
   ·try dsimp only
    exact HCC.out _ (HB4.out.alloc HB4.out.size _)
   clear hK K
   refine r1R 11 (fun K hK => ?_)
   go_simp
   skip
   refine oR hK ?_ (fun hHeld => ?_)
   ·try dsimp only
    exact HCC.out _ (HB4.out.alloc HB4.out.size _)
   clear hK K
   refine tkR 12 ?_
   refine wpAnyH_done (by kernel_rfl) ?_ _
   clear hHeld
   have HX5 : Hid (Bx (w4.alloc (.cells #[.slice a0 n0 d0, .slice a1 n1 d1] 31)) w4.heap.size 31 #[.slice a0 n0 d0, .slice a1 n1 d1]) := Bx.new _ _ _
   have HB5 : Hid (Below W.heap.size W (w4.alloc (.cells #[.slice a0 n0 d0, .slice a1 n1 d1] 31))) := HB4.out.alloc HB4.out.size _
   have HOW : Hid (∀ g c n s t f, Own w4 g c n s t f → W.heap.size ≤ g → Own (w4.alloc (.cells #[.slice a0 n0 d0, .slice a1 n1 d1] 31)) g c n s t f) := fun g c n s t f h _ => h.alloc _
   generalize w4.alloc (.cells #[.slice a0 n0 d0, .slice a1 n1 d1] 31) = w5 at *
   generalize w4.heap.size = b10 at *
   have HM5 := Lib.hid (HMD.out.below HB5.out)
   have hc10 := HX5.out.cell
   have HM8 : Hid (∀ E1 E2 E3, LiM w (((w5.alloc E1).alloc E2).alloc E3) b7 gn bw q tx #[.slice (some ⟨g1, 0, none⟩) st.x.n c1, .slice (some ⟨g2, 0, none⟩) st.x.m c2, .slice (some ⟨gm, 0, none⟩) st.ms.length cm, .slice (some ⟨gt, 0, none⟩) st.ts.length ct, .int .i64 st.tm, .slice ao ps.length c0] #[.slice none 0 0, .slice none 0 0, .slice none 0 0, .slice none 0 0, .int .i64 0, .slice none 0 0] #[.slice (some ⟨g1, 0, none⟩) st.x.n c1, .slice (some ⟨g2, 0, none⟩) st.x.m c2, .slice (some ⟨gm, 0, none⟩) st.ms.length cm, .slice (some ⟨gt, 0, none⟩) st.ts.length ct, .int .i64 st.tm, .slice ao ps.length c0]) := fun E1 E2 E3 => HM5.out.below (((below_all w5 E1).alloc (by simp) E2).alloc (by simp; omega) E3)
   have HM9 : Hid (∀ E1 E2 E3 v0 v1 v2 v3 v4 v5, LiM w (((((((((w5.alloc E1).alloc E2).alloc E3).setCell ⟨b7, 0, none⟩ v0).setCell ⟨b7, 1, none⟩ v1).setCell ⟨b7, 2, none⟩ v2).setCell ⟨b7, 3, none⟩ v3).setCell ⟨b7, 4, none⟩ v4).setCell ⟨b7, 5, none⟩ v5) b7 gn bw q tx #[.slice (some ⟨g1, 0, none⟩) st.x.n c1, .slice (some ⟨g2, 0, none⟩) st.x.m c2, .slice (some ⟨gm, 0, none⟩) st.ms.length cm, .slice (some ⟨gt, 0, none⟩) st.ts.length ct, .int .i64 st.tm, .slice ao ps.length c0] #[.slice none 0 0, .slice none 0 0, .slice none 0 0, .slice none 0 0, .int .i64 0, .slice none 0 0] #[v0, v1, v2, v3, v4, v5]) := fun E1 E2 E3 v0 v1 v2 v3 v4 v5 => (HM8.out E1 E2 E3).st6 v0 v1 v2 v3 v4 v5
   have hf78 := fun E1 E2 E3 => (HM8.out E1 E2 E3).x7.free
   have hc78 := fun E1 E2 E3 => (HM8.out E1 E2 E3).x7.cell
   have hc79 := fun E1 E2 E3 v0 v1 v2 v3 v4 v5 => (HM9.out E1 E2 E3 v0 v1 v2 v3 v4 v5).x7.cell
   have hc29 := fun E1 E2 E3 v0 v1 v2 v3 v4 v5 => (HM9.out E1 E2 E3 v0 v1 v2 v3 v4 v5).x2.cell
   have hc49 := fun E1 E2 E3 v0 v1 v2 v3 v4 v5 => (HM9.out E1 E2 E3 v0 v1 v2 v3 v4 v5).x4.cell
   have hf49 := fun E1 E2 E3 v0 v1 v2 v3 v4 v5 => (HM9.out E1 E2 E3 v0 v1 v2 v3 v4 v5).x4.free
   have HMF := Lib.hid (HM9.out (.cells #[] 94) (.cells #[] 3) (.cells #[] 41) (.slice a0 n0 d0) (.slice a1 n1 d1) (.slice (some ⟨w5.heap.size, 0, none⟩) 0 0) (.slice (some ⟨w5.heap.size + 1, 0, none⟩) 0 0) (.int .i64 0) (.slice (some ⟨w5.heap.size + 1 + 1, 0, none⟩) 0 0))
   cases okb
   ·have HN : Hid (stpX st ps tx (q + 1) 0 = none) := by
     show _ = _
     rcases HOK.out with ⟨_, h⟩ | ⟨h, _⟩
     ·show Option.map _ (nwO _ _) = none
      rw [h]; rfl
     ·cases h
    go_wp2_with fail
    obtain ⟨HXE, HFE⟩ := st6_both HMF.out.x4 (.slice (some ⟨g1, 0, none⟩) st.x.n c1) (.slice (some ⟨g2, 0, none⟩) st.x.m c2) (.slice (some ⟨gm, 0, none⟩) st.ms.length cm) (.slice (some ⟨gt, 0, none⟩) st.ts.length ct) (.int .i64 st.tm) (.slice ao ps.length c0)
    have hec := HXE.cell
    have HBE := HMF.out.bl.trans (HFE.below (B := w.heap.size) (fun k hk => by omega) HMF.out.bl.size)
    refine bodyPost_ret (v := .tuple #[.agg #[(.slice (some ⟨g1, 0, none⟩) st.x.n c1), (.slice (some ⟨g2, 0, none⟩) st.x.m c2), (.slice (some ⟨gm, 0, none⟩) st.ms.length cm), (.slice (some ⟨gt, 0, none⟩) st.ts.length ct), (.int .i64 st.tm), (.slice ao ps.length c0)], .string (noT ++ ⟨#[10]⟩)]) (by simp [results, Tryz.results41, go_sem, hec]; try rfl) rfl ⟨HBE, ?_⟩
    rw [HN.out]
    exact ⟨g1, c1, g2, c2, gm, cm, gt, ct, ao, c0, rfl, HM.out.keep HBE, .inr (.inl ⟨rfl, rfl⟩)⟩
   ·go_wp2_with fail
    rcases HOK.out with ⟨h, _⟩ | ⟨_, y, hy2, h1, h2, rfl, rfl, rfl, rfl, o1, o2, b1, b2⟩
    ·cases h
    have HN : stpX st ps tx (q + 1) 0 = some ({ x := y, tm := 0, ms := [], ts := [] }, []) := by
     show Option.map _ (nwO _ _) = _
     rw [hy2]; rfl
    have o5 := HOW.out _ _ _ _ _ _ o1 b1
    have o6 := HOW.out _ _ _ _ _ _ o2 b2
    have hz7 := HMD.out.x7.lt
    have hz4 := HMD.out.x4.lt
    have hW5 := HB5.out.size
    obtain ⟨_, HF7⟩ := st6_both (HM8.out (.cells #[] 94) (.cells #[] 3) (.cells #[] 41)).x7 (.slice (some ⟨h1, 0, none⟩) y.n d0) (.slice (some ⟨h2, 0, none⟩) y.m d1) (.slice (some ⟨w5.heap.size, 0, none⟩) 0 0) (.slice (some ⟨w5.heap.size + 1, 0, none⟩) 0 0) (.int .i64 0) (.slice (some ⟨w5.heap.size + 1 + 1, 0, none⟩) 0 0)
    have o7 := (((o5.alloc (.cells #[] 94)).alloc (.cells #[] 3)).alloc (.cells #[] 41)).fr HF7 (by omega)
    have o8 := (((o6.alloc (.cells #[] 94)).alloc (.cells #[] 3)).alloc (.cells #[] 41)).fr HF7 (by omega)
    obtain ⟨HXE, HFE⟩ := st6_both HMF.out.x4 (.slice (some ⟨h1, 0, none⟩) y.n d0) (.slice (some ⟨h2, 0, none⟩) y.m d1) (.slice (some ⟨w5.heap.size, 0, none⟩) 0 0) (.slice (some ⟨w5.heap.size + 1, 0, none⟩) 0 0) (.int .i64 0) (.slice (some ⟨w5.heap.size + 1 + 1, 0, none⟩) 0 0)
    have hec := HXE.cell
    have HBE := HMF.out.bl.trans (HFE.below (B := w.heap.size) (fun k hk => by omega) HMF.out.bl.size)
    refine bodyPost_ret (v := .tuple #[.agg #[(.slice (some ⟨h1, 0, none⟩) y.n d0), (.slice (some ⟨h2, 0, none⟩) y.m d1), (.slice (some ⟨w5.heap.size, 0, none⟩) 0 0), (.slice (some ⟨w5.heap.size + 1, 0, none⟩) 0 0), (.int .i64 0), (.slice (some ⟨w5.heap.size + 1 + 1, 0, none⟩) 0 0)], .string (okT ++ ⟨#[10]⟩)]) (by simp [results, Tryz.results41, go_sem, hec]; try rfl) rfl ⟨HBE, ?_⟩
    rw [HN]
    have o9 := o7.fr HFE (by omega)
    have o10 := o8.fr HFE (by omega)
    refine ⟨h1, d0, h2, d1, w5.heap.size, 0, w5.heap.size + 1, 0, some ⟨w5.heap.size + 1 + 1, 0, none⟩, 0, rfl, ⟨BkC.of_own o9, IC.of_own o10, fun k hk => absurd hk (Nat.not_lt_zero k), fun k hk => absurd hk (Nat.not_lt_zero k), fun k hk => absurd hk (Nat.not_lt_zero k), o9.lt, o10.lt, ?_, ?_⟩, .inl rfl⟩
    ·simp; omega
    ·simp
  ·refine c1R (fun K hK => ?_) ?_
   ·go_simp
    skip
    refine oR hK ?_ (fun hHeld => ?_)
    ·try dsimp only
     exact HCC.out _ (below_all _ _)
    clear hK K
    have HXA : Hid (Bx (W.alloc (.cells #[.slice none 0 0, .slice none 0 0] 31)) W.heap.size 31 #[.slice none 0 0, .slice none 0 0]) := Bx.new _ _ _
    have HBA : Hid (Below W.heap.size W (W.alloc (.cells #[.slice none 0 0, .slice none 0 0] 31))) := below_all _ _
    refine r1R 6 (fun K hK => ?_)
    go_simp
    go_at_call 17
    go_must (refine Calls.mono (specLineNew_any (nmF (tx 1)) (nmF (tx 2)) _) ?_)
    rintro e w4 ⟨hb4, h4⟩
    have h4' : ∃ a0 n0 d0 a1 n1 d1 okb, e = .returned (.tuple #[.agg #[.slice a0 n0 d0, .slice a1 n1 d1], .bool okb]) ∧ ((okb = false ∧ nwO (nmF (tx 1)) (nmF (tx 2)) = none) ∨ (okb = true ∧ ∃ y, nwO (nmF (tx 1)) (nmF (tx 2)) = some y ∧ ∃ h1 h2, a0 = some ⟨h1, 0, none⟩ ∧ a1 = some ⟨h2, 0, none⟩ ∧ n0 = y.n ∧ n1 = y.m ∧ Own w4 h1 d0 y.n 3 76 (bkF y.N y.I y.O) ∧ Own w4 h2 d1 y.m 1 3 (fun i => .int .i64 (y.T i)) ∧ W.heap.size + 1 ≤ h1 ∧ W.heap.size + 1 ≤ h2)) := by
     rcases h4 with ⟨ho, he⟩ | ⟨y, v, ho, he, h1, d1, h2, d2, rfl, o1, o2, _, b1, b2⟩
     ·exact ⟨none, 0, 0, none, 0, 0, false, he, .inl ⟨rfl, ho⟩⟩
     ·exact ⟨_, _, _, _, _, _, true, he, .inr ⟨rfl, y, ho, h1, h2, rfl, rfl, rfl, rfl, o1, o2, by first | exact b1 | (have q := b1; simp at q; omega), by first | exact b2 | (have q := b2; simp at q; omega)⟩⟩
    obtain ⟨a0, n0, d0, a1, n1, d1, okb, rfl, hok⟩ := h4'
    have HOK := Lib.hid hok
    have HB4 : Hid (Below W.heap.size W w4) := HBA.out.trans (hb4.mono HBA.out.size)
    clear h4 hok
    have HX4 := Lib.hid (HXA.out.below hb4 HXA.out.lt)
    have hxc := HX4.out.cell
    have hxf := HX4.out.free
    have hxl := HX4.out.lt
    refine oR hK ?_ (fun hHeld => ?_)
    ·try dsimp only
     exact HCC.out _ HB4.out
    clear hK K
    refine tkR 7 ?_
    refine tkR 8 ?_
    refine tkR 9 ?_
    refine r1R 11 (fun K hK => ?_)
    go_simp
    have HB5 := Lib.hid ((HB4.out.setCell (p := ⟨W.heap.size, 0, none⟩) (Nat.le_refl _) (.slice a0 n0 d0)).setCell (p := ⟨W.heap.size, 1, none⟩) (Nat.le_refl _) (.slice a1 n1 d1))
    refine oR hK ?_ (fun hHeld => ?_)
    ·try dsimp only
     exact HCC.out _ HB5.out
    clear hK K
    refine tkR 12 ?_
    refine wpAnyH_done (by kernel_rfl) ?_ _
    clear hHeld hxc hxf hxl
    have HX5 : Hid (Bx ((w4.setCell ⟨W.heap.size, 0, none⟩ (.slice a0 n0 d0)).setCell ⟨W.heap.size, 1, none⟩ (.slice a1 n1 d1)) W.heap.size 31 #[.slice a0 n0 d0, .slice a1 n1 d1]) := by
     have hb := (HX4.out.set 0 (.slice a0 n0 d0)).set 1 (.slice a1 n1 d1)
     show Bx _ _ _ _
     simpa using hb
    have HOW : Hid (∀ g c n s t f, Own w4 g c n s t f → W.heap.size + 1 ≤ g → Own ((w4.setCell ⟨W.heap.size, 0, none⟩ (.slice a0 n0 d0)).setCell ⟨W.heap.size, 1, none⟩ (.slice a1 n1 d1)) g c n s t f) := fun g c n s t f h hg => (h.setOther (by dsimp only; omega) _).setOther (by dsimp only; omega) _
    generalize (w4.setCell ⟨W.heap.size, 0, none⟩ (.slice a0 n0 d0)).setCell ⟨W.heap.size, 1, none⟩ (.slice a1 n1 d1) = w5 at *
    have hb10 : ∃ b10, b10 = W.heap.size := ⟨_, rfl⟩
    obtain ⟨b10, hb10⟩ := hb10
    rw [← hb10] at HX5 ⊢
    clear hb10
    have HM5 := Lib.hid (HMD.out.below HB5.out)
    have hc10 := HX5.out.cell
    have HM8 : Hid (∀ E1 E2 E3, LiM w (((w5.alloc E1).alloc E2).alloc E3) b7 gn bw q tx #[.slice (some ⟨g1, 0, none⟩) st.x.n c1, .slice (some ⟨g2, 0, none⟩) st.x.m c2, .slice (some ⟨gm, 0, none⟩) st.ms.length cm, .slice (some ⟨gt, 0, none⟩) st.ts.length ct, .int .i64 st.tm, .slice ao ps.length c0] #[.slice none 0 0, .slice none 0 0, .slice none 0 0, .slice none 0 0, .int .i64 0, .slice none 0 0] #[.slice (some ⟨g1, 0, none⟩) st.x.n c1, .slice (some ⟨g2, 0, none⟩) st.x.m c2, .slice (some ⟨gm, 0, none⟩) st.ms.length cm, .slice (some ⟨gt, 0, none⟩) st.ts.length ct, .int .i64 st.tm, .slice ao ps.length c0]) := fun E1 E2 E3 => HM5.out.below (((below_all w5 E1).alloc (by simp) E2).alloc (by simp; omega) E3)
    have HM9 : Hid (∀ E1 E2 E3 v0 v1 v2 v3 v4 v5, LiM w (((((((((w5.alloc E1).alloc E2).alloc E3).setCell ⟨b7, 0, none⟩ v0).setCell ⟨b7, 1, none⟩ v1).setCell ⟨b7, 2, none⟩ v2).setCell ⟨b7, 3, none⟩ v3).setCell ⟨b7, 4, none⟩ v4).setCell ⟨b7, 5, none⟩ v5) b7 gn bw q tx #[.slice (some ⟨g1, 0, none⟩) st.x.n c1, .slice (some ⟨g2, 0, none⟩) st.x.m c2, .slice (some ⟨gm, 0, none⟩) st.ms.length cm, .slice (some ⟨gt, 0, none⟩) st.ts.length ct, .int .i64 st.tm, .slice ao ps.length c0] #[.slice none 0 0, .slice none 0 0, .slice none 0 0, .slice none 0 0, .int .i64 0, .slice none 0 0] #[v0, v1, v2, v3, v4, v5]) := fun E1 E2 E3 v0 v1 v2 v3 v4 v5 => (HM8.out E1 E2 E3).st6 v0 v1 v2 v3 v4 v5
    have hf78 := fun E1 E2 E3 => (HM8.out E1 E2 E3).x7.free
    have hc78 := fun E1 E2 E3 => (HM8.out E1 E2 E3).x7.cell
    have hc79 := fun E1 E2 E3 v0 v1 v2 v3 v4 v5 => (HM9.out E1 E2 E3 v0 v1 v2 v3 v4 v5).x7.cell
    have hc29 := fun E1 E2 E3 v0 v1 v2 v3 v4 v5 => (HM9.out E1 E2 E3 v0 v1 v2 v3 v4 v5).x2.cell
    have hc49 := fun E1 E2 E3 v0 v1 v2 v3 v4 v5 => (HM9.out E1 E2 E3 v0 v1 v2 v3 v4 v5).x4.cell
    have hf49 := fun E1 E2 E3 v0 v1 v2 v3 v4 v5 => (HM9.out E1 E2 E3 v0 v1 v2 v3 v4 v5).x4.free
    have HMF := Lib.hid (HM9.out (.cells #[] 94) (.cells #[] 3) (.cells #[] 41) (.slice a0 n0 d0) (.slice a1 n1 d1) (.slice (some ⟨w5.heap.size, 0, none⟩) 0 0) (.slice (some ⟨w5.heap.size + 1, 0, none⟩) 0 0) (.int .i64 0) (.slice (some ⟨w5.heap.size + 1 + 1, 0, none⟩) 0 0))
    cases okb
    ·have HN : Hid (stpX st ps tx (q + 1) 0 = none) := by
      show _ = _
      rcases HOK.out with ⟨_, h⟩ | ⟨h, _⟩
      ·show Option.map _ (nwO _ _) = none
       rw [h]; rfl
      ·cases h
     go_wp2_with fail
     obtain ⟨HXE, HFE⟩ := st6_both HMF.out.x4 (.slice (some ⟨g1, 0, none⟩) st.x.n c1) (.slice (some ⟨g2, 0, none⟩) st.x.m c2) (.slice (some ⟨gm, 0, none⟩) st.ms.length cm) (.slice (some ⟨gt, 0, none⟩) st.ts.length ct) (.int .i64 st.tm) (.slice ao ps.length c0)
     have hec := HXE.cell
     have HBE := HMF.out.bl.trans (HFE.below (B := w.heap.size) (fun k hk => by omega) HMF.out.bl.size)
     refine bodyPost_ret (v := .tuple #[.agg #[(.slice (some ⟨g1, 0, none⟩) st.x.n c1), (.slice (some ⟨g2, 0, none⟩) st.x.m c2), (.slice (some ⟨gm, 0, none⟩) st.ms.length cm), (.slice (some ⟨gt, 0, none⟩) st.ts.length ct), (.int .i64 st.tm), (.slice ao ps.length c0)], .string (noT ++ ⟨#[10]⟩)]) (by simp [results, Tryz.results41, go_sem, hec]; try rfl) rfl ⟨HBE, ?_⟩
     rw [HN.out]
     exact ⟨g1, c1, g2, c2, gm, cm, gt, ct, ao, c0, rfl, HM.out.keep HBE, .inr (.inl ⟨rfl, rfl⟩)⟩
    ·go_wp2_with fail
     rcases HOK.out with ⟨h, _⟩ | ⟨_, y, hy2, h1, h2, rfl, rfl, rfl, rfl, o1, o2, b1, b2⟩
     ·cases h
     have HN : stpX st ps tx (q + 1) 0 = some ({ x := y, tm := 0, ms := [], ts := [] }, []) := by
      show Option.map _ (nwO _ _) = _
      rw [hy2]; rfl
     have o5 := HOW.out _ _ _ _ _ _ o1 b1
     have o6 := HOW.out _ _ _ _ _ _ o2 b2
     have hz7 := HMD.out.x7.lt
     have hz4 := HMD.out.x4.lt
     have hW5 := HB5.out.size
     obtain ⟨_, HF7⟩ := st6_both (HM8.out (.cells #[] 94) (.cells #[] 3) (.cells #[] 41)).x7 (.slice (some ⟨h1, 0, none⟩) y.n d0) (.slice (some ⟨h2, 0, none⟩) y.m d1) (.slice (some ⟨w5.heap.size, 0, none⟩) 0 0) (.slice (some ⟨w5.heap.size + 1, 0, none⟩) 0 0) (.int .i64 0) (.slice (some ⟨w5.heap.size + 1 + 1, 0, none⟩) 0 0)
     have o7 := (((o5.alloc (.cells #[] 94)).alloc (.cells #[] 3)).alloc (.cells #[] 41)).fr HF7 (by omega)
     have o8 := (((o6.alloc (.cells #[] 94)).alloc (.cells #[] 3)).alloc (.cells #[] 41)).fr HF7 (by omega)
     obtain ⟨HXE, HFE⟩ := st6_both HMF.out.x4 (.slice (some ⟨h1, 0, none⟩) y.n d0) (.slice (some ⟨h2, 0, none⟩) y.m d1) (.slice (some ⟨w5.heap.size, 0, none⟩) 0 0) (.slice (some ⟨w5.heap.size + 1, 0, none⟩) 0 0) (.int .i64 0) (.slice (some ⟨w5.heap.size + 1 + 1, 0, none⟩) 0 0)
     have hec := HXE.cell
     have HBE := HMF.out.bl.trans (HFE.below (B := w.heap.size) (fun k hk => by omega) HMF.out.bl.size)
     refine bodyPost_ret (v := .tuple #[.agg #[(.slice (some ⟨h1, 0, none⟩) y.n d0), (.slice (some ⟨h2, 0, none⟩) y.m d1), (.slice (some ⟨w5.heap.size, 0, none⟩) 0 0), (.slice (some ⟨w5.heap.size + 1, 0, none⟩) 0 0), (.int .i64 0), (.slice (some ⟨w5.heap.size + 1 + 1, 0, none⟩) 0 0)], .string (okT ++ ⟨#[10]⟩)]) (by simp [results, Tryz.results41, go_sem, hec]; try rfl) rfl ⟨HBE, ?_⟩
     rw [HN]
     have o9 := o7.fr HFE (by omega)
     have o10 := o8.fr HFE (by omega)
     refine ⟨h1, d0, h2, d1, w5.heap.size, 0, w5.heap.size + 1, 0, some ⟨w5.heap.size + 1 + 1, 0, none⟩, 0, rfl, ⟨BkC.of_own o9, IC.of_own o10, fun k hk => absurd hk (Nat.not_lt_zero k), fun k hk => absurd hk (Nat.not_lt_zero k), fun k hk => absurd hk (Nat.not_lt_zero k), o9.lt, o10.lt, ?_, ?_⟩, .inl rfl⟩
     ·simp; omega
     ·simp
   ·exact AllReadyH.nil
end Go.Proofs.YtlkdmpfifpkpaaaGreatDoor

