/-
  Parts of the proof: Zr Zv. No condition.
-/
import Derived.Test.YtlkdmpfifpkpaaaGreatDoorV34
namespace Go.Proofs.YtlkdmpfifpkpaaaGreatDoor
open Go.RowKit
set_option linter.unusedSimpArgs false in
set_option maxRecDepth 100000 in
set_option maxHeartbeats 4000000 in
theorem l9Line_do (g1 c1 g2 c2 gm cm gt ct c0 bw cw q : Nat) (ao : Option Addr) (st : Ses) (ps : List Pt) (tx : Nat → ByteArray) (w : World) (hM : SpM w g1 g2 gm gt ao st ps) (hk : SesOk st) (hp : PsOk st.x.n ps) (hq : q < 1000000) (hw : ∀ i, i < q + 1 → w.cell? ⟨bw, i, none⟩ = some (.string (tx i))) (hc : ixC (tx 0) = 2) (hn : q = 2) :
    Calls Tryz.prog 41 #[.agg #[.slice (some ⟨g1, 0, none⟩) st.x.n c1, .slice (some ⟨g2, 0, none⟩) st.x.m c2, .slice (some ⟨gm, 0, none⟩) st.ms.length cm, .slice (some ⟨gt, 0, none⟩) st.ts.length ct, .int .i64 st.tm, .slice ao ps.length c0], .slice (some ⟨bw, 0, none⟩) (q + 1) cw] w (LiR st ps ao (stpX st ps tx (q + 1) 2) (sayX st ps tx (q + 1) 2) w) := by
  have hy := wd_y2 hc
  have hqb : ((q : Int) == 2) = true := beq_iff_eq.2 (by omega)
  have hq1 : (0 : Int) < (q : Int) := by omega
  have hq1n : 0 < q := by omega
  have hq2 : (2 : Int) < (q : Int) + 1 := by omega
  have hq2n : 2 < q + 1 := by omega
  clear hc hn
  have HB0 : Hid (Below w.heap.size w ((w.alloc (.cells #[.slice (some ⟨g1, 0, none⟩) st.x.n c1, .slice (some ⟨g2, 0, none⟩) st.x.m c2, .slice (some ⟨gm, 0, none⟩) st.ms.length cm, .slice (some ⟨gt, 0, none⟩) st.ts.length ct, .int .i64 st.tm, .slice ao ps.length c0] 68)).alloc (.cells #[.slice none 0 0, .slice none 0 0, .slice none 0 0, .slice none 0 0, .int .i64 0, .slice none 0 0] 68))) := (below_all _ _).alloc (by simp) _
  have HX2 : Hid (Bx ((w.alloc (.cells #[.slice (some ⟨g1, 0, none⟩) st.x.n c1, .slice (some ⟨g2, 0, none⟩) st.x.m c2, .slice (some ⟨gm, 0, none⟩) st.ms.length cm, .slice (some ⟨gt, 0, none⟩) st.ts.length ct, .int .i64 st.tm, .slice ao ps.length c0] 68)).alloc (.cells #[.slice none 0 0, .slice none 0 0, .slice none 0 0, .slice none 0 0, .int .i64 0, .slice none 0 0] 68)) w.heap.size 68 #[.slice (some ⟨g1, 0, none⟩) st.x.n c1, .slice (some ⟨g2, 0, none⟩) st.x.m c2, .slice (some ⟨gm, 0, none⟩) st.ms.length cm, .slice (some ⟨gt, 0, none⟩) st.ts.length ct, .int .i64 st.tm, .slice ao ps.length c0]) := (Bx.new _ _ _).alloc _
  have HX4 : Hid (Bx ((w.alloc (.cells #[.slice (some ⟨g1, 0, none⟩) st.x.n c1, .slice (some ⟨g2, 0, none⟩) st.x.m c2, .slice (some ⟨gm, 0, none⟩) st.ms.length cm, .slice (some ⟨gt, 0, none⟩) st.ts.length ct, .int .i64 st.tm, .slice ao ps.length c0] 68)).alloc (.cells #[.slice none 0 0, .slice none 0 0, .slice none 0 0, .slice none 0 0, .int .i64 0, .slice none 0 0] 68)) (w.heap.size + 1) 68 #[.slice none 0 0, .slice none 0 0, .slice none 0 0, .slice none 0 0, .int .i64 0, .slice none 0 0]) := Bx.newAt (by simp)
  have HZ0 : Hid (((w.alloc (.cells #[.slice (some ⟨g1, 0, none⟩) st.x.n c1, .slice (some ⟨g2, 0, none⟩) st.x.m c2, .slice (some ⟨gm, 0, none⟩) st.ms.length cm, .slice (some ⟨gt, 0, none⟩) st.ts.length ct, .int .i64 st.tm, .slice ao ps.length c0] 68)).alloc (.cells #[.slice none 0 0, .slice none 0 0, .slice none 0 0, .slice none 0 0, .int .i64 0, .slice none 0 0] 68)).heap.size = w.heap.size + 2) := by show _ = _; simp
  have HM := Lib.hid hM
  have HK := Lib.hid hk
  have HP := Lib.hid hp
  have hbl : bw < w.heap.size := World.block_lt_of_cell? w ⟨bw, 0, none⟩ (hw 0 (by omega))
  have HW : Hid (∀ W, Below w.heap.size w W → ∀ i, i < q + 1 → W.cell? ⟨bw, i, none⟩ = some (.string (tx i))) := fun W h i hi => by rw [h.cell (p := ⟨bw, i, none⟩) hbl]; exact hw i hi
  have HNB := Lib.hid (l9Numbers_any bw cw q tx ((w.alloc (.cells #[.slice (some ⟨g1, 0, none⟩) st.x.n c1, .slice (some ⟨g2, 0, none⟩) st.x.m c2, .slice (some ⟨gm, 0, none⟩) st.ms.length cm, .slice (some ⟨gt, 0, none⟩) st.ts.length ct, .int .i64 st.tm, .slice ao ps.length c0] 68)).alloc (.cells #[.slice none 0 0, .slice none 0 0, .slice none 0 0, .slice none 0 0, .int .i64 0, .slice none 0 0] 68)) hq (HW.out _ HB0.out))
  clear hM hk hp hw
  go_enter Tryz.func41, Tryz.ntmps41
  go_wp2_with fail
  generalize (w.alloc (.cells #[.slice (some ⟨g1, 0, none⟩) st.x.n c1, .slice (some ⟨g2, 0, none⟩) st.x.m c2, .slice (some ⟨gm, 0, none⟩) st.ms.length cm, .slice (some ⟨gt, 0, none⟩) st.ts.length ct, .int .i64 st.tm, .slice ao ps.length c0] 68)).alloc (.cells #[.slice none 0 0, .slice none 0 0, .slice none 0 0, .slice none 0 0, .int .i64 0, .slice none 0 0] 68) = w0 at *
  refine HNB.out.mono ?_
  rintro e w2 ⟨⟨gn, cn, rfl, hnc, hgz, hgl, hqc⟩, hb2⟩
  have hz0 := HZ0.out
  have hz2 := hb2.size
  have HB2 := Lib.hid (HB0.out.trans (hb2.mono HB0.out.size))
  have hsx := (HX2.out.below hb2 HX2.out.lt).cell
  have HM3 : Hid (∀ c7, LiM w (w2.alloc (.cells c7 68)) w2.heap.size gn bw q tx #[.slice (some ⟨g1, 0, none⟩) st.x.n c1, .slice (some ⟨g2, 0, none⟩) st.x.m c2, .slice (some ⟨gm, 0, none⟩) st.ms.length cm, .slice (some ⟨gt, 0, none⟩) st.ts.length ct, .int .i64 st.tm, .slice ao ps.length c0] #[.slice none 0 0, .slice none 0 0, .slice none 0 0, .slice none 0 0, .int .i64 0, .slice none 0 0] c7) := fun c7 => ⟨(HX2.out.below hb2 HX2.out.lt).alloc _, (HX4.out.below hb2 HX4.out.lt).alloc _, Bx.new _ _ _, HB2.out.alloc HB2.out.size _, hnc.keep (below_all _ _), by omega, by omega, hgl, hbl, fun i hi => HW.out _ (HB2.out.alloc HB2.out.size _) i hi⟩
  have HQC : Hid (q ≤ cn) := hqc
  have hs2 := fun c7 => (HM3.out c7).x2.cell
  have hwd : ∀ c7, (w2.alloc (.cells c7 68)).cell? ⟨bw, 0, none⟩ = some (.string (tx 0)) := fun c7 => (HM3.out c7).wd 0 (by omega)
  clear hb2 hnc HB0 HX2 HX4 HZ0 HNB hgz hgl hz0 hz2 HB2 hqc
  go_wp2_with fail
  have HMA : Hid (LiM w (w2.alloc (.cells #[.slice (some ⟨g1, 0, none⟩) st.x.n c1, .slice (some ⟨g2, 0, none⟩) st.x.m c2, .slice (some ⟨gm, 0, none⟩) st.ms.length cm, .slice (some ⟨gt, 0, none⟩) st.ts.length ct, .int .i64 st.tm, .slice ao ps.length c0] 68)) w2.heap.size gn bw q tx #[.slice (some ⟨g1, 0, none⟩) st.x.n c1, .slice (some ⟨g2, 0, none⟩) st.x.m c2, .slice (some ⟨gm, 0, none⟩) st.ms.length cm, .slice (some ⟨gt, 0, none⟩) st.ts.length ct, .int .i64 st.tm, .slice ao ps.length c0] #[.slice none 0 0, .slice none 0 0, .slice none 0 0, .slice none 0 0, .int .i64 0, .slice none 0 0] #[.slice (some ⟨g1, 0, none⟩) st.x.n c1, .slice (some ⟨g2, 0, none⟩) st.x.m c2, .slice (some ⟨gm, 0, none⟩) st.ms.length cm, .slice (some ⟨gt, 0, none⟩) st.ts.length ct, .int .i64 st.tm, .slice ao ps.length c0]) := HM3.out _
  clear hwd hsx HM3 hs2
  generalize w2.alloc (.cells #[.slice (some ⟨g1, 0, none⟩) st.x.n c1, .slice (some ⟨g2, 0, none⟩) st.x.m c2, .slice (some ⟨gm, 0, none⟩) st.ms.length cm, .slice (some ⟨gt, 0, none⟩) st.ts.length ct, .int .i64 st.tm, .slice ao ps.length c0] 68) = w3 at *
  generalize w2.heap.size = b7 at *
  have HMD := Lib.hid (HMA.out.below (Below.refl _ _).drew)
  clear HMA
  have HWD : Hid (w3.drew = w3.drew) := rfl
  revert HMD HWD
  generalize hWD : w3.drew = W
  intro HMD _
  have HWD := Lib.hid hWD
  clear hWD
  have hnm := nmF_bd (tx 1)
  have ht0 := HK.out.t0
  have ht1 := HK.out.t1
  have hn0 : W.cell? ⟨gn, 0, none⟩ = some (.int .i64 (nmF (tx 1))) := HMD.out.nu 0 (by omega)
  have hw2 : W.cell? ⟨bw, 2, none⟩ = some (.string (tx 2)) := HMD.out.wd 2 (by omega)
  have HCC : Hid (∀ V, Below W.heap.size W V → (∀ o, V.cell? ⟨w.heap.size, o, none⟩ = (#[.slice (some ⟨g1, 0, none⟩) st.x.n c1, .slice (some ⟨g2, 0, none⟩) st.x.m c2, .slice (some ⟨gm, 0, none⟩) st.ms.length cm, .slice (some ⟨gt, 0, none⟩) st.ts.length ct, .int .i64 st.tm, .slice ao ps.length c0] : Array Value)[o]?) ∧ V.cell? ⟨gn, 0, none⟩ = some (.int .i64 (nmF (tx 1))) ∧ V.cell? ⟨bw, 2, none⟩ = some (.string (tx 2))) := fun V h => ⟨(HMD.out.below h).x2.cell, (HMD.out.below h).nu 0 (by omega), (HMD.out.below h).wd 2 (by omega)⟩
  have HZZ : Hid (∀ V, w.heap.size ≤ V → True) := fun _ _ => trivial
  have HYM : Hid (MvsC (W.alloc (.cells #[.int .i64 (nmF (tx 1)), .string (tx 2)] 94)) W.heap.size 0 [(nmF (tx 1), tx 2)].length (mvM [(nmF (tx 1), tx 2)]) (mvS [(nmF (tx 1), tx 2)])) := fun k hk => by
   obtain rfl : k = 0 := by simp at hk; omega
   have hb : Bx (W.alloc (.cells #[.int .i64 (nmF (tx 1)), .string (tx 2)] 94)) W.heap.size 94 #[.int .i64 (nmF (tx 1)), .string (tx 2)] := Bx.new _ _ _
   exact ⟨hb.cell 0, hb.cell 1⟩
  refine wp_region_held_drew (S := fun W => (∀ o, W.cell? ⟨w.heap.size, o, none⟩ = (#[.slice (some ⟨g1, 0, none⟩) st.x.n c1, .slice (some ⟨g2, 0, none⟩) st.x.m c2, .slice (some ⟨gm, 0, none⟩) st.ms.length cm, .slice (some ⟨gt, 0, none⟩) st.ts.length ct, .int .i64 st.tm, .slice ao ps.length c0] : Array Value)[o]?) ∧ W.cell? ⟨gn, 0, none⟩ = some (.int .i64 (nmF (tx 1))) ∧ W.cell? ⟨bw, 2, none⟩ = some (.string (tx 2))) (by kernel_rfl) (by rw [HWD.out]; exact HCC.out _ (Below.refl _ _)) (fun hHeld => ?_)
  rw [HWD.out] at hHeld ⊢
  refine tkR 0 ?_
  refine tkR 1 ?_
  refine tkR 2 ?_
  refine tkR 3 ?_
  refine tkR 4 ?_
  refine tkR 5 ?_
  refine tkR 6 ?_
  refine tkR 7 ?_
  refine r1R 8 (fun K hK => ?_)
  go_simp
  skip
  refine oR hK ?_ (fun hHeld => ?_)
  ·try dsimp only
   exact HCC.out _ (below_all _ _)
  clear hK K
  have HBA : Hid (Below W.heap.size W (W.alloc (.cells #[.int .i64 (nmF (tx 1)), .string (tx 2)] 94))) := below_all _ _
  have HDO := Lib.hid (l9Do_any g1 c1 g2 c2 gm cm gt ct c0 W.heap.size 1 ao st ps [(nmF (tx 1), tx 2)] (W.alloc (.cells #[.int .i64 (nmF (tx 1)), .string (tx 2)] 94)) (HM.out.keep (HMD.out.bl.trans (HBA.out.mono HMD.out.bl.size))) HK.out (by simp) HYM.out)
  cases hdo : doX st [(nmF (tx 1), tx 2)] with
  | none =>
   have HN : Hid (stpX st ps tx (q + 1) 2 = none) := by show Option.map _ (doX st _) = none; rw [hdo]; rfl
   rw [hdo] at HDO
   clear hdo
   refine r1R 9 (fun K hK => ?_)
   go_simp
   go_at_call 60
   go_must (refine Calls.mono HDO.out ?_)
   rintro e w5 ⟨hb5, rfl⟩
   have HB5 := Lib.hid (HBA.out.trans (hb5.mono HBA.out.size))
   have HM5 := Lib.hid (HMD.out.below HB5.out)
   have hf7 := HM5.out.x7.free
   have hc7 := HM5.out.x7.cell
   clear hb5
   refine oR hK ?_ (fun hHeld => ?_)
   ·try dsimp only
    exact HCC.out _ HB5.out
   clear hK K
   refine tkR 10 ?_
   refine tkR 11 ?_
   refine tkR 12 ?_
   refine r1R 13 (fun K hK => ?_)
   go_simp
   have HMS := Lib.hid (HM5.out.st6 (.slice (some ⟨g1, 0, none⟩) st.x.n c1) (.slice (some ⟨g2, 0, none⟩) st.x.m c2) (.slice (some ⟨gm, 0, none⟩) st.ms.length cm) (.slice (some ⟨gt, 0, none⟩) st.ts.length ct) (.int .i64 st.tm) (.slice ao ps.length c0))
   refine oR hK ?_ (fun hHeld => ?_)
   ·try dsimp only
    exact ⟨HMS.out.x2.cell, HMS.out.nu 0 (by omega), HMS.out.wd 2 (by omega)⟩
   clear hK K
   refine tkR 14 ?_
   refine wpAnyH_done (by kernel_rfl) ?_ _
   clear hHeld
   have hcs2 := HMS.out.x2.cell
   have hcs4 := HMS.out.x4.cell
   have hfs4 := HMS.out.x4.free
   have hcs7 := HMS.out.x7.cell
   go_wp2_with fail
   obtain ⟨HXE, HFE⟩ := st6_both HMS.out.x4 (.slice (some ⟨g1, 0, none⟩) st.x.n c1) (.slice (some ⟨g2, 0, none⟩) st.x.m c2) (.slice (some ⟨gm, 0, none⟩) st.ms.length cm) (.slice (some ⟨gt, 0, none⟩) st.ts.length ct) (.int .i64 st.tm) (.slice ao ps.length c0)
   have hec := HXE.cell
   have HBE := HMS.out.bl.trans (HFE.below (B := w.heap.size) (fun k hk => by omega) HMS.out.bl.size)
   refine bodyPost_ret (v := .tuple #[.agg #[(.slice (some ⟨g1, 0, none⟩) st.x.n c1), (.slice (some ⟨g2, 0, none⟩) st.x.m c2), (.slice (some ⟨gm, 0, none⟩) st.ms.length cm), (.slice (some ⟨gt, 0, none⟩) st.ts.length ct), (.int .i64 st.tm), (.slice ao ps.length c0)], .string (noT ++ ⟨#[10]⟩)]) (by simp [results, Tryz.results41, go_sem, hec]; try rfl) rfl ⟨HBE, ?_⟩
   rw [HN.out]
   exact ⟨g1, c1, g2, c2, gm, cm, gt, ct, ao, c0, rfl, HM.out.keep HBE, .inr (.inl ⟨rfl, rfl⟩)⟩
  | some st2 =>
   have HN : Hid (stpX st ps tx (q + 1) 2 = some (st2, ps)) := by show Option.map _ (doX st _) = _; rw [hdo]; rfl
   rw [hdo] at HDO
   clear hdo
   refine r1R 9 (fun K hK => ?_)
   go_simp
   go_at_call 60
   go_must (refine Calls.mono HDO.out ?_)
   rintro e w5 ⟨hb5, p1, e1, p2, e2, pm, em, pt, et, rfl, hsm, z1, z2, zm, zt⟩
   have HSM := Lib.hid hsm
   have HB5 := Lib.hid (HBA.out.trans (hb5.mono HBA.out.size))
   have HM5 := Lib.hid (HMD.out.below HB5.out)
   have hf7 := HM5.out.x7.free
   have hc7 := HM5.out.x7.cell
   have HPZ : Hid (W.heap.size ≤ p1 ∧ W.heap.size ≤ p2 ∧ W.heap.size ≤ pm ∧ W.heap.size ≤ pt) := by have q := HBA.out.size; show _ ∧ _ ∧ _ ∧ _; omega
   clear hb5 hsm z1 z2 zm zt
   refine oR hK ?_ (fun hHeld => ?_)
   ·try dsimp only
    exact HCC.out _ HB5.out
   clear hK K
   refine tkR 10 ?_
   refine tkR 11 ?_
   refine tkR 12 ?_
   refine r1R 13 (fun K hK => ?_)
   go_simp
   have HMS := Lib.hid (HM5.out.st6 (.slice (some ⟨p1, 0, none⟩) st2.x.n e1) (.slice (some ⟨p2, 0, none⟩) st2.x.m e2) (.slice (some ⟨pm, 0, none⟩) st2.ms.length em) (.slice (some ⟨pt, 0, none⟩) st2.ts.length et) (.int .i64 st2.tm) (.slice ao ps.length c0))
   refine oR hK ?_ (fun hHeld => ?_)
   ·try dsimp only
    exact ⟨HMS.out.x2.cell, HMS.out.nu 0 (by omega), HMS.out.wd 2 (by omega)⟩
   clear hK K
   refine tkR 14 ?_
   refine wpAnyH_done (by kernel_rfl) ?_ _
   clear hHeld
   have hcs2 := HMS.out.x2.cell
   have hcs4 := HMS.out.x4.cell
   have hfs4 := HMS.out.x4.free
   have hcs7 := HMS.out.x7.cell
   go_wp2_with fail
   obtain ⟨HXE, HFE⟩ := st6_both HMS.out.x4 (.slice (some ⟨p1, 0, none⟩) st2.x.n e1) (.slice (some ⟨p2, 0, none⟩) st2.x.m e2) (.slice (some ⟨pm, 0, none⟩) st2.ms.length em) (.slice (some ⟨pt, 0, none⟩) st2.ts.length et) (.int .i64 st2.tm) (.slice ao ps.length c0)
   have hec := HXE.cell
   have HBE := HMS.out.bl.trans (HFE.below (B := w.heap.size) (fun k hk => by omega) HMS.out.bl.size)
   refine bodyPost_ret (v := .tuple #[.agg #[(.slice (some ⟨p1, 0, none⟩) st2.x.n e1), (.slice (some ⟨p2, 0, none⟩) st2.x.m e2), (.slice (some ⟨pm, 0, none⟩) st2.ms.length em), (.slice (some ⟨pt, 0, none⟩) st2.ts.length et), (.int .i64 st2.tm), (.slice ao ps.length c0)], .string (okT ++ ⟨#[10]⟩)]) (by simp [results, Tryz.results41, go_sem, hec]; try rfl) rfl ⟨HBE, ?_⟩
   rw [HN.out]
   obtain ⟨_, HF7⟩ := st6_both HM5.out.x7 (.slice (some ⟨p1, 0, none⟩) st2.x.n e1) (.slice (some ⟨p2, 0, none⟩) st2.x.m e2) (.slice (some ⟨pm, 0, none⟩) st2.ms.length em) (.slice (some ⟨pt, 0, none⟩) st2.ts.length et) (.int .i64 st2.tm) (.slice ao ps.length c0)
   have hz7 := HMD.out.x7.lt
   have hz4 := HMD.out.x4.lt
   have hpz := HPZ.out
   exact ⟨p1, e1, p2, e2, pm, em, pt, et, ao, c0, rfl, ((HSM.out.fr HF7 (by omega) (by omega) (by omega) (by omega) (HM.out.keep HMS.out.bl).pv).fr HFE (by omega) (by omega) (by omega) (by omega) (HM.out.keep HBE).pv), .inr (.inl ⟨rfl, rfl⟩)⟩
theorem fin_size {st : Ses} (hk : SesOk st) : (fnL st.x).length ≤ 135 := by
 unfold fnL
 split
 ·have h3 := finL_len (lefS st.x st.x.n).toNat st.x
  have h4 := lefS_135 hk.xv
  exact Nat.le_trans h3 h4
 ·exact Nat.zero_le _
set_option linter.unusedSimpArgs false in
set_option maxRecDepth 100000 in
set_option maxHeartbeats 4000000 in
theorem l9Line_finish (g1 c1 g2 c2 gm cm gt ct c0 bw cw q : Nat) (ao : Option Addr) (st : Ses) (ps : List Pt) (tx : Nat → ByteArray) (w : World) (hM : SpM w g1 g2 gm gt ao st ps) (hk : SesOk st) (hp : PsOk st.x.n ps) (hq : q < 1000000) (hw : ∀ i, i < q + 1 → w.cell? ⟨bw, i, none⟩ = some (.string (tx i))) (hc : ixC (tx 0) = 3) (hn : q = 0) :
    Calls Tryz.prog 41 #[.agg #[.slice (some ⟨g1, 0, none⟩) st.x.n c1, .slice (some ⟨g2, 0, none⟩) st.x.m c2, .slice (some ⟨gm, 0, none⟩) st.ms.length cm, .slice (some ⟨gt, 0, none⟩) st.ts.length ct, .int .i64 st.tm, .slice ao ps.length c0], .slice (some ⟨bw, 0, none⟩) (q + 1) cw] w (LiR st ps ao (stpX st ps tx (q + 1) 3) (sayX st ps tx (q + 1) 3) w) := by
  have hy := wd_y3 hc
  have hqb : ((q : Int) == 0) = true := beq_iff_eq.2 (by omega)
  have HSY : Hid (sayX st ps tx (q + 1) 3 = ⟨#[109, 111, 118, 101, 115, 32]⟩ ++ itT (fnL st.x).length) := rfl
  have HST : Hid (stpX st ps tx (q + 1) 3 = (doX st (fnL st.x)).map fun s => (s, ps)) := rfl
  have hys := fin_size hk
  have hxn := hk.xn
  have HLF : Hid (∀ W, Below w.heap.size w W → Calls Tryz.prog 61 #[.agg #[.slice (some ⟨g1, 0, none⟩) st.x.n c1, .slice (some ⟨g2, 0, none⟩) st.x.m c2]] W fun e W' => (∃ g c, e = .returned (.tuple #[.slice (some ⟨g, 0, none⟩) (fnL st.x).length c, .bool (vldL st.x)]) ∧ MvsC W' g 0 (fnL st.x).length (mvM (fnL st.x)) (mvS (fnL st.x))) ∧ Below W.heap.size W W') := fun W h => by
   have hm := hM.keep h
   refine (specLineFinish_any g1 0 c1 g2 0 c2 st.x W (by omega) (by omega) hm.l1 hm.l2 hm.bk hm.tr).mono ?_
   rintro e W' ⟨⟨v, g, he, hrow⟩, hb⟩
   rcases hrow with ⟨b, cy, _, rfl, _, ho⟩ | ⟨hno, _⟩
   ·exact ⟨⟨b, cy, he, MvsC.of_own ho⟩, hb⟩
   ·cases hno
  generalize fnL st.x = ys at *
  clear hc hn
  have HB0 : Hid (Below w.heap.size w ((w.alloc (.cells #[.slice (some ⟨g1, 0, none⟩) st.x.n c1, .slice (some ⟨g2, 0, none⟩) st.x.m c2, .slice (some ⟨gm, 0, none⟩) st.ms.length cm, .slice (some ⟨gt, 0, none⟩) st.ts.length ct, .int .i64 st.tm, .slice ao ps.length c0] 68)).alloc (.cells #[.slice none 0 0, .slice none 0 0, .slice none 0 0, .slice none 0 0, .int .i64 0, .slice none 0 0] 68))) := (below_all _ _).alloc (by simp) _
  have HX2 : Hid (Bx ((w.alloc (.cells #[.slice (some ⟨g1, 0, none⟩) st.x.n c1, .slice (some ⟨g2, 0, none⟩) st.x.m c2, .slice (some ⟨gm, 0, none⟩) st.ms.length cm, .slice (some ⟨gt, 0, none⟩) st.ts.length ct, .int .i64 st.tm, .slice ao ps.length c0] 68)).alloc (.cells #[.slice none 0 0, .slice none 0 0, .slice none 0 0, .slice none 0 0, .int .i64 0, .slice none 0 0] 68)) w.heap.size 68 #[.slice (some ⟨g1, 0, none⟩) st.x.n c1, .slice (some ⟨g2, 0, none⟩) st.x.m c2, .slice (some ⟨gm, 0, none⟩) st.ms.length cm, .slice (some ⟨gt, 0, none⟩) st.ts.length ct, .int .i64 st.tm, .slice ao ps.length c0]) := (Bx.new _ _ _).alloc _
  have HX4 : Hid (Bx ((w.alloc (.cells #[.slice (some ⟨g1, 0, none⟩) st.x.n c1, .slice (some ⟨g2, 0, none⟩) st.x.m c2, .slice (some ⟨gm, 0, none⟩) st.ms.length cm, .slice (some ⟨gt, 0, none⟩) st.ts.length ct, .int .i64 st.tm, .slice ao ps.length c0] 68)).alloc (.cells #[.slice none 0 0, .slice none 0 0, .slice none 0 0, .slice none 0 0, .int .i64 0, .slice none 0 0] 68)) (w.heap.size + 1) 68 #[.slice none 0 0, .slice none 0 0, .slice none 0 0, .slice none 0 0, .int .i64 0, .slice none 0 0]) := Bx.newAt (by simp)
  have HZ0 : Hid (((w.alloc (.cells #[.slice (some ⟨g1, 0, none⟩) st.x.n c1, .slice (some ⟨g2, 0, none⟩) st.x.m c2, .slice (some ⟨gm, 0, none⟩) st.ms.length cm, .slice (some ⟨gt, 0, none⟩) st.ts.length ct, .int .i64 st.tm, .slice ao ps.length c0] 68)).alloc (.cells #[.slice none 0 0, .slice none 0 0, .slice none 0 0, .slice none 0 0, .int .i64 0, .slice none 0 0] 68)).heap.size = w.heap.size + 2) := by show _ = _; simp
  have HM := Lib.hid hM
  have HK := Lib.hid hk
  have HP := Lib.hid hp
  have hbl : bw < w.heap.size := World.block_lt_of_cell? w ⟨bw, 0, none⟩ (hw 0 (by omega))
  have HW : Hid (∀ W, Below w.heap.size w W → ∀ i, i < q + 1 → W.cell? ⟨bw, i, none⟩ = some (.string (tx i))) := fun W h i hi => by rw [h.cell (p := ⟨bw, i, none⟩) hbl]; exact hw i hi
  have HNB := Lib.hid (l9Numbers_any bw cw q tx ((w.alloc (.cells #[.slice (some ⟨g1, 0, none⟩) st.x.n c1, .slice (some ⟨g2, 0, none⟩) st.x.m c2, .slice (some ⟨gm, 0, none⟩) st.ms.length cm, .slice (some ⟨gt, 0, none⟩) st.ts.length ct, .int .i64 st.tm, .slice ao ps.length c0] 68)).alloc (.cells #[.slice none 0 0, .slice none 0 0, .slice none 0 0, .slice none 0 0, .int .i64 0, .slice none 0 0] 68)) hq (HW.out _ HB0.out))
  clear hM hk hp hw
  go_enter Tryz.func41, Tryz.ntmps41
  go_wp2_with fail
  generalize (w.alloc (.cells #[.slice (some ⟨g1, 0, none⟩) st.x.n c1, .slice (some ⟨g2, 0, none⟩) st.x.m c2, .slice (some ⟨gm, 0, none⟩) st.ms.length cm, .slice (some ⟨gt, 0, none⟩) st.ts.length ct, .int .i64 st.tm, .slice ao ps.length c0] 68)).alloc (.cells #[.slice none 0 0, .slice none 0 0, .slice none 0 0, .slice none 0 0, .int .i64 0, .slice none 0 0] 68) = w0 at *
  refine HNB.out.mono ?_
  rintro e w2 ⟨⟨gn, cn, rfl, hnc, hgz, hgl, hqc⟩, hb2⟩
  have hz0 := HZ0.out
  have hz2 := hb2.size
  have HB2 := Lib.hid (HB0.out.trans (hb2.mono HB0.out.size))
  have hsx := (HX2.out.below hb2 HX2.out.lt).cell
  have HM3 : Hid (∀ c7, LiM w (w2.alloc (.cells c7 68)) w2.heap.size gn bw q tx #[.slice (some ⟨g1, 0, none⟩) st.x.n c1, .slice (some ⟨g2, 0, none⟩) st.x.m c2, .slice (some ⟨gm, 0, none⟩) st.ms.length cm, .slice (some ⟨gt, 0, none⟩) st.ts.length ct, .int .i64 st.tm, .slice ao ps.length c0] #[.slice none 0 0, .slice none 0 0, .slice none 0 0, .slice none 0 0, .int .i64 0, .slice none 0 0] c7) := fun c7 => ⟨(HX2.out.below hb2 HX2.out.lt).alloc _, (HX4.out.below hb2 HX4.out.lt).alloc _, Bx.new _ _ _, HB2.out.alloc HB2.out.size _, hnc.keep (below_all _ _), by omega, by omega, hgl, hbl, fun i hi => HW.out _ (HB2.out.alloc HB2.out.size _) i hi⟩
  have HQC : Hid (q ≤ cn) := hqc
  have hs2 := fun c7 => (HM3.out c7).x2.cell
  have hwd : ∀ c7, (w2.alloc (.cells c7 68)).cell? ⟨bw, 0, none⟩ = some (.string (tx 0)) := fun c7 => (HM3.out c7).wd 0 (by omega)
  clear hb2 hnc HB0 HX2 HX4 HZ0 HNB hgz hgl hz0 hz2 HB2 hqc
  go_wp2_with fail
  have HMD : Hid (LiM w (w2.alloc (.cells #[.slice (some ⟨g1, 0, none⟩) st.x.n c1, .slice (some ⟨g2, 0, none⟩) st.x.m c2, .slice (some ⟨gm, 0, none⟩) st.ms.length cm, .slice (some ⟨gt, 0, none⟩) st.ts.length ct, .int .i64 st.tm, .slice ao ps.length c0] 68)) w2.heap.size gn bw q tx #[.slice (some ⟨g1, 0, none⟩) st.x.n c1, .slice (some ⟨g2, 0, none⟩) st.x.m c2, .slice (some ⟨gm, 0, none⟩) st.ms.length cm, .slice (some ⟨gt, 0, none⟩) st.ts.length ct, .int .i64 st.tm, .slice ao ps.length c0] #[.slice none 0 0, .slice none 0 0, .slice none 0 0, .slice none 0 0, .int .i64 0, .slice none 0 0] #[.slice (some ⟨g1, 0, none⟩) st.x.n c1, .slice (some ⟨g2, 0, none⟩) st.x.m c2, .slice (some ⟨gm, 0, none⟩) st.ms.length cm, .slice (some ⟨gt, 0, none⟩) st.ts.length ct, .int .i64 st.tm, .slice ao ps.length c0]) := HM3.out _
  clear hwd hsx HM3 hs2
  generalize w2.alloc (.cells #[.slice (some ⟨g1, 0, none⟩) st.x.n c1, .slice (some ⟨g2, 0, none⟩) st.x.m c2, .slice (some ⟨gm, 0, none⟩) st.ms.length cm, .slice (some ⟨gt, 0, none⟩) st.ts.length ct, .int .i64 st.tm, .slice ao ps.length c0] 68) = w3 at *
  generalize w2.heap.size = b7 at *
  refine (HLF.out _ HMD.out.bl).mono ?_
  rintro e w4 ⟨⟨gy, cy, rfl, hmy⟩, hb4⟩
  have HM4 := Lib.hid (HMD.out.below hb4)
  have hz24 := HM4.out.x2.cell
  have HDO := Lib.hid (l9Do_any g1 c1 g2 c2 gm cm gt ct c0 gy cy ao st ps ys w4 (HM.out.keep HM4.out.bl) HK.out (by omega) hmy)
  have HDV := Lib.hid (fun W => dec_val (ys.length : Int) W (by omega) (by omega))
  have hts := itT_size (ys.length : Int) (by omega) (by omega)
  have hz4 : w.heap.size + 1 < w4.heap.size := by have := HM4.out.x4.lt; omega
  clear hb4 hmy
  generalize itT (ys.length : Int) = tt at *
  go_wp2_with fail
  cases hdo : doX st ys with
  | none =>
   have HN : Hid (stpX st ps tx (q + 1) 3 = none) := by show _ = none; rw [HST.out, hdo]; rfl
   rw [hdo] at HDO
   clear hdo
   refine HDO.out.mono ?_
   rintro e w5 ⟨hb5, rfl⟩
   have HM5 := Lib.hid (HM4.out.below hb5)
   have hf7 := HM5.out.x7.free
   have hc7 := HM5.out.x7.cell
   have HMS := Lib.hid (HM5.out.st6 (.slice (some ⟨g1, 0, none⟩) st.x.n c1) (.slice (some ⟨g2, 0, none⟩) st.x.m c2) (.slice (some ⟨gm, 0, none⟩) st.ms.length cm) (.slice (some ⟨gt, 0, none⟩) st.ts.length ct) (.int .i64 st.tm) (.slice ao ps.length c0))
   clear hb5 hz24
   go_wp2_with fail
   refine (HDV.out _).mono ?_
   rintro e w6 ⟨rfl, hb6⟩
   have HM6 := Lib.hid (HMS.out.below hb6)
   have hcs2 := HM6.out.x2.cell
   have hcs4 := HM6.out.x4.cell
   have hfs4 := HM6.out.x4.free
   have hcs7 := HM6.out.x7.cell
   clear hb6 hc7 hf7
   go_wp2_with fail
   obtain ⟨HXE, HFE⟩ := st6_both HM6.out.x4 (.slice (some ⟨g1, 0, none⟩) st.x.n c1) (.slice (some ⟨g2, 0, none⟩) st.x.m c2) (.slice (some ⟨gm, 0, none⟩) st.ms.length cm) (.slice (some ⟨gt, 0, none⟩) st.ts.length ct) (.int .i64 st.tm) (.slice ao ps.length c0)
   have hec := HXE.cell
   have HBE := HM6.out.bl.trans (HFE.below (B := w.heap.size) (fun k hk => by omega) HM6.out.bl.size)
   refine bodyPost_ret (v := .tuple #[.agg #[(.slice (some ⟨g1, 0, none⟩) st.x.n c1), (.slice (some ⟨g2, 0, none⟩) st.x.m c2), (.slice (some ⟨gm, 0, none⟩) st.ms.length cm), (.slice (some ⟨gt, 0, none⟩) st.ts.length ct), (.int .i64 st.tm), (.slice ao ps.length c0)], .string (noT ++ ⟨#[10]⟩)]) (by simp [results, Tryz.results41, go_sem, hec]; try rfl) rfl ⟨HBE, ?_⟩
   rw [HN.out]
   exact ⟨g1, c1, g2, c2, gm, cm, gt, ct, ao, c0, rfl, HM.out.keep HBE, .inr (.inl ⟨rfl, rfl⟩)⟩
  | some st2 =>
   have HN : Hid (stpX st ps tx (q + 1) 3 = some (st2, ps)) := by show _ = _; rw [HST.out, hdo]; rfl
   rw [hdo] at HDO
   clear hdo
   refine HDO.out.mono ?_
   rintro e w5 ⟨hb5, p1, e1, p2, e2, pm, em, pt, et, rfl, hsm, z1, z2, zm, zt⟩
   have HSM := Lib.hid hsm
   have HPZ : Hid (w4.heap.size ≤ p1 ∧ w4.heap.size ≤ p2 ∧ w4.heap.size ≤ pm ∧ w4.heap.size ≤ pt) := by show _ ∧ _ ∧ _ ∧ _; omega
   have HM5 := Lib.hid (HM4.out.below hb5)
   have hf7 := HM5.out.x7.free
   have hc7 := HM5.out.x7.cell
   have HMS := Lib.hid (HM5.out.st6 (.slice (some ⟨p1, 0, none⟩) st2.x.n e1) (.slice (some ⟨p2, 0, none⟩) st2.x.m e2) (.slice (some ⟨pm, 0, none⟩) st2.ms.length em) (.slice (some ⟨pt, 0, none⟩) st2.ts.length et) (.int .i64 st2.tm) (.slice ao ps.length c0))
   clear hb5 hsm z1 z2 zm zt hz24
   go_wp2_with fail
   refine (HDV.out _).mono ?_
   rintro e w6 ⟨rfl, hb6⟩
   have HB6 := Lib.hid hb6
   have HM6 := Lib.hid (HMS.out.below hb6)
   have hcs2 := HM6.out.x2.cell
   have hcs4 := HM6.out.x4.cell
   have hfs4 := HM6.out.x4.free
   have hcs7 := HM6.out.x7.cell
   clear hb6 hc7 hf7
   go_wp2_with fail
   obtain ⟨HXE, HFE⟩ := st6_both HM6.out.x4 (.slice (some ⟨p1, 0, none⟩) st2.x.n e1) (.slice (some ⟨p2, 0, none⟩) st2.x.m e2) (.slice (some ⟨pm, 0, none⟩) st2.ms.length em) (.slice (some ⟨pt, 0, none⟩) st2.ts.length et) (.int .i64 st2.tm) (.slice ao ps.length c0)
   have hec := HXE.cell
   have HBE := HM6.out.bl.trans (HFE.below (B := w.heap.size) (fun k hk => by omega) HM6.out.bl.size)
   refine bodyPost_ret (v := .tuple #[.agg #[(.slice (some ⟨p1, 0, none⟩) st2.x.n e1), (.slice (some ⟨p2, 0, none⟩) st2.x.m e2), (.slice (some ⟨pm, 0, none⟩) st2.ms.length em), (.slice (some ⟨pt, 0, none⟩) st2.ts.length et), (.int .i64 st2.tm), (.slice ao ps.length c0)], .string (⟨#[109, 111, 118, 101, 115, 32]⟩ ++ tt ++ ⟨#[10]⟩)]) (by simp [results, Tryz.results41, go_sem, hec]; try rfl) rfl ⟨HBE, ?_⟩
   rw [HN.out, HSY.out]
   obtain ⟨_, HF7⟩ := st6_both HM5.out.x7 (.slice (some ⟨p1, 0, none⟩) st2.x.n e1) (.slice (some ⟨p2, 0, none⟩) st2.x.m e2) (.slice (some ⟨pm, 0, none⟩) st2.ms.length em) (.slice (some ⟨pt, 0, none⟩) st2.ts.length et) (.int .i64 st2.tm) (.slice ao ps.length c0)
   have hz7 := HM4.out.x7.lt
   have hpz := HPZ.out
   exact ⟨p1, e1, p2, e2, pm, em, pt, et, ao, c0, rfl, (((HSM.out.fr HF7 (by omega) (by omega) (by omega) (by omega) (HM.out.keep HMS.out.bl).pv).keep HB6.out).fr HFE (by omega) (by omega) (by omega) (by omega) (HM.out.keep HBE).pv), .inr (.inl ⟨rfl, rfl⟩)⟩
theorem spT_size {f : Nat → Int} {n : Nat} (hn : n ≤ 5) (h : ∀ i, i < n → 0 ≤ f i ∧ f i ≤ 1000000) : (spT f n).size ≤ 1000000 := by
 have h1 : (spT f n).size ≤ n * (21 + 1) := jn_size (fun i hi => by have := h i hi; exact itT_size _ (by omega) (by omega))
 omega
theorem whO_size {st : Ses} (hk : SesOk st) : (whO st).size ≤ 1000000 := by
 have hx := hk.xn
 refine spT_size hx.2 (fun i hi => ?_)
 have hb := vldL_true hk.xv
 have ht := (trOk_true.1 (hb.2.2.2.2.1 i hi)).1
 omega
theorem nxO_size (st : Ses) : (nxO st).size ≤ 1000000 := by
 have h1 : (nxO st).size ≤ (lmL st.x).length * (22 + 1) := jn_size (fun i hi => by
  have h := lmL_at hi
  have := itT_size (mvM (lmL st.x) i) (by omega) (by omega)
  unfold nxW
  rw [ByteArray.size_append]
  omega)
 have := lmL_len st.x
 omega
theorem bkX_size (st : Ses) (k : Int) : (bkX st k).size ≤ 1000000 := by
 unfold bkX
 split
 ·rename_i h
  unfold bkG at h
  rw [Bool.and_eq_true] at h
  have hr := bkN_rgV h.2
  have h1 : (jnT (bkW (bkN st k)) (bkN st k).length).size ≤ (bkN st k).length * (1000 + 1) := jn_size (fun i hi => bkW_size hr hi)
  have := (rgV_true.1 hr).1
  omega
 ·show (2 : Nat) ≤ _; decide
theorem byX_size {st : Ses} {ps : List Pt} (hp : PsOk st.x.n ps) (k : Int) : (byX st ps k).size ≤ 1000000 := by
 have hb := byV_bd (k := k) hp
 unfold byX
 split
 ·show (2 : Nat) ≤ _; decide
 ·have := itT_size (byV ps st.x.n k) (by omega) (by omega)
  omega
theorem sayX_size {st : Ses} {ps : List Pt} {tx : Nat → ByteArray} {n : Nat} (h : SeOk (st, ps)) : ∀ k, (sayX st ps tx n k).size ≤ 1000000 := by
 have hk : SesOk st := h.k
 have hp : PsOk st.x.n ps := h.p
 intro k
 unfold sayX
 split
 ·show (2 : Nat) ≤ _; decide
 ·show (2 : Nat) ≤ _; decide
 ·show (2 : Nat) ≤ _; decide
 ·have h1 := fin_size hk
  have h2 := itT_size ((fnL st.x).length : Int) (by omega) (by omega)
  rw [ByteArray.size_append]
  have e : (⟨#[109, 111, 118, 101, 115, 32]⟩ : ByteArray).size = 6 := rfl
  omega
 ·split
  ·split
   ·rename_i l e
    have hx := hk.xn
    exact spT_size hx.1 (fun i hi => by
     have h := adO_bd (by have := nmF_bd (tx 1); omega) e i hi
     omega)
   ·show (2 : Nat) ≤ _; decide
  ·show (4 : Nat) ≤ _; decide
 ·unfold askX
  split
  ·exact whO_size hk
  ·exact nxO_size st
  ·exact bkX_size st _
  ·exact byX_size hp _
  ·show (4 : Nat) ≤ _; decide
theorem tell_size {s : SeP} (h : SeOk s) (t : ByteArray) : (tellX s t).size ≤ 1000000 := by
 unfold tellX
 split
 ·exact sayX_size h _
 ·show (2 : Nat) ≤ _; decide
theorem spB_len {c : UInt8} : ∀ {l : List UInt8} {x : List UInt8}, x ∈ spB c l → x.length ≤ l.length
  | [], x, h => by
   have : x = [] := by simpa [spB] using h
   subst this
   exact Nat.le_refl _
  | b :: l, x, h => by
   unfold spB at h
   split at h
   ·rcases List.mem_cons.1 h with h | h
    ·subst h; exact Nat.zero_le _
    ·exact Nat.le_succ_of_le (spB_len h)
   ·split at h
    ·rename_i e
     exact absurd e (spB_ne c l)
    ·rename_i y r e
     rcases List.mem_cons.1 h with h | h
     ·subst h
      have := spB_len (c := c) (l := l) (x := y) (by rw [e]; exact List.mem_cons_self)
      simpa using this
     ·have := spB_len (c := c) (l := l) (x := x) (by rw [e]; exact List.mem_cons_of_mem _ h)
      exact Nat.le_succ_of_le this
theorem lnI_size (t : ByteArray) (k : Nat) : (lnI t k).size ≤ t.size := by
 unfold lnI
 cases e : (lnT t)[k]? with
 | none => exact Nat.zero_le _
 | some x =>
  have hx : x ∈ lnT t := List.mem_of_getElem? e
  have h : x.data.toList ∈ spB 10 t.data.toList := by
   rw [← lnT_spB]
   exact List.mem_map.2 ⟨x, hx, rfl⟩
  have := spB_len h
  simpa using this
def itX (t : ByteArray) : Nat → SeP
  | 0 => (ses0, [])
  | k + 1 => nxtX (itX t k) (lnI t k)
def ouX (t : ByteArray) (k : Nat) : ByteArray := tellX (itX t k) (lnI t k)
theorem it_ok (t : ByteArray) : ∀ k, SeOk (itX t k)
  | 0 => ⟨⟨newL_vld (by decide) (by decide) (by decide), Int.le_refl _, by show (0 : Int) ≤ 2000; decide, Nat.zero_le _, rfl⟩, PsOk.nil (by show 1 ≤ 1; decide) (by show 1 ≤ 5; decide)⟩
  | k + 1 => nxt_ok (it_ok t k) _
def tooT : ByteArray := ⟨#[116, 111, 111, 32, 108, 111, 110, 103, 10]⟩
def fnX (t : ByteArray) : SeP := itX t ((lnT t).length - 1)
def EX (t : ByteArray) : ByteArray := if t.size ≤ 500 then ⟨(exO (ouX t) ((lnT t).length - 1) ++ (exT (fnX t).1.x.m (fnX t).2.length).data.toList).toArray⟩ else tooT
set_option linter.unusedSimpArgs false in
set_option maxRecDepth 100000 in
set_option maxHeartbeats 2000000 in
theorem implExecute_X (t : ByteArray) (m : Int) (w : World) (hW : WF m w) :
    Calls Tryz.prog 11 #[.string t] w fun e w' => e = .returned (.string (EX t)) ∧ Below w.heap.size w w' := by
  by_cases hsz : t.size ≤ 500
  ·have hx := (it_ok t ((lnT t).length - 1)).k.xn
   have hl := (it_ok t ((lnT t).length - 1)).p.len
   have q := executeP_of t m w hsz hW (fun k => (itX t k).1) (fun k => (itX t k).2) (ouX t) rfl rfl (fun k => tell_size (it_ok t k) _) (fun k _ => ansX (it_ok t k) (by have := lnI_size t k; omega)) (by omega) (by omega)
   refine q.mono ?_
   rintro e w' ⟨rfl, hb⟩
   refine ⟨?_, hb⟩
   rw [show EX t = _ from if_pos hsz]
   rfl
  ·have hE : Hid (EX t = tooT) := if_neg hsz
   have h1 : (500 : Int) < (t.size : Int) := by omega
   clear hsz
   go_enter Tryz.func11, Tryz.ntmps11
   go_wp2_with fail
   go_ret
   exact ⟨by rw [hE.out]; rfl, Below.refl _ _⟩
end Go.Proofs.YtlkdmpfifpkpaaaGreatDoor

