/-
  Parts of the proof: Zl. No condition.
-/
import Derived.Test.YtlkdmpfifpkpaaaGreatDoorV30
namespace Go.Proofs.YtlkdmpfifpkpaaaGreatDoor
open Go.RowKit
structure SpM (w : World) (g1 g2 gm gt : Nat) (ao : Option Addr) (st : Ses) (ps : List Pt) : Prop where
  bk : BkC w g1 0 st.x.n st.x.N st.x.I st.x.O
  tr : IC w g2 0 st.x.m st.x.T
  mv : MvsC w gm 0 st.ms.length (mvM st.ms) (mvS st.ms)
  tv : IC w gt 0 st.ts.length (iF st.ts)
  pv : PsV w ao ps
  l1 : g1 < w.heap.size
  l2 : g2 < w.heap.size
  lm : gm < w.heap.size
  lt : gt < w.heap.size
theorem SpM.keep {w w' : World} {g1 g2 gm gt : Nat} {ao : Option Addr} {st : Ses} {ps : List Pt} (h : SpM w g1 g2 gm gt ao st ps) (hb : Below w.heap.size w w') : SpM w' g1 g2 gm gt ao st ps :=
 ⟨h.bk.keep hb, h.tr.keep hb, h.mv.keep hb, h.tv.keep hb, h.pv.keep hb, Nat.lt_of_lt_of_le h.l1 hb.size, Nat.lt_of_lt_of_le h.l2 hb.size, Nat.lt_of_lt_of_le h.lm hb.size, Nat.lt_of_lt_of_le h.lt hb.size⟩
theorem SpM.fr {S : Nat → Prop} {w w' : World} {g1 g2 gm gt : Nat} {ao : Option Addr} {st : Ses} {ps : List Pt} (h : SpM w g1 g2 gm gt ao st ps) (hf : Fr S w w') (n1 : ¬ S g1) (n2 : ¬ S g2) (nm : ¬ S gm) (nt : ¬ S gt) (hp : PsV w' ao ps) : SpM w' g1 g2 gm gt ao st ps := by
 have c : ∀ b o, b < w.heap.size → ¬ S b → w'.cell? ⟨b, o, none⟩ = w.cell? ⟨b, o, none⟩ := fun b o hb hs => World.cell?_of_block (w := w) (hf.block b hb hs)
 have hz := hf.size
 refine ⟨fun k hk => ?_, fun k hk => ?_, fun k hk => ?_, fun k hk => ?_, hp, Nat.lt_of_lt_of_le h.l1 hz, Nat.lt_of_lt_of_le h.l2 hz, Nat.lt_of_lt_of_le h.lm hz, Nat.lt_of_lt_of_le h.lt hz⟩
 ·rw [c g1 _ h.l1 n1, c g1 _ h.l1 n1, c g1 _ h.l1 n1]
  exact h.bk k hk
 ·rw [c g2 _ h.l2 n2]
  exact h.tr k hk
 ·rw [c gm _ h.lm nm, c gm _ h.lm nm]
  exact h.mv k hk
 ·rw [c gt _ h.lt nt]
  exact h.tv k hk
theorem grown_cell {w w' : World} {R b : Nat} (hg : w.grownBy w' (some R)) (o : Nat) (h : b < w.heap.size) (hne : b ≠ R) : w'.cell? ⟨b, o, none⟩ = w.cell? ⟨b, o, none⟩ := World.cell?_of_block (w := w) (hg.block b h (by simpa using hne))
structure NxI (w wr : World) (g cap j z1 z2 b : Nat) (ys : List (Int × ByteArray)) : Prop where
  td : TdI w wr g cap j (nxW ys)
  mv : MvsC wr b 0 ys.length (mvM ys) (mvS ys)
  gb : g < z1 ∨ z2 ≤ g
  wz : z2 ≤ wr.heap.size
theorem NxI.push {w wr wi wa : World} {g cap j z1 z2 b g' c' : Nat} {ys : List (Int × ByteArray)} (h : NxI w wr g cap j z1 z2 b ys) (hb : Below wr.heap.size wr wi) (hbl : b < wr.heap.size) (hne : b ≠ g) (ht : TdI w wa g' c' (j + 1) (nxW ys)) (hgr : wi.grownBy wa (some g)) (hd : g' = g ∨ wi.heap.size ≤ g') : NxI w wa g' c' (j + 1) z1 z2 b ys := by
 have h1 := hb.size
 have h2 := hgr.size
 have h3 := h.wz
 have h4 := h.gb
 refine ⟨ht, fun k hk => ?_, ?_, by omega⟩
 ·obtain ⟨k0, k1⟩ := (h.mv.keep hb) k hk
  exact ⟨by rw [grown_cell hgr _ (by omega) hne]; exact k0, by rw [grown_cell hgr _ (by omega) hne]; exact k1⟩
 ·rcases hd with rfl | hd <;> omega
set_option linter.unusedSimpArgs false in
set_option maxRecDepth 100000 in
set_option maxHeartbeats 4000000 in
theorem l9Next_any (g1 c1 g2 c2 gm cm gt ct c0 : Nat) (ao : Option Addr) (st : Ses) (ps : List Pt) (w : World) (hM : SpM w g1 g2 gm gt ao st ps) (hxn : st.x.n ≤ 1000 ∧ st.x.m ≤ 1000) :
    Calls Tryz.prog 87 #[.agg #[.slice (some ⟨g1, 0, none⟩) st.x.n c1, .slice (some ⟨g2, 0, none⟩) st.x.m c2, .slice (some ⟨gm, 0, none⟩) st.ms.length cm, .slice (some ⟨gt, 0, none⟩) st.ts.length ct, .int .i64 st.tm, .slice ao ps.length c0]] w fun e w' => e = .returned (.string (nxO st ++ ⟨#[10]⟩)) ∧ Below w.heap.size w w' := by
  have HBB : Hid (Below w.heap.size w (w.alloc (.cells #[.slice (some ⟨g1, 0, none⟩) st.x.n c1, .slice (some ⟨g2, 0, none⟩) st.x.m c2, .slice (some ⟨gm, 0, none⟩) st.ms.length cm, .slice (some ⟨gt, 0, none⟩) st.ts.length ct, .int .i64 st.tm, .slice ao ps.length c0] 68))) := below_all _ _
  have HX0 : Hid (Bx (w.alloc (.cells #[.slice (some ⟨g1, 0, none⟩) st.x.n c1, .slice (some ⟨g2, 0, none⟩) st.x.m c2, .slice (some ⟨gm, 0, none⟩) st.ms.length cm, .slice (some ⟨gt, 0, none⟩) st.ts.length ct, .int .i64 st.tm, .slice ao ps.length c0] 68)) w.heap.size 68 #[.slice (some ⟨g1, 0, none⟩) st.x.n c1, .slice (some ⟨g2, 0, none⟩) st.x.m c2, .slice (some ⟨gm, 0, none⟩) st.ms.length cm, .slice (some ⟨gt, 0, none⟩) st.ts.length ct, .int .i64 st.tm, .slice ao ps.length c0]) := Bx.new _ _ _
  have HY0 : Hid (TdI w ((w.alloc (.cells #[.slice (some ⟨g1, 0, none⟩) st.x.n c1, .slice (some ⟨g2, 0, none⟩) st.x.m c2, .slice (some ⟨gm, 0, none⟩) st.ms.length cm, .slice (some ⟨gt, 0, none⟩) st.ts.length ct, .int .i64 st.tm, .slice ao ps.length c0] 68)).alloc (.cells #[] 9)) (w.heap.size + 1) 0 0 (nxW (lmL st.x))) := ⟨own_emptyAt (by simp), by omega, (below_all _ _).alloc (by simp) _⟩
  have HM := Lib.hid hM
  have HNO : Hid (nxO st = jnT (nxW (lmL st.x)) (lmL st.x).length) := rfl
  have HLM : Hid (∀ W, Below w.heap.size w W → Calls Tryz.prog 82 #[.agg #[.slice (some ⟨g1, 0, none⟩) st.x.n c1, .slice (some ⟨g2, 0, none⟩) st.x.m c2]] W fun e W' => (∃ v g, e = .returned v ∧ RowMs W.heap.size W' v (lmL st.x) g) ∧ Below W.heap.size W W') := fun W h => by
   have q := specLineMoves_any g1 0 c1 g2 0 c2 st.x W (by omega) (by omega) (hM.bk.keep h) (hM.tr.keep h)
   rw [spL_lmL] at q
   exact q
  have HLT : Hid (∀ i, i < (lmL st.x).length → (0 ≤ mvM (lmL st.x) i ∧ mvM (lmL st.x) i ≤ 5) ∧ (mvS (lmL st.x) i).size = 1) := fun i h => lmL_at h
  have hlen := lmL_len st.x
  clear hM hxn
  generalize lmL st.x = ys at *
  go_enter Tryz.func87, Tryz.ntmps87
  go_wp2_with fail
  have HB1 : Hid (Below w.heap.size w ((w.alloc (.cells #[.slice (some ⟨g1, 0, none⟩) st.x.n c1, .slice (some ⟨g2, 0, none⟩) st.x.m c2, .slice (some ⟨gm, 0, none⟩) st.ms.length cm, .slice (some ⟨gt, 0, none⟩) st.ts.length ct, .int .i64 st.tm, .slice ao ps.length c0] 68)).alloc (.cells #[] 9))) := HBB.out.alloc HBB.out.size _
  have HZ1 : Hid (((w.alloc (.cells #[.slice (some ⟨g1, 0, none⟩) st.x.n c1, .slice (some ⟨g2, 0, none⟩) st.x.m c2, .slice (some ⟨gm, 0, none⟩) st.ms.length cm, .slice (some ⟨gt, 0, none⟩) st.ts.length ct, .int .i64 st.tm, .slice ao ps.length c0] 68)).alloc (.cells #[] 9)).heap.size = w.heap.size + 2) := by show _ = _; simp
  clear HX0 HBB
  generalize (w.alloc (.cells #[.slice (some ⟨g1, 0, none⟩) st.x.n c1, .slice (some ⟨g2, 0, none⟩) st.x.m c2, .slice (some ⟨gm, 0, none⟩) st.ms.length cm, .slice (some ⟨gt, 0, none⟩) st.ts.length ct, .int .i64 st.tm, .slice ao ps.length c0] 68)).alloc (.cells #[] 9) = w1 at *
  refine (HLM.out _ HB1.out).mono ?_
  rintro e w2 ⟨⟨v, gv, rfl, hrow⟩, hb2⟩
  have HB2 := Lib.hid (HB1.out.trans (hb2.mono HB1.out.size))
  have hv : ∃ am cy b, v = .slice am ys.length cy ∧ w1.heap.size ≤ b ∧ (0 < ys.length → am = some ⟨b, 0, none⟩ ∧ b < w2.heap.size) ∧ MvsC w2 b 0 ys.length (mvM ys) (mvS ys) := by
   rcases hrow with ⟨b, cy, _, rfl, hz, ho⟩ | ⟨_, e, rfl⟩
   ·exact ⟨_, _, b, rfl, hz, fun _ => ⟨rfl, Own.lt ho⟩, MvsC.of_own ho⟩
   ·exact ⟨none, 0, w1.heap.size, by rw [e]; rfl, Nat.le_refl _, fun h => by rw [e] at h; exact absurd h (by decide), fun k hk => by rw [e] at hk; exact absurd hk (by simp)⟩
  obtain ⟨am, cy, b, rfl, hbz, hbl, hmv⟩ := hv
  have hw12 := hb2.size
  have HN0 : Hid (NxI w w2 (w.heap.size + 1) 0 0 w1.heap.size w2.heap.size b ys) := ⟨HY0.out.keep hb2, hmv, .inl (by have := HZ1.out; omega), Nat.le_refl _⟩
  clear hrow hb2
  have HVC := Lib.hid hbl
  clear hbl
  have HBS : Hid (∀ i, i < ys.length → (nxW ys i).size ≤ 1000) := fun i hi => by
   have h := HLT.out i hi
   have := itT_size (mvM ys i) (by omega) (by omega)
   unfold nxW
   rw [ByteArray.size_append]
   omega
  go_wp2_with fail
  go_loopw [3, 5] (fun o i wr => ∃ j g cap : Nat, j ≤ ys.length ∧ i = .int .i64 j ∧ o = .slice (some ⟨g, 0, none⟩) j cap ∧ Hid (NxI w wr g cap j w1.heap.size w2.heap.size b ys)) (fun _ i _ => ys.length - (intOf i).toNat)
  case atStart => exact ⟨0, w.heap.size + 1, 0, Nat.zero_le _, rfl, rfl, HN0⟩
  case round =>
   obtain ⟨j, g, cap, hj, rfl, rfl, HN⟩ := hrel
   by_cases hlt : j < ys.length
   ·have hji : (j : Int) < (ys.length : Int) := by omega
    obtain ⟨rfl, hb2⟩ := HVC.out (by omega)
    obtain ⟨k0, k1⟩ := HN.out.mv j hlt
    rw [Nat.zero_add] at k0 k1
    have HTX : Hid (nxW ys j = itT (mvM ys j) ++ mvS ys j) := rfl
    have HMB : Hid (0 ≤ mvM ys j ∧ mvM ys j ≤ 1000000) := by have := HLT.out j hlt; show _ ∧ _; omega
    have hgl : g < wr.heap.size := Own.lt HN.out.td.ow
    have h2w := HN.out.wz
    have hbl : b < wr.heap.size := by omega
    have HGB := Lib.hid HN.out.gb
    have HCL : Hid (∀ W, Below wr.heap.size wr W → W.cell? ⟨b, j * 2, none⟩ = some (.int .i64 (mvM ys j)) ∧ W.cell? ⟨b, j * 2 + 1, none⟩ = some (.string (mvS ys j))) := fun W h => ⟨by rw [h.cell (p := ⟨b, j * 2, none⟩) hbl]; exact k0, by rw [h.cell (p := ⟨b, j * 2 + 1, none⟩) hbl]; exact k1⟩
    have hsz : ¬ 9223372036854775807 < (itT (mvM ys j)).size + (mvS ys j).size := by rw [← ByteArray.size_append]; have := HBS.out j hlt; rw [HTX.out] at this; omega
    generalize mvM ys j = m1 at *
    generalize mvS ys j = l1 at *
    have HBd1 : Hid (Below wr.heap.size wr wr.drew) := (Below.refl _ _).drew
    go_wp2_with fail
    clear k0 k1
    have hbg : b ≠ g := by have := HGB.out; omega
    have HI := Lib.hid HN.out.td
    refine wp_region_held_drew (S := fun W => W.cell? ⟨b, j * 2, none⟩ = some (.int .i64 m1) ∧ W.cell? ⟨b, j * 2 + 1, none⟩ = some (.string l1)) (by kernel_rfl) (HCL.out _ HBd1.out) (fun hHeld => ?_)
    refine tkR 0 ?_
    refine tkR 1 ?_
    refine tkR 2 ?_
    refine tkR 3 ?_
    refine tkR 4 ?_
    refine tkR 5 ?_
    refine tkR 7 ?_
    refine tkR 8 ?_
    refine tkR 9 ?_
    refine tkR 10 ?_
    refine tkR 11 ?_
    refine r1R 6 (fun K hK => ?_)
    go_simp
    go_at_call 32
    go_must (refine Calls.mono (dec_val m1 _ HMB.out.1 HMB.out.2) ?_)
    rintro e wi ⟨rfl, hbi⟩
    have HBi : Hid (Below wr.heap.size wr wi) := HBd1.out.trans (hbi.mono HBd1.out.size)
    clear hbi
    refine oR hK ?_ (fun hHeld => ?_)
    ·try dsimp only
     exact HCL.out _ HBi.out
    clear hK K
    refine tkR 12 ?_
    refine r1R 13 (fun K hK => ?_)
    go_simp
    skip
    refine oR hK ?_ (fun hHeld => ?_)
    ·try dsimp only
     exact HCL.out _ (HBi.out.alloc HBi.out.size _)
    clear hK K
    have HIi := Lib.hid (HI.out.keep HBi.out)
    refine r1R 14 (fun K hK => ?_)
    refine step_pushR (w := wi) elStr rfl (.tmp 16) (.tmp 29) rfl HIi.out.ow rfl [.string (itT m1 ++ l1)] rfl (fun q hq => by
     obtain rfl : q = 0 := by omega
     simp [HTX.out]) (fun _ _ => rfl) (by unfold maxLen; omega) (by omega) ?_
    intro g' c' wa HA hgr hd
    have HI2 := HIi.out.push HA hgr (hd.imp And.left Nat.le_of_lt)
    have hSW : wa.cell? ⟨b, j * 2, none⟩ = some (.int .i64 m1) ∧ wa.cell? ⟨b, j * 2 + 1, none⟩ = some (.string l1) := ⟨by rw [grown_cell hgr _ (by have := HBi.out.size; omega) hbg]; exact (HCL.out _ HBi.out).1, by rw [grown_cell hgr _ (by have := HBi.out.size; omega) hbg]; exact (HCL.out _ HBi.out).2⟩
    have HN2 : Hid (NxI w wa g' c' (j + 1) w1.heap.size w2.heap.size b ys) := HN.out.push HBi.out hbl hbg HI2 hgr (hd.imp And.left Nat.le_of_lt)
    clear HA hgr hd
    refine hK.out _ _ hSW (fun hHeld => ?_)
    clear hK K
    try simp only [Act.put, List.setIfInBounds_toArray, List.set_cons_zero, List.set_cons_succ]
    refine tkR 15 ?_
    refine wpAnyH_done (by kernel_rfl) ?_ _
    go_wp2_with fail
    go_roundw
    case rel => exact ⟨j + 1, g', c', by omega, by go_num, by simp, HN2⟩
    case measure => simp [intOf]; omega
   ·obtain rfl : j = ys.length := by omega
    have HJ := Lib.hid (l9Words_any g cap ys.length (nxW ys) wr (by omega) HBS.out HN.out.td.ow)
    have hss := jn_size HBS.out
    have hss2 : ys.length * (1000 + 1) ≤ 35 * 1001 := Nat.mul_le_mul_right _ (by omega)
    have HTD := Lib.hid HN.out.td.bl
    rw [← HNO.out] at HJ hss
    generalize hot : nxO st = ot at *
    have HOT := Lib.hid hot
    clear hot
    go_wp2_with fail
    refine HJ.out.mono ?_
    rintro e w3 ⟨rfl, rfl⟩
    go_wp2_with fail
    go_ret
    exact ⟨by rw [HOT.out]; rfl, HTD.out⟩
def bkX (st : Ses) (k : Int) : ByteArray := if bkG st k = true then jnT (bkW (bkN st k)) (bkN st k).length else noT
set_option linter.unusedSimpArgs false in
set_option maxRecDepth 100000 in
set_option maxHeartbeats 4000000 in
theorem l9Book_any (g1 c1 g2 c2 gm cm gt ct c0 : Nat) (ao : Option Addr) (st : Ses) (ps : List Pt) (k : Int) (w : World) (hM : SpM w g1 g2 gm gt ao st ps) (hl : st.ts.length = st.ms.length) (hms : st.ms.length ≤ 1000) :
    Calls Tryz.prog 88 #[.agg #[.slice (some ⟨g1, 0, none⟩) st.x.n c1, .slice (some ⟨g2, 0, none⟩) st.x.m c2, .slice (some ⟨gm, 0, none⟩) st.ms.length cm, .slice (some ⟨gt, 0, none⟩) st.ts.length ct, .int .i64 st.tm, .slice ao ps.length c0], .int .i64 k] w fun e w' => e = .returned (.string (bkX st k ++ ⟨#[10]⟩)) ∧ Below w.heap.size w w' := by
  have HB1 : Hid (Below w.heap.size w (w.alloc (.cells #[.slice (some ⟨g1, 0, none⟩) st.x.n c1, .slice (some ⟨g2, 0, none⟩) st.x.m c2, .slice (some ⟨gm, 0, none⟩) st.ms.length cm, .slice (some ⟨gt, 0, none⟩) st.ts.length ct, .int .i64 st.tm, .slice ao ps.length c0] 68))) := below_all _ _
  have HX0 : Hid (Bx (w.alloc (.cells #[.slice (some ⟨g1, 0, none⟩) st.x.n c1, .slice (some ⟨g2, 0, none⟩) st.x.m c2, .slice (some ⟨gm, 0, none⟩) st.ms.length cm, .slice (some ⟨gt, 0, none⟩) st.ts.length ct, .int .i64 st.tm, .slice ao ps.length c0] 68)) w.heap.size 68 #[.slice (some ⟨g1, 0, none⟩) st.x.n c1, .slice (some ⟨g2, 0, none⟩) st.x.m c2, .slice (some ⟨gm, 0, none⟩) st.ms.length cm, .slice (some ⟨gt, 0, none⟩) st.ts.length ct, .int .i64 st.tm, .slice ao ps.length c0]) := Bx.new _ _ _
  have HBG : Hid (bkG st k = (decide (k < st.x.n) && rgV (roF st.ms (iF st.ts) k st.ms.length))) := rfl
  have HBX : Hid (bkX st k = if bkG st k = true then jnT (bkW (bkN st k)) (bkN st k).length else noT) := rfl
  have HRG : Hid (rgV (roF st.ms (iF st.ts) k st.ms.length) = true → rgV (bkN st k) = true) := bkN_rgV
  have HRO : Hid (∀ W, Below w.heap.size w W → Calls Tryz.prog 113 #[.slice (some ⟨gm, 0, none⟩) st.ms.length cm, .slice (some ⟨gt, 0, none⟩) st.ts.length ct, .int .i64 k] W fun e W' => ∃ gx cx, e = .returned (.tuple #[.slice (some ⟨gx, 0, none⟩) (bkN st k).length cx, .bool (rgV (roF st.ms (iF st.ts) k st.ms.length))]) ∧ Hid (OwnN W' gx cx (bkN st k)) ∧ Hid (Below W.heap.size W W')) := fun W h => by
   have hM2 := hM.keep h
   have ht := hM2.tv
   rw [hl] at ht ⊢
   exact (specRegOf_any gm cm gt ct st.ms (iF st.ts) k W (by omega) hM2.mv ht).mono fun e W' ⟨⟨gx, cx, h1, h2, _⟩, h3⟩ => ⟨gx, cx, h1, h2, h3⟩
  have HHL := Lib.hid hl
  clear hM hl hms
  generalize bkN st k = xs at *
  generalize hrv : rgV (roF st.ms (iF st.ts) k st.ms.length) = rv at *
  clear hrv
  go_enter Tryz.func88, Tryz.ntmps88
  go_wp2_with fail
  refine (HRO.out _ HB1.out).mono ?_
  rintro e w2 ⟨b, cx, rfl, HOX, HB12⟩
  have HB2 := Lib.hid (HB1.out.trans (HB12.out.mono HB1.out.size))
  have HX2 := Lib.hid (HX0.out.below HB12.out HX0.out.lt)
  have hxc := HX2.out.cell
  clear HB12 HX0 HB1 HRO
  cases rv
  ·have HN : Hid (bkX st k = noT) := by
    show _ = _
    rw [HBX.out, HBG.out, Bool.and_false]
    rfl
   go_wp2_with fail
   go_ret
   exact ⟨by rw [HN.out]; rfl, HB2.out⟩
  ·by_cases hk : k < (st.x.n : Int)
   ·have hk2 : ¬ (st.x.n : Int) ≤ k := by omega
    have HY : Hid (bkX st k = jnT (bkW xs) xs.length) := by
     show _ = _
     rw [HBX.out, HBG.out, Bool.and_true, decide_eq_true hk]
     rfl
    have HRV := Lib.hid (HRG.out rfl)
    have hxl : xs.length ≤ 30 := (rgV_true.1 HRV.out).1
    have HN : Hid (∀ W, Below w2.heap.size w2 W → NtC W b 0 xs) := fun W h => (OwnN.nt HOX.out).keep h
    have HI0 : Hid (TdI w2 (w2.alloc (.cells #[] 9)) w2.heap.size 0 0 (bkW xs)) := ⟨own_empty _ _ _ _, Nat.le_refl _, below_all _ _⟩
    have HBS : Hid (∀ i, i < xs.length → (bkW xs i).size ≤ 1000) := fun i hi => bkW_size HRV.out hi
    have HNB : Hid (∀ i, i < xs.length → (0 ≤ nM xs i ∧ nM xs i ≤ 2000)) := fun i hi => (rgV_len1 HRV.out hi).1
    clear hk
    go_wp2_with fail
    clear hxc
    go_loopw [7, 8] (fun o i wr => ∃ j g cap : Nat, j ≤ xs.length ∧ i = .int .i64 j ∧ o = .slice (some ⟨g, 0, none⟩) j cap ∧ Hid (TdI w2 wr g cap j (bkW xs))) (fun _ i _ => xs.length - (intOf i).toNat)
    case atStart => exact ⟨0, w2.heap.size, 0, Nat.zero_le _, rfl, rfl, HI0⟩
    case round =>
     obtain ⟨j, g, cap, hj, rfl, rfl, HI⟩ := hrel
     by_cases hlt : j < xs.length
     ·have hji : (j : Int) < (xs.length : Int) := by omega
      obtain ⟨k0, k1⟩ := HN.out _ HI.out.bl j hlt
      rw [Nat.zero_add] at k0 k1
      have HTX : Hid (bkW xs j = itT (nM xs j) ++ nL xs j) := rfl
      have HMB : Hid (0 ≤ nM xs j ∧ nM xs j ≤ 1000000) := by have := HNB.out j hlt; show _ ∧ _; omega
      have hsz : ¬ 9223372036854775807 < (itT (nM xs j)).size + (nL xs j).size := by rw [← ByteArray.size_append]; have := HBS.out j hlt; rw [HTX.out] at this; omega
      have HCLW : Hid (∀ W, Below w2.heap.size w2 W → W.cell? ⟨b, j * 2, none⟩ = some (.int .i64 (nM xs j)) ∧ W.cell? ⟨b, j * 2 + 1, none⟩ = some (.string (nL xs j))) := fun W h => by
       obtain ⟨q0, q1⟩ := HN.out W h j hlt
       rw [Nat.zero_add] at q0 q1
       exact ⟨q0, q1⟩
      have HCL : Hid (∀ W, Below wr.heap.size wr W → W.cell? ⟨b, j * 2, none⟩ = some (.int .i64 (nM xs j)) ∧ W.cell? ⟨b, j * 2 + 1, none⟩ = some (.string (nL xs j))) := fun W h => HCLW.out W (HI.out.bl.trans (h.mono HI.out.bl.size))
      generalize nM xs j = m1 at *
      generalize nL xs j = l1 at *
      have HBd1 : Hid (Below wr.heap.size wr wr.drew) := (Below.refl _ _).drew
      have hgl : g < wr.heap.size := Own.lt HI.out.ow
      go_wp2_with fail
      clear k0 k1
      refine wp_region_held_drew (S := fun W => W.cell? ⟨b, j * 2, none⟩ = some (.int .i64 m1) ∧ W.cell? ⟨b, j * 2 + 1, none⟩ = some (.string l1)) (by kernel_rfl) (HCL.out _ HBd1.out) (fun hHeld => ?_)
      refine tkR 0 ?_
      refine tkR 1 ?_
      refine tkR 2 ?_
      refine tkR 3 ?_
      refine tkR 4 ?_
      refine tkR 5 ?_
      refine tkR 7 ?_
      refine tkR 8 ?_
      refine tkR 9 ?_
      refine tkR 10 ?_
      refine tkR 11 ?_
      refine r1R 6 (fun K hK => ?_)
      go_simp
      go_at_call 32
      go_must (refine Calls.mono (dec_val m1 _ HMB.out.1 HMB.out.2) ?_)
      rintro e wi ⟨rfl, hbi⟩
      have HBi : Hid (Below wr.heap.size wr wi) := HBd1.out.trans (hbi.mono HBd1.out.size)
      clear hbi
      refine oR hK ?_ (fun hHeld => ?_)
      ·try dsimp only
       exact HCL.out _ HBi.out
      clear hK K
      refine tkR 12 ?_
      refine r1R 13 (fun K hK => ?_)
      go_simp
      skip
      refine oR hK ?_ (fun hHeld => ?_)
      ·try dsimp only
       exact HCL.out _ (HBi.out.alloc HBi.out.size _)
      clear hK K
      have HIi := Lib.hid (HI.out.keep HBi.out)
      refine r1R 14 (fun K hK => ?_)
      refine step_pushR (w := wi) elStr rfl (.tmp 35) (.tmp 48) rfl HIi.out.ow rfl [.string (itT m1 ++ l1)] rfl (fun q hq => by
       obtain rfl : q = 0 := by omega
       simp [HTX.out]) (fun _ _ => rfl) (by unfold maxLen; omega) (by omega) ?_
      intro g' c' wa HA hgr hd
      have HI2 := HIi.out.push HA hgr (hd.imp And.left Nat.le_of_lt)
      have hSW := HCLW.out _ HI2.bl
      clear HA hgr hd
      refine hK.out _ _ hSW (fun hHeld => ?_)
      clear hK K
      try simp only [Act.put, List.setIfInBounds_toArray, List.set_cons_zero, List.set_cons_succ]
      refine tkR 15 ?_
      refine wpAnyH_done (by kernel_rfl) ?_ _
      have HI3 := Lib.hid HI2
      clear HI2
      go_wp2_with fail
      go_roundw
      case rel => exact ⟨j + 1, g', c', by omega, by go_num, by simp, HI3⟩
      case measure => simp [intOf]; omega
     ·obtain rfl : j = xs.length := by omega
      have HJ := Lib.hid (l9Words_any g cap xs.length (bkW xs) wr (by omega) HBS.out HI.out.ow)
      have hss := jn_size HBS.out
      have hss2 : xs.length * (1000 + 1) ≤ 30 * 1001 := Nat.mul_le_mul_right _ (by omega)
      have HTD := Lib.hid (HB2.out.trans (HI.out.bl.mono HB2.out.size))
      generalize jnT (bkW xs) xs.length = ot at *
      go_wp2_with fail
      refine HJ.out.mono ?_
      rintro e w3 ⟨rfl, rfl⟩
      go_wp2_with fail
      go_ret
      exact ⟨by rw [HY.out]; rfl, HTD.out⟩
   ·have hk2 : (st.x.n : Int) ≤ k := by omega
    have HN : Hid (bkX st k = noT) := by
     show _ = _
     rw [HBX.out, HBG.out, Bool.and_true, decide_eq_false hk]
     rfl
    clear hk
    go_wp2_with fail
    go_ret
    exact ⟨by rw [HN.out]; rfl, HB2.out⟩
def byX (st : Ses) (ps : List Pt) (k : Int) : ByteArray := if byV ps st.x.n k < 0 then noT else itT (byV ps st.x.n k)
set_option linter.unusedSimpArgs false in
set_option maxRecDepth 100000 in
set_option maxHeartbeats 4000000 in
theorem l9Busy_any (g1 c1 g2 c2 gm cm gt ct c0 : Nat) (ao : Option Addr) (st : Ses) (ps : List Pt) (k : Int) (w : World) (hM : SpM w g1 g2 gm gt ao st ps) (hk : PsOk st.x.n ps) :
    Calls Tryz.prog 89 #[.agg #[.slice (some ⟨g1, 0, none⟩) st.x.n c1, .slice (some ⟨g2, 0, none⟩) st.x.m c2, .slice (some ⟨gm, 0, none⟩) st.ms.length cm, .slice (some ⟨gt, 0, none⟩) st.ts.length ct, .int .i64 st.tm, .slice ao ps.length c0], .int .i64 k] w fun e w' => e = .returned (.string (byX st ps k ++ ⟨#[10]⟩)) ∧ Below w.heap.size w w' := by
  have HB1 : Hid (Below w.heap.size w (w.alloc (.cells #[.slice (some ⟨g1, 0, none⟩) st.x.n c1, .slice (some ⟨g2, 0, none⟩) st.x.m c2, .slice (some ⟨gm, 0, none⟩) st.ms.length cm, .slice (some ⟨gt, 0, none⟩) st.ts.length ct, .int .i64 st.tm, .slice ao ps.length c0] 68))) := below_all _ _
  have HPB : Hid (∀ W, Below w.heap.size w W → Calls Tryz.prog 114 #[.int .i64 st.x.n, .slice ao ps.length c0, .int .i64 k] W fun e w' => e = .returned (.int .i64 (byV ps st.x.n k)) ∧ Below W.heap.size W w') := fun W h => specPsBusy_any ao c0 st.x.n k ps W hk (hM.pv.keep h)
  have hbd := byV_bd hk (k := k)
  have HBO : Hid (byX st ps k = if byV ps st.x.n k < 0 then noT else itT (byV ps st.x.n k)) := rfl
  clear hM hk
  generalize byV ps st.x.n k = bv at *
  go_enter Tryz.func89, Tryz.ntmps89
  go_wp2_with fail
  refine (HPB.out _ HB1.out).mono ?_
  rintro e w2 ⟨rfl, hb2⟩
  have HB2 := Lib.hid (HB1.out.trans (hb2.mono HB1.out.size))
  clear hb2 HB1 HPB
  by_cases h0 : bv < 0
  ·have HN : Hid (byX st ps k = noT) := by show _ = _; rw [HBO.out, if_pos h0]
   go_wp2_with fail
   go_ret
   exact ⟨by rw [HN.out]; rfl, HB2.out⟩
  ·have HN : Hid (byX st ps k = itT bv) := by show _ = _; rw [HBO.out, if_neg h0]
   have hsz := itT_size bv (by omega) (by omega)
   have HDV : Hid (∀ W, Calls Tryz.prog 32 #[.int .i64 bv] W fun e w' => e = .returned (.string (itT bv)) ∧ Below W.heap.size W w') := fun W => dec_val bv W (by omega) (by omega)
   generalize itT bv = tt at *
   go_wp2_with fail
   refine (HDV.out _).mono ?_
   rintro e w3 ⟨rfl, hb3⟩
   have HB3 := Lib.hid (HB2.out.trans (hb3.mono HB2.out.size))
   clear hb3
   go_wp2_with fail
   go_ret
   exact ⟨by rw [HN.out]; rfl, HB3.out⟩
end Go.Proofs.YtlkdmpfifpkpaaaGreatDoor

