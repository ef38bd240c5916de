/-
  Walks on paths: the reference's PathRun.
-/
import Derived.Test.YtlflkkigagdilaaPc
namespace Go.Proofs.Ytlflkkigagdilaa
open Go.RowKit

/-- what the reference's loop keeps -/
structure RuM (w wr : World) (gI cI gO cO k : Nat) (I O : Nat → Int) : Prop where
  res : Bx wr w.heap.size 37 #[.slice none 0 0, .slice none 0 0]
  box : Bx wr (w.heap.size + 1 + 1 + 1) 37 #[.slice (some ⟨gI, 0, none⟩) k cI, .slice (some ⟨gO, 0, none⟩) k cO]
  oI : Own wr gI cI k 1 3 (fun i => .int .i64 (I i))
  oO : Own wr gO cO k 1 3 (fun i => .int .i64 (O i))
  hI : w.heap.size < gI
  hO : w.heap.size < gO
  nI : gI ≠ w.heap.size + 1 + 1 + 1
  nO : gO ≠ w.heap.size + 1 + 1 + 1
  nIO : gI ≠ gO
  bl : Below w.heap.size w wr
/-- the same with one more entry time -/
structure RuI (w wr : World) (gI cI gO cO k : Nat) (I O : Nat → Int) : Prop where
  res : Bx wr w.heap.size 37 #[.slice none 0 0, .slice none 0 0]
  box : Bx wr (w.heap.size + 1 + 1 + 1) 37 #[.slice (some ⟨gI, 0, none⟩) (k + 1) cI, .slice (some ⟨gO, 0, none⟩) k cO]
  oI : Own wr gI cI (k + 1) 1 3 (fun i => .int .i64 (I i))
  oO : Own wr gO cO k 1 3 (fun i => .int .i64 (O i))
  hI : w.heap.size < gI
  hO : w.heap.size < gO
  nI : gI ≠ w.heap.size + 1 + 1 + 1
  nO : gO ≠ w.heap.size + 1 + 1 + 1
  nIO : gI ≠ gO
  bl : Below w.heap.size w wr
section
variable {w wr wa : World} {gI cI gO cO k : Nat} {I O : Nat → Int}
theorem RuM.pushI (h : RuM w wr gI cI gO cO k I O) {g c : Nat} (hA : Own wa g c (k + 1) 1 3 (fun i => .int .i64 (I i))) (hg : wr.grownBy wa (some gI)) (hd : (g = gI ∧ c = cI) ∨ wr.heap.size < g) :
    RuI w (wa.setCell ⟨w.heap.size + 1 + 1 + 1, 0, none⟩ (.slice (some ⟨g, 0, none⟩) (k + 1) c)) g c gO cO k I O := by
  have h1 := h.nI
  have h2 := h.nO
  have h3 := h.nIO
  have h4 := h.hI
  have h5 := h.hO
  have h6 := h.box.lt
  have h7 := h.oO.lt
  have h8 := h.bl.size
  exact ⟨(h.res.kept hg (by omega)).setOther (by dsimp only; omega) _, (h.box.kept hg (by omega)).set 0 _, hA.setOther (by dsimp only; omega) _, (h.oO.kept hg (by simp; omega)).setOther (by dsimp only; omega) _, by omega, h.hO, by omega, h.nO, by omega,
    (h.bl.trans (below_of_grown hg (by omega) h8)).setCell (by dsimp only; omega) _⟩
theorem RuI.pushO (h : RuI w wr gI cI gO cO k I O) {g c : Nat} (hA : Own wa g c (k + 1) 1 3 (fun i => .int .i64 (O i))) (hg : wr.grownBy wa (some gO)) (hd : (g = gO ∧ c = cO) ∨ wr.heap.size < g) :
    RuM w (wa.setCell ⟨w.heap.size + 1 + 1 + 1, 1, none⟩ (.slice (some ⟨g, 0, none⟩) (k + 1) c)) gI cI g c (k + 1) I O := by
  have h1 := h.nI
  have h2 := h.nO
  have h3 := h.nIO
  have h4 := h.hI
  have h5 := h.hO
  have h6 := h.box.lt
  have h7 := h.oI.lt
  have h8 := h.bl.size
  exact ⟨(h.res.kept hg (by omega)).setOther (by dsimp only; omega) _, (h.box.kept hg (by omega)).set 1 _, (h.oI.kept hg (by simp; omega)).setOther (by dsimp only; omega) _, hA.setOther (by dsimp only; omega) _, h.hI, by omega, h.nI, by omega, by omega,
    (h.bl.trans (below_of_grown hg (by omega) h8)).setCell (by dsimp only; omega) _⟩
theorem RuM.below {w' : World} {B : Nat} (h : RuM w wr gI cI gO cO k I O) (hb : Below B wr w') (hB : B = wr.heap.size) : RuM w w' gI cI gO cO k I O := by
  subst hB
  exact ⟨h.res.below hb h.res.lt, h.box.below hb h.box.lt, h.oI.below hb h.oI.lt, h.oO.below hb h.oO.lt, h.hI, h.hO, h.nI, h.nO, h.nIO, h.bl.trans (hb.mono h.bl.size)⟩
end
set_option maxHeartbeats 2000000 in
theorem specRun_any (t : Int) (b off n c : Nat) (f : Nat → Int) (w : World) (hn : n ≤ 1000000) (hc : IC w b off n f) (ht : -9223372036854775808 ≤ t ∧ t ≤ 9223372036854775807) :
    Calls Try.prog 26 #[.int .i64 t, .slice (some ⟨b, off, none⟩) n c] w (PtRes (runOk t f n) (runPt t f n) w) := by
  have HC := Lib.hid hc
  have HBB : Hid (∀ o, Below w.heap.size w (w.alloc o)) := fun o => below_all _ _
  clear hc
  cases hr : rvB n n f
  · have HR := Lib.hid hr
    have HK : Hid (runOk t f n = false) := by show _ = _; unfold runOk; rw [hr]; rfl
    clear hr
    go_enter Try.func26, Try.ntmps26
    go_wp2_with fail
    refine (l2Runs_any b off n c f n _ (by omega) (HC.out.keep (HBB.out _))).mono ?_
    rintro e w' ⟨rfl, rfl⟩
    rw [HR.out]
    go_wp2_with fail
    refine bodyPost_ret (v := .tuple #[.agg #[.slice none 0 0, .slice none 0 0], .bool false]) (by simp [results, Try.results26, go_sem]) rfl ⟨_, by rw [HK.out], fun h => absurd (HK.out.symm.trans h) (by simp), fun _ => rfl, HBB.out _⟩
  have HR := Lib.hid hr
  cases hti : inB t 0 2000
  · have HK : Hid (runOk t f n = false) := by show _ = _; unfold runOk; rw [hti]; simp
    have HT := Lib.hid hti
    clear hr hti
    go_enter Try.func26, Try.ntmps26
    go_wp2_with fail
    refine (l2Runs_any b off n c f n _ (by omega) (HC.out.keep (HBB.out _))).mono ?_
    rintro e w' ⟨rfl, rfl⟩
    rw [HR.out]
    go_wp2_with fail
    refine (l6In_any _ _ _ _).mono ?_
    rintro e w' ⟨rfl, rfl⟩
    rw [HT.out]
    go_wp2_with fail
    refine bodyPost_ret (v := .tuple #[.agg #[.slice none 0 0, .slice none 0 0], .bool false]) (by simp [results, Try.results26, go_sem]) rfl ⟨_, by rw [HK.out], fun h => absurd (HK.out.symm.trans h) (by simp), fun _ => rfl, HBB.out _⟩
  have hpt := rvB_parts hr
  have hsum := sum_run hpt.2.2
  have HSUM := Lib.hid hsum
  have HF := Lib.hid hpt.2.2
  have HT := Lib.hid hti
  have hti2 := inB_true.1 hti
  obtain ⟨⟨hn1, hn2⟩, _, _⟩ := hpt
  obtain ⟨ht1, ht2⟩ := hti2
  have HK : Hid (runOk t f n = ptOk (runPt t f n) n) := by show _ = _; unfold runOk; rw [hr, hti]; simp
  clear hr hsum hti
  go_enter Try.func26, Try.ntmps26
  go_wp2_with fail
  refine (l2Runs_any b off n c f n _ (by omega) (HC.out.keep (HBB.out _))).mono ?_
  rintro e w' ⟨rfl, rfl⟩
  rw [HR.out]
  go_wp2_with fail
  refine (l6In_any _ _ _ _).mono ?_
  rintro e w' ⟨rfl, rfl⟩
  rw [HT.out]
  go_wp2_with fail
  go_loopw [0, 7] (fun s i wr => ∃ k gI cI gO cO : Nat, k ≤ n ∧ i = .int .i64 k ∧ s = .int .i64 (t + sumTo f k) ∧ RuM w wr gI cI gO cO k (runPt t f n).I (runPt t f n).O) (fun _ i _ => n - (intOf i).toNat)
  case atStart =>
    refine ⟨0, w.heap.size + 1, 0, w.heap.size + 1 + 1, 0, Nat.zero_le _, rfl, by simp [sumTo], ?_⟩
    exact ⟨(((Bx.new w _ _).alloc _).alloc _).alloc _, Bx.newAt (by simp), ((own_emptyAt (by simp)).alloc _).alloc _, (own_emptyAt (by simp)).alloc _, by omega, by omega, by omega, by omega, by omega, (((Below.refl _ _).alloc (Nat.le_refl _) _).alloc (by simp) _).alloc (by simp; omega) _ |>.alloc (by simp; omega) _⟩
  case round =>
    obtain ⟨k, gI, cI, gO, cO, hk, rfl, rfl, hm⟩ := hrel
    have HM := Lib.hid hm
    have hbx := hm.box.cell
    have hsk := HSUM.out k hk
    by_cases hlt : k < n
    · have hck := (HC.out.keep hm.bl).at k hlt
      have hfk := HF.out k hlt
      have HS : Hid (sumTo f (k + 1) = sumTo f k + f k) := rfl
      clear hm hck
      go_wp2_with (first
        | (at_builtin; refine wpList_pushI elInt rfl (.tmp 29) (.tmp 31) (by rfl) HM.out.oI (by rfl) (by rfl) (by rfl) (by omega) ?_; intro g' c' wa HA hgr hd; have hbx2 := (HM.out.box.kept hgr (by have := HM.out.nI; omega)).cell; have hbf2 := (HM.out.box.kept hgr (by have := HM.out.nI; omega)).free; have HMa := Lib.hid (HM.out.pushI HA hgr hd); have hck2 := (HC.out.keep HMa.out.bl).at k hlt; clear HA hgr hd)
        | (at_builtin; go_must (refine wpList_pushI elInt rfl (.tmp 41) (.tmp 43) (by rfl) HMa.out.oO (by rfl) (by show Value.slice (some ⟨wa.heap.size, 0, none⟩) 1 1 = _; simp [World.setCell]) (by show _ = t + sumTo f (k + 1); rw [HS.out]; omega) (by omega) ?_); intro g2 c2 wb HA hgr hd; have hbx3 := (HMa.out.box.kept hgr (by have := HMa.out.nO; omega)).cell; have hbf3 := (HMa.out.box.kept hgr (by have := HMa.out.nO; omega)).free; have HMb := Lib.hid (HMa.out.pushO HA hgr hd); clear HA hgr hd hbx2 hbf2))
      go_roundw
      case rel => exact ⟨k + 1, _, _, _, _, by omega, by go_num, by rw [HS.out]; go_num, HMb.out⟩
      case measure => simp [intOf]; omega
    · obtain rfl : k = n := by omega
      have hrc := hm.res.cell
      have hrf := hm.res.free
      clear hm
      go_wp2_with fail
      refine (specPValid_any _ (runPt t f k) k _ ⟨gI, 0, cI, gO, 0, cO, rfl, IC.of_own HM.out.oI, IC.of_own HM.out.oO⟩ (by show k ≤ _; omega) (by show k ≤ _; omega) (by omega)).mono ?_
      rintro e w2 ⟨rfl, hb2⟩
      have HM2 := Lib.hid (HM.out.below hb2 rfl)
      rw [← HK.out]
      clear hrc hrf hbx hb2
      have hrc := HM2.out.res.cell
      have hrf := HM2.out.res.free
      have hbx := HM2.out.box.cell
      have HPV : Hid (∀ u v : Value, PtV ((w2.setCell ⟨w.heap.size, 0, none⟩ u).setCell ⟨w.heap.size, 1, none⟩ v) (.agg #[.slice (some ⟨gI, 0, none⟩) k cI, .slice (some ⟨gO, 0, none⟩) k cO]) (runPt t f k)) := fun u v => by
        have h1 := HM2.out.hI
        have h2 := HM2.out.hO
        exact ⟨gI, 0, cI, gO, 0, cO, rfl, IC.of_own (t := 3) ((HM2.out.oI.setOther (by dsimp only; omega) u).setOther (by dsimp only; omega) v), IC.of_own (t := 3) ((HM2.out.oO.setOther (by dsimp only; omega) u).setOther (by dsimp only; omega) v)⟩
      cases hok : runOk t f k
      · have HO := Lib.hid hok
        clear hok
        go_wp2_with fail
        exact bodyPost_ret (v := .tuple #[.agg #[.slice none 0 0, .slice none 0 0], .bool false]) (by simp [results, Try.results26, go_sem, hrc]) rfl ⟨_, by rw [HO.out], fun h => absurd (HO.out.symm.trans h) (by simp), fun _ => rfl, (HM2.out.bl.setCell (by dsimp only; omega) _).setCell (by dsimp only; omega) _⟩
      · have HO := Lib.hid hok
        clear hok
        go_wp2_with fail
        exact bodyPost_ret (v := .tuple #[.agg #[.slice (some ⟨gI, 0, none⟩) k cI, .slice (some ⟨gO, 0, none⟩) k cO], .bool true]) (by simp [results, Try.results26, go_sem, hrc]) rfl ⟨_, by rw [HO.out], fun _ => HPV.out _ _, fun h => absurd (HO.out.symm.trans h) (by simp), (HM2.out.bl.setCell (by dsimp only; omega) _).setCell (by dsimp only; omega) _⟩
end Go.Proofs.Ytlflkkigagdilaa
