/-
  The walk of the reference's LineMoves.
-/
import Derived.Test.YtbachpfgakjncaaMc
import Derived.Test.YtbachpfgakjncaaSd
import Derived.Test.YtbachpfgakjncaaEf
namespace Go.Proofs.Ytbachpfgakjncaa
open Go.RowKit

/-- the reference's moves of a section by its first i letters -/
def spI (x : Ln) (k i : Nat) : List (Int × ByteArray) := ((eL.take i).filter (fun c => mvOk x k (chr c))).map fun c => ((k : Int), chr c)
def spU (x : Ln) (k : Nat) : List (Int × ByteArray) := (List.range k).flatMap (fun k => spI x k 7)
def spL (x : Ln) : List (Int × ByteArray) := if vldL x = true then spU x x.n else []
theorem spU_succ (x : Ln) (k : Nat) : spU x (k + 1) = spU x k ++ spI x k 7 := by simp [spU, List.range_succ]
theorem spI_zero (x : Ln) (k : Nat) : spI x k 0 = [] := rfl
theorem spI_yes {x : Ln} {k i : Nat} {c : UInt8} (hc : eL[i]? = some c) (h : mvOk x k (chr c) = true) : spI x k (i + 1) = spI x k i ++ [((k : Int), chr c)] := by
  simp [spI, List.take_add_one, hc, h]
theorem spI_no {x : Ln} {k i : Nat} {c : UInt8} (hc : eL[i]? = some c) (h : mvOk x k (chr c) = false) : spI x k (i + 1) = spI x k i := by
  simp [spI, List.take_add_one, hc, h]
theorem spI_len (x : Ln) (k i : Nat) : (spI x k i).length ≤ i := by
  simp only [spI, List.length_map]
  exact Nat.le_trans (List.length_filter_le _ _) (by simp; omega)
theorem spU_len (x : Ln) : ∀ k, (spU x k).length ≤ 7 * k
  | 0 => by simp [spU]
  | k + 1 => by
    rw [spU_succ, List.length_append]
    have h1 := spU_len x k
    have h2 := spI_len x k 7
    omega
/-- a row of the moves ys of its own -/
def OwnMs (w : World) (g cap : Nat) (ys : List (Int × ByteArray)) : Prop := Own w g cap ys.length 2 34 (mvF (mvM ys) (mvS ys))
theorem mvM_snoc (ys : List (Int × ByteArray)) (y : Int × ByteArray) {i : Nat} (hi : i < ys.length) : mvM ys i = mvM (ys ++ [y]) i ∧ mvS ys i = mvS (ys ++ [y]) i := by
  unfold mvM mvS
  rw [List.getElem?_append_left hi]
  exact ⟨rfl, rfl⟩
theorem OwnMs.ext {w : World} {g cap : Nat} {ys : List (Int × ByteArray)} (h : OwnMs w g cap ys) (y : Int × ByteArray) : Own w g cap ys.length 2 34 (mvF (mvM (ys ++ [y])) (mvS (ys ++ [y]))) :=
  Own.congr h (mvF_congr (fun _ hk => (mvM_snoc ys y hk).1) (fun _ hk => (mvM_snoc ys y hk).2))
theorem mvF_new (ys : List (Int × ByteArray)) (y : Int × ByteArray) : ∀ j, j < 2 → [Value.int .i64 y.1, .string y.2][j]? = some (mvF (mvM (ys ++ [y])) (mvS (ys ++ [y])) (ys.length * 2 + j)) := fun j hj => by
  match j, hj with
  | 0, _ => unfold mvF; rw [if_pos (by omega), show (ys.length * 2 + 0) / 2 = ys.length by omega]; simp [mvM]
  | 1, _ => unfold mvF; rw [if_neg (by omega), show (ys.length * 2 + 1) / 2 = ys.length by omega]; simp [mvS]
theorem mvF_one (M : Nat → Int) (L : Nat → ByteArray) (i : Nat) : (mvF M L i).oneCell' = true := by unfold mvF; split <;> rfl
set_option linter.unusedSimpArgs false in
set_option maxRecDepth 100000 in
set_option maxHeartbeats 4000000 in
theorem specLineMoves_any (bb bo cb tb tu ct : Nat) (x : Ln) (w : World) (hn : x.n ≤ 1000000000) (hm : x.m ≤ 1000000000) (hbk : BkC w bb bo x.n x.N x.I x.O) (hic : IC w tb tu x.m x.T) :
    Calls Try.prog 13 #[.agg #[.slice (some ⟨bb, bo, none⟩) x.n cb, .slice (some ⟨tb, tu, none⟩) x.m ct]] w fun e W' => (∃ v g, e = .returned v ∧ RowMs w.heap.size W' v (spL x) g) ∧ Below w.heap.size w W' := by
  have HKB : Hid (∀ w', Below w.heap.size w w' → BkC w' bb bo x.n x.N x.I x.O) := fun w' hb => hbk.keep hb
  have HKT : Hid (∀ w', Below w.heap.size w w' → IC w' tb tu x.m x.T) := fun w' hb => hic.keep hb
  have HM0 : Hid (VdM w ((w.alloc (.cells #[.slice (some ⟨bb, bo, none⟩) x.n cb, .slice (some ⟨tb, tu, none⟩) x.m ct] 26)).alloc (.cells #[] 34)) (.slice (some ⟨bb, bo, none⟩) x.n cb) (.slice (some ⟨tb, tu, none⟩) x.m ct)) := ⟨(Bx.new _ _ _).alloc _, (below_all _ _).alloc (by simp) _⟩
  have HO0 : Hid (OwnMs ((w.alloc (.cells #[.slice (some ⟨bb, bo, none⟩) x.n cb, .slice (some ⟨tb, tu, none⟩) x.m ct] 26)).alloc (.cells #[] 34)) (w.heap.size + 1) 0 []) := by
    have h := own_emptyAt (w := w.alloc (.cells #[.slice (some ⟨bb, bo, none⟩) x.n cb, .slice (some ⟨tb, tu, none⟩) x.m ct] 26)) (g := w.heap.size + 1) (s := 2) (t := 34) (f := mvF (mvM []) (mvS [])) (by simp)
    exact h
  clear hbk hic
  go_enter Try.func13, Try.ntmps13
  go_wp2_with fail
  generalize (w.alloc (.cells #[.slice (some ⟨bb, bo, none⟩) x.n cb, .slice (some ⟨tb, tu, none⟩) x.m ct] 26)).alloc (.cells #[] 34) = W0 at *
  go_loopw [3, 5, 6, 7, 8, 9] (fun o s _ _ _ _ wr => ∃ k g cap : Nat, k ≤ x.n ∧ s = .int .i64 k ∧ o = .slice (some ⟨g, 0, none⟩) (spU x k).length cap ∧ Hid (OwnMs wr g cap (spU x k)) ∧ w.heap.size + 1 ≤ g ∧ Hid (0 < k → vldL x = true) ∧ Hid (VdM w wr (.slice (some ⟨bb, bo, none⟩) x.n cb) (.slice (some ⟨tb, tu, none⟩) x.m ct))) (fun _ s _ _ _ _ _ => x.n - (intOf s).toNat)
  case atStart => exact ⟨0, w.heap.size + 1, 0, Nat.zero_le _, rfl, rfl, HO0, Nat.le_refl _, fun h => by omega, HM0⟩
  case round =>
    obtain ⟨k, g, cap, hk, rfl, rfl, HO, hg, HVK, HM⟩ := hrel
    have hac := HM.out.box.cell
    by_cases hlt : k < x.n
    · have HLV : Hid (Calls Try.prog 49 #[.agg #[.slice (some ⟨bb, bo, none⟩) x.n cb, .slice (some ⟨tb, tu, none⟩) x.m ct]] wr fun e w' => e = .returned (.bool (vldL x)) ∧ Below wr.heap.size wr w') := specLineValid_any bb bo cb tb tu ct x wr (by omega) (by omega) (HKB.out _ HM.out.bl) (HKT.out _ HM.out.bl)
      cases hv : vldL x
      · have hk0 : k = 0 := by
          rcases Nat.eq_zero_or_pos k with h | h
          · exact h
          · have := HVK.out h; rw [this] at hv; cases hv
        have HS : Hid (spL x = spU x k) := by show _ = _; unfold spL; rw [hv, hk0]; rfl
        have HV := Lib.hid hv
        clear hv hk0
        go_wp2_with fail
        refine HLV.out.mono ?_
        rintro e w2 ⟨rfl, hb⟩
        rw [HV.out]
        have HM2 := Lib.hid (HM.out.below hb rfl)
        have HO2 : Hid (OwnMs w2 g cap (spU x k)) := Own.below HO.out hb (Own.lt HO.out)
        clear hb
        go_wp2_with fail
        go_ret
        exact ⟨⟨.slice (some ⟨g, 0, none⟩) (spU x k).length cap, some g, rfl, .inl ⟨g, cap, rfl, by rw [HS.out], by omega, by rw [HS.out]; exact HO2.out⟩⟩, HM2.out.bl⟩
      · have HV := Lib.hid hv
        have hnb := vldL_true hv
        have hn5 : x.n ≤ 5 := hnb.2.1
        have hm5 : x.m ≤ 5 := hnb.2.2.1
        clear hv hnb
        go_wp2_with fail
        refine HLV.out.mono ?_
        rintro e w2 ⟨rfl, hb⟩
        rw [HV.out]
        have HM2 := Lib.hid (HM.out.below hb rfl)
        have HO2 : Hid (OwnMs w2 g cap (spU x k)) := Own.below HO.out hb (Own.lt HO.out)
        clear hb hac
        go_wp2_with fail
        clear HO HM HLV
        go_loopw [3, 6, 7, 8, 9] (fun o s _ _ _ wr => ∃ (i g cap : Nat) (ys : List (Int × ByteArray)), i ≤ 7 ∧ s = .int .i64 i ∧ o = .slice (some ⟨g, 0, none⟩) ys.length cap ∧ Hid (ys = spU x k ++ spI x k i) ∧ Hid (OwnMs wr g cap ys) ∧ w.heap.size + 1 ≤ g ∧ Hid (VdM w wr (.slice (some ⟨bb, bo, none⟩) x.n cb) (.slice (some ⟨tb, tu, none⟩) x.m ct))) (fun _ s _ _ _ _ => 7 - (intOf s).toNat)
        case atStart => exact ⟨0, g, cap, spU x k, by omega, rfl, rfl, Lib.hid (by rw [spI_zero, List.append_nil]), HO2, hg, HM2⟩
        case round =>
          clear HO2 HM2 hg
          obtain ⟨i, g, cap, ys, hi, rfl, rfl, HYS, HO, hg, HM⟩ := hrel
          have hac := HM.out.box.cell
          have hal := HM.out.box.lt
          by_cases hit : i < 7
          · obtain ⟨c, hc⟩ : ∃ c, eL[i]? = some c := ⟨_, List.getElem?_eq_getElem (by simpa [eL] using hit)⟩
            have hex : (⟨#[97, 99, 101, 102, 108, 111, 114]⟩ : ByteArray).extract i (i + 1) = chr c := ext_one hc
            have HC := Lib.hid hc
            have hiI : (i : Int) < 7 := by omega
            have hi1 : ¬ (7 : Int) < (i : Int) + 1 := by omega
            have hi2 : i + 1 ≤ 7 := by omega
            clear hc
            have HMa : Hid (∀ a, VdM w (wr.alloc a) (.slice (some ⟨bb, bo, none⟩) x.n cb) (.slice (some ⟨tb, tu, none⟩) x.m ct)) := fun a => HM.out.below ((Below.refl wr.heap.size wr).alloc (Nat.le_refl _) a) rfl
            have HST : Hid (∀ a, Calls Try.prog 50 #[.agg #[.slice (some ⟨bb, bo, none⟩) x.n cb, .slice (some ⟨tb, tu, none⟩) x.m ct], .agg #[.int .i64 k, .string (chr c)]] (wr.alloc a) (LrR (stepO x k (chr c)) (wr.alloc a))) := fun a => l4Step_any bb bo cb tb tu ct x k (chr c) (wr.alloc a) (by omega) (by omega) (HKB.out _ (HMa.out a).bl) (HKT.out _ (HMa.out a).bl)
            have HOK : Hid ((stepO x k (chr c)).isSome = mvOk x k (chr c)) := by
              show _ = _
              unfold stepO
              split
              · rename_i h; rw [h]; rfl
              · rename_i h; simp at h; rw [h]; rfl
            have HXB : Hid (Bx (wr.alloc (.cells #[.int .i64 k, .string (chr c)] 34)) wr.heap.size 34 #[.int .i64 k, .string (chr c)]) := Bx.new _ _ _
            have HOa : Hid (∀ a, OwnMs (wr.alloc a) g cap ys) := fun a => Own.alloc HO.out a
            have hlen : ys.length ≤ 1000 := by
              rw [HYS.out, List.length_append]
              have h1 := spU_len x k
              have h2 := spI_len x k i
              omega
            go_wp2_with fail
            generalize hs : chr c = s at *
            have HCS := Lib.hid hs
            clear hs
            refine (HST.out _).mono ?_
            rintro e w2 h
            obtain ⟨hb2, va, vb, ga, gb, rfl, hn2⟩ := h.get
            rw [HOK.out]
            generalize (stepO x k s).getD zLn = y at *
            obtain ⟨ao, ca, rfl⟩ := hn2.1.reads.shape
            obtain ⟨bo2, cb2, rfl⟩ := hn2.2.1.reads.shape
            have HM2 := Lib.hid ((HMa.out _).below hb2 rfl)
            have HO2 : Hid (OwnMs w2 g cap ys) := Own.below (HOa.out _) hb2 (Own.lt (HOa.out _))
            have HX2 := Lib.hid (HXB.out.below hb2 HXB.out.lt)
            clear hb2 hn2 h HO HM hac hal hex
            have hxc := HX2.out.cell
            have hxl := HX2.out.lt
            have HM3 : Hid (∀ a, VdM w (w2.alloc a) (.slice (some ⟨bb, bo, none⟩) x.n cb) (.slice (some ⟨tb, tu, none⟩) x.m ct)) := fun a => HM2.out.below ((Below.refl w2.heap.size w2).alloc (Nat.le_refl _) a) rfl
            have HO3 : Hid (∀ a, OwnMs (w2.alloc a) g cap ys) := fun a => Own.alloc HO2.out a
            cases hmo : mvOk x k s
            · have HE := Lib.hid (spI_no HC.out (show mvOk x k (chr c) = false by rw [HCS.out]; exact hmo))
              clear hmo
              go_wp2_with fail
              go_roundw
              case rel => exact ⟨i + 1, g, cap, ys, by omega, by go_num, rfl, Lib.hid (by rw [HE.out]; exact HYS.out), HO3.out _, hg, HM3.out _⟩
              case measure => simp [intOf]; omega
            · have HE : Hid (spU x k ++ spI x k (i + 1) = ys ++ [((k : Int), s)]) := by
                show _ = _
                rw [HYS.out, spI_yes HC.out (show mvOk x k (chr c) = true by rw [HCS.out]; exact hmo), HCS.out, List.append_assoc]
              clear hmo
              have HO4 : Hid (∀ a, Own (w2.alloc a) g cap ys.length 2 34 (mvF (mvM (ys ++ [((k : Int), s)])) (mvS (ys ++ [((k : Int), s)])))) := fun a => (HO3.out a).ext _
              have HNW := Lib.hid (mvF_new ys ((k : Int), s))
              go_wp2_with (at_builtin; refine wpList_push elMv rfl (.tmp 42) (.tmp 44) rfl (HO4.out _) rfl [.int .i64 k, .string s] (by show Value.slice _ 1 1 = _; simp) HNW.out (fun _ _ => mvF_one _ _ _) (by unfold maxLen; omega) (by omega) ?_; intro g' c' wa HA hgr hd)
              have hz := hgr.size
              have hlg : w2.heap.size ≤ (w2.alloc (.cells #[.slice ao y.n ca, .slice bo2 y.m cb2] 26)).heap.size := by simp
              have HG : Hid (w.heap.size + 1 ≤ g') := by
                show _ ≤ _
                have := HM2.out.bl.size
                have := HM2.out.box.lt
                rcases hd with ⟨h, _⟩ | h <;> omega
              have HM4 : Hid (VdM w wa (.slice (some ⟨bb, bo, none⟩) x.n cb) (.slice (some ⟨tb, tu, none⟩) x.m ct)) := ⟨(HM3.out _).box.kept hgr (by omega), (HM3.out _).bl.trans (below_of_grown hgr (by omega) (HM3.out _).bl.size)⟩
              have HA2 : Hid (OwnMs wa g' c' (ys ++ [((k : Int), s)])) := by
                show Own _ _ _ _ _ _ _
                rw [List.length_append]
                exact HA
              clear HA hgr hd hz hlg
              go_wp2_with fail
              go_roundw
              case rel => exact ⟨i + 1, g', c', ys ++ [((k : Int), s)], by omega, by go_num, by simp, Lib.hid HE.out.symm, HA2, HG.out, HM4⟩
              case measure => simp [intOf]; omega
          · obtain rfl : i = 7 := by omega
            have HU : Hid (ys = spU x (k + 1)) := by show _ = _; rw [spU_succ]; exact HYS.out
            go_wp2_with fail
            go_roundw
            case rel => exact ⟨k + 1, g, cap, by omega, by go_num, by rw [← HU.out], by rw [← HU.out]; exact HO, hg, (by first | exact fun _ => HV.out | exact fun _ => trivial), HM⟩
            case measure => simp [intOf]; omega
    · obtain e : k = x.n := by omega
      subst e
      have HS : Hid (spL x = spU x x.n) := by
        show _ = _
        unfold spL
        rcases Nat.eq_zero_or_pos x.n with h | h
        · rw [h]; split <;> rfl
        · rw [if_pos (HVK.out h)]
      go_wp2_with fail
      go_ret
      exact ⟨⟨.slice (some ⟨g, 0, none⟩) (spU x x.n).length cap, some g, rfl, .inl ⟨g, cap, rfl, by rw [HS.out], by omega, by rw [HS.out]; exact HO.out⟩⟩, HM.out.bl⟩
end Go.Proofs.Ytbachpfgakjncaa
