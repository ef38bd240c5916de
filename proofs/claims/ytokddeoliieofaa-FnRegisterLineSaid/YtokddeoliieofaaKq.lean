/-
  RegisterBlock of the reference; DrawRegisterBlock; BlockTrains; the count of trains.
-/
import Derived.Test.YtokddeoliieofaaKp
import Derived.Test.YtokddeoliieofaaSh
namespace Go.Proofs.Ytokddeoliieofaa
open Go.RowKit

theorem nt_new {w : World} {b off k : Nat} {ns : List (Int × ByteArray)} (h : NtC w b off ns) (hk : k ≤ ns.length) : ∀ j, j < k * 2 → w.cell? ((⟨b, off, none⟩ : Addr).add j) = some (mvF (nM ns) (nL ns) (0 * 2 + j)) := by
  intro j hj
  have h1 := h (j / 2) (by omega)
  rw [addr_add, Nat.zero_mul, Nat.zero_add]
  unfold mvF
  by_cases h0 : j % 2 = 0
  · rw [if_pos h0, show off + j = off + j / 2 * 2 by omega]
    exact h1.1
  · rw [if_neg h0, show off + j = off + j / 2 * 2 + 1 by omega]
    exact h1.2
theorem own_take {w : World} {g cap k : Nat} {ns : List (Int × ByteArray)} (h : Own w g cap k 2 61 (mvF (nM ns) (nL ns))) (hk : k ≤ ns.length) : OwnN w g cap (ns.take k) := by
  unfold OwnN
  rw [List.length_take, Nat.min_eq_left hk]
  exact Own.congr h (mvF_congr (fun _ hj => (nM_take hj).1.symm) (fun _ hj => (nM_take hj).2.symm))
set_option linter.unusedSimpArgs false in
set_option maxHeartbeats 1000000 in
theorem l5Until_any (b off c : Nat) (ns : List (Int × ByteArray)) (m : Int) (w : World) (hn : ns.length ≤ 1000) (hnc : ns.length ≤ c) (hc : NtC w b off ns) :
    Calls Try.prog 86 #[.slice (some ⟨b, off, none⟩) ns.length c, .int .i64 m] w (NlRes (utL ns m) w) := by
  have HC := Lib.hid hc
  clear hc
  go_enter Try.func86, Try.ntmps86
  go_wp2_with fail
  go_loopw [5] (fun i wr => ∃ k : Nat, k ≤ ns.length ∧ i = .int .i64 k ∧ w = wr ∧ Hid (∀ j, j < k → nM ns j ≤ m)) (fun i _ => ns.length - (intOf i).toNat)
  case atStart => exact ⟨0, Nat.zero_le _, rfl, rfl, fun j hj => by omega⟩
  case round =>
    obtain ⟨k, hk, rfl, rfl, HK⟩ := hrel
    have HEND : Hid ((k = ns.length ∨ ¬ nM ns k ≤ m) → utL ns m = ns.take k) := fun h => utL_take hk HK.out h
    by_cases hlt : k < ns.length
    · obtain ⟨c0, c1⟩ := HC.out k hlt
      have HX : Hid (nM ns k ≤ m → ∀ j, j < k + 1 → nM ns j ≤ m) := fun h j hj => by
        rcases Nat.lt_or_ge j k with q | q
        · exact HK.out j q
        · rw [show j = k by omega]; exact h
      generalize hx : nM ns k = x at *
      by_cases hm : x ≤ m
      · have HX2 := Lib.hid (HX.out hm)
        clear hx
        go_wp2_with fail
        go_roundw
        case rel => exact ⟨k + 1, by omega, by go_num, by first | exact rfl | exact trivial, HX2⟩
        case measure => simp [intOf]; omega
      · have HU := Lib.hid (HEND.out (.inr hm))
        clear hx
        have HCN : Hid (∀ o, ∀ j, j < k * 2 → (w.alloc o).cell? ((⟨b, off, none⟩ : Addr).add j) = some (mvF (nM ns) (nL ns) (0 * 2 + j))) := fun o => nt_new (HC.out.keep (below_all _ _)) hk
        go_wp2_with (at_builtin; refine wpList_app elMv rfl (.tmp 21) (.tmp 24) rfl (own_empty w 2 _ (mvF (nM ns) (nL ns))) rfl ⟨b, off, none⟩ k c rfl (HCN.out _) (fun _ _ => mvF_one _ _ _) (by unfold maxLen; omega) (by omega) ?_; intro g' c' wa HA hgr hd)
        rw [World.size_alloc] at hd
        have hle : w.heap.size ≤ g' := by omega
        have HBW : Hid (Below w.heap.size w wa) := (below_all _ _).trans (below_of_grown hgr (Nat.le_refl _) (by simp))
        rw [Nat.zero_add] at HA
        have HOW : Hid (OwnN wa g' c' (utL ns m)) := by rw [HU.out]; exact own_take HA hk
        have HLN : Hid ((utL ns m).length = k) := by show _ = _; rw [HU.out]; simp; omega
        clear HA hgr hd
        go_wp2_with fail
        go_ret
        exact ⟨⟨g', c', by rw [HLN.out]; simp, HOW.out, hle⟩, HBW.out⟩
    · have HU := Lib.hid (HEND.out (.inl (by omega)))
      have HCN : Hid (∀ o, ∀ j, j < k * 2 → (w.alloc o).cell? ((⟨b, off, none⟩ : Addr).add j) = some (mvF (nM ns) (nL ns) (0 * 2 + j))) := fun o => nt_new (HC.out.keep (below_all _ _)) hk
      go_wp2_with (at_builtin; refine wpList_app elMv rfl (.tmp 21) (.tmp 24) rfl (own_empty w 2 _ (mvF (nM ns) (nL ns))) rfl ⟨b, off, none⟩ k c rfl (HCN.out _) (fun _ _ => mvF_one _ _ _) (by unfold maxLen; omega) (by omega) ?_; intro g' c' wa HA hgr hd)
      rw [World.size_alloc] at hd
      have hle : w.heap.size ≤ g' := by omega
      have HBW : Hid (Below w.heap.size w wa) := (below_all _ _).trans (below_of_grown hgr (Nat.le_refl _) (by simp))
      rw [Nat.zero_add] at HA
      have HOW : Hid (OwnN wa g' c' (utL ns m)) := by rw [HU.out]; exact own_take HA hk
      have HLN : Hid ((utL ns m).length = k) := by show _ = _; rw [HU.out]; simp; omega
      clear HA hgr hd
      go_wp2_with fail
      go_ret
      exact ⟨⟨g', c', by rw [HLN.out]; simp, HOW.out, hle⟩, HBW.out⟩
theorem trI_cnt {ns : List (Int × ByteArray)} (h : ∀ z, z ∈ ns → z.2.size = 1) : ∀ k, k ≤ ns.length → (trI ns k).length = (rgT (ns.take k)).count 108
  | 0, _ => rfl
  | k + 1, hk => by
    have ih := trI_cnt h k (by omega)
    have hlt : k < ns.length := hk
    have e1 : ns.take (k + 1) = ns.take k ++ [ns[k]] := List.take_succ_eq_append_getElem hlt
    rw [e1, rgT_snoc, List.count_append, ← ih]
    obtain ⟨c, hc⟩ := chN_of (h _ (List.getElem_mem hlt))
    have e2 : nL ns k = chN c := by rw [nL_at hlt, hc]
    show (if nL ns k = chN 108 then trI ns k ++ [nM ns k - trE ns k] else trI ns k).length = _
    rw [e2, hc]
    by_cases hq : c = 108
    · subst hq
      rw [if_pos rfl, List.length_append]
      rfl
    · rw [if_neg (fun e => hq (by simpa [chN] using e))]
      show _ = _ + List.count 108 [c]
      rw [List.count_cons_of_ne hq]
      rfl
theorem trL_cnt {ns : List (Int × ByteArray)} (h : sdV ns = true) : (trL ns).length = Lib.countByte (txN ns).data.toList 108 := by
  have e := trI_cnt (rgV_sz (sdV_rg h)) ns.length (Nat.le_refl _)
  rw [List.take_length] at e
  have e2 : trL ns = trI ns ns.length := if_pos h
  rw [e2, e]
  rfl
theorem blkTrains_any (t : ByteArray) (w : World) (hl : lgB t = true) :
    Calls Try.prog 48 #[.string t] w fun e w' => e = .returned (.int .i64 (Lib.countByte t.data.toList 108)) ∧ Below w.heap.size w w' := by
  have HLE : Hid (Calls Try.prog 35 #[.string t] w fun e w' => e = .returned (.bool true) ∧ Below w.heap.size w w') := by
    have q := implLegal_any t w
    rw [hl] at q
    exact q
  have HCT := Lib.hid (fun W => Try.strings_Count_one t 108 W)
  clear hl
  go_enter Try.func48, Try.ntmps48
  go_wp2_with fail
  refine HLE.out.mono ?_
  rintro e w1 ⟨rfl, hb⟩
  have HB := Lib.hid hb
  clear hb
  go_wp2_with fail
  refine (HCT.out _).mono ?_
  rintro e w2 ⟨rfl, rfl⟩
  go_wp2_with fail
  go_ret
  exact ⟨rfl, HB.out⟩
/-- drawn notes and a minute -/
def DrB (w : World) (e : Ending) (w' : World) : Prop :=
  (∃ g cap ns m, e = .returned (.tuple #[.slice (some ⟨g, 0, none⟩) (List.length ns) cap, .int .i64 m]) ∧ OwnN w' g cap ns ∧ w.heap.size ≤ g ∧ ns.length ≤ 33 ∧ -2 ≤ m ∧ m ≤ 110) ∧ Below w.heap.size w w'
set_option maxHeartbeats 1000000 in
theorem drawRBlock_any (ao : Option Addr) (n c : Nat) (w : World) (hnc : n ≤ c) (hn : n ≤ 9223372036854775807) (hB : BSl w ao n) :
    Calls Try.prog 45 #[.slice ao n c] w (DrB w) := by
  have HBS := Lib.hid hB
  clear hB
  go_enter Try.func45, Try.ntmps45
  go_wp2_with fail
  refine (open_any ao n c _ hn hnc HBS.out).mono ?_
  rintro e w1 ⟨R, rfl, hR, hr1, hb1⟩
  have HB1 := Lib.hid hb1
  have HR1 := Lib.hid hr1
  have hz1 : w.heap.size ≤ w1.heap.size := hb1.size
  have hRl : R < w1.heap.size := hr1.lt
  clear hb1 hr1
  go_wp2_with fail
  refine (l92Notes_any R 0 _ (by omega) HR1.out).mono ?_
  rintro e w2 ⟨g, cap, ns, rfl, ho, hgz, hl, hsm, hr2, hg2⟩
  have HO := Lib.hid ho
  have HR2 := Lib.hid hr2
  have HG2 := Lib.hid hg2
  have HB2 := Lib.hid (HB1.out.trans (below_of_grown hg2 (by omega) (by omega)))
  have hz2 : w.heap.size ≤ w2.heap.size := HB2.out.size
  clear ho hsm hr2 hg2
  go_wp2_with fail
  refine (pick_any R _ 110 _ (by omega) (by omega) HR2.out).mono ?_
  rintro e w3 ⟨v, rfl, hv, _, hg3⟩
  have hv2 := pkB_lt hv (by omega)
  have HO3 : Hid (OwnN w3 g cap ns) := Own.kept HO.out hg3 (by simp; omega)
  have HB3 := Lib.hid (HB2.out.trans (below_of_grown hg3 (by omega) (by omega)))
  clear hv hg3
  have hwm : IntKind.i64.wrap (v - 2) = v - 2 := IntWalk.i64_in _ (by omega)
  go_wp2_with fail
  go_ret2
  exact ⟨⟨g, cap, ns, v - 2, rfl, HO3.out, by omega, hl, by omega, by omega⟩, HB3.out⟩
set_option linter.unusedSimpArgs false in
set_option maxHeartbeats 1000000 in
theorem specRegBlock_any (b off c : Nat) (ns : List (Int × ByteArray)) (m : Int) (w : World) (hn : ns.length ≤ 1000) (hnc : ns.length ≤ c) (hc : NtC w b off ns) :
    Calls Try.prog 46 #[.slice (some ⟨b, off, none⟩) ns.length c, .int .i64 m] w (BsRes (rbJ ns m) w) := by
  have HB0 : Hid (Below w.heap.size w (w.alloc (.cells #[.int .i64 0, .bool false, .bool false] 46))) := below_all _ _
  have HX0 : Hid (Bx (w.alloc (.cells #[.int .i64 0, .bool false, .bool false] 46)) w.heap.size 46 #[.int .i64 0, .bool false, .bool false]) := Bx.new _ _ _
  have HNT : Hid (∀ W, Below w.heap.size w W → NtC W b off ns) := fun W h => hc.keep h
  have HSO := Lib.hid (specSound_any b off c ns (w.alloc (.cells #[.int .i64 0, .bool false, .bool false] 46)) (by omega) (hc.keep HB0.out))
  clear hc
  go_enter Try.func46, Try.ntmps46
  go_wp2_with fail
  refine HSO.out.mono ?_
  rintro e w1 ⟨rfl, hb1⟩
  have HX1 := Lib.hid (HX0.out.below hb1 HX0.out.lt)
  have HB1 := Lib.hid (HB0.out.trans (hb1.mono HB0.out.size))
  cases hv : sdV ns
  · have HV : Hid (rbJ ns m = 5) := by show _ = _; unfold rbJ; rw [hv]; rfl
    have hrc := HX1.out.cell
    have hrf := HX1.out.free
    clear hb1 hv
    go_wp2_with fail
    exact bodyPost_ret (v := .tuple #[.agg #[.int .i64 0, .bool false, .bool false], .bool false]) (by simp [results, Try.results46, go_sem, hrc]) rfl ⟨by rw [HV.out]; rfl, ((HB1.out.setCell (Nat.le_refl _) _).setCell (Nat.le_refl _) _).setCell (Nat.le_refl _) _⟩
  · have HV : Hid (rbJ ns m = brJ 0 false false (txN (utL ns m))) := if_pos hv
    have HRV := Lib.hid (sdV_rg hv)
    have HU := Lib.hid (l5Until_any b off c ns m w1 hn hnc (HNT.out _ HB1.out))
    obtain ⟨a, bb, cc, hj⟩ : ∃ a b c, bsV (brJ 0 false false (txN (utL ns m))) = .agg #[.int .i64 a, .bool b, .bool c] := by
      obtain ⟨q, _, hq⟩ := bsV_any (brJ 0 false false (txN (utL ns m)))
      exact ⟨_, _, _, hq⟩
    have HJ := Lib.hid hj
    clear hb1 hv hj
    go_wp2_with fail
    refine HU.out.mono ?_
    rintro e w2 ⟨⟨g, cap, rfl, ho, _⟩, hb2⟩
    have HX2 := Lib.hid (HX1.out.below hb2 HX1.out.lt)
    have HB2 := Lib.hid (HB1.out.trans (hb2.mono HB1.out.size))
    have HTX := Lib.hid (specText_any g 0 cap (utL ns m) w2 (by have := utL_len ns m; omega) (fun z hz => by rw [rgV_sz HRV.out z (utL_mem hz)]; omega) (OwnN.nt ho))
    clear hb2 ho
    go_wp2_with fail
    refine HTX.out.mono ?_
    rintro e w3 ⟨rfl, rfl⟩
    go_wp2_with fail
    refine (specRun_any 0 false false _ _).mono ?_
    rintro e w4 ⟨rfl, hb4⟩
    have HX4 := Lib.hid (HX2.out.below hb4 HX2.out.lt)
    have HB4 := Lib.hid (HB2.out.trans (hb4.mono HB2.out.size))
    have hrc := HX4.out.cell
    have hrf := HX4.out.free
    rw [show (⟨(rgT (utL ns m)).toArray⟩ : ByteArray) = txN (utL ns m) from rfl, HJ.out]
    clear hb4
    go_wp2_with fail
    exact bodyPost_ret (v := .tuple #[.agg #[.int .i64 a, .bool bb, .bool cc], .bool (decide (brJ 0 false false (txN (utL ns m)) < 5))]) (by simp [results, Try.results46, go_sem, hrc]) rfl ⟨by rw [HV.out, HJ.out], ((HB4.out.setCell (Nat.le_refl _) _).setCell (Nat.le_refl _) _).setCell (Nat.le_refl _) _⟩
end Go.Proofs.Ytokddeoliieofaa
