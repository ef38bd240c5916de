/-
  RegisterBlock; the draws of registers; plain laws on prefixes.
-/
import Derived.Test.YtokddeoliieofaaKo
namespace Go.Proofs.Ytokddeoliieofaa
open Go.RowKit

/-- the number of the state that RegisterBlock gives -/
def rbJ (ns : List (Int × ByteArray)) (m : Int) : Nat := if sdV ns = true then brJ 0 false false (txN (utL ns m)) else 5
theorem utL_mem {ns : List (Int × ByteArray)} {m : Int} {z : Int × ByteArray} (h : z ∈ utL ns m) : z ∈ ns := (List.takeWhile_sublist _).subset h
set_option linter.unusedSimpArgs false in
set_option maxHeartbeats 1000000 in
theorem regBlock_any (b off c : Nat) (ns : List (Int × ByteArray)) (m : Int) (w : World) (hn : ns.length ≤ 1000000000000) (hc : NtC w b off ns) :
    Calls Try.prog 31 #[.slice (some ⟨b, off, none⟩) ns.length c, .int .i64 m] w (BsRes (rbJ ns m) w) := by
  have HB0 : Hid (Below w.heap.size w (w.alloc (.cells #[.int .i64 0, .bool false, .bool false] 46))) := below_all _ _
  have HX0 : Hid (Bx (w.alloc (.cells #[.int .i64 0, .bool false, .bool false] 46)) w.heap.size 46 #[.int .i64 0, .bool false, .bool false]) := Bx.new _ _ _
  have HSO := Lib.hid (soundOf_any b off c ns (w.alloc (.cells #[.int .i64 0, .bool false, .bool false] 46)) hn (hc.keep HB0.out))
  clear hc
  go_enter Try.func31, Try.ntmps31
  go_wp2_with fail
  refine HSO.out.mono ?_
  rintro e w1 ⟨⟨r, rfl, hr⟩, hb1⟩
  have HX1 := Lib.hid (HX0.out.below hb1 HX0.out.lt)
  have HB1 := Lib.hid (HB0.out.trans (hb1.mono HB0.out.size))
  cases hv : sdV ns
  · have HV : Hid (rbJ ns m = 5) := by show _ = _; unfold rbJ; rw [hv]; rfl
    have hrc := HX1.out.cell
    have hrf := HX1.out.free
    clear hr hb1 hv
    go_wp2_with fail
    exact bodyPost_ret (v := .tuple #[.agg #[.int .i64 0, .bool false, .bool false], .bool false]) (by simp [results, Try.results31, go_sem, hrc]) rfl ⟨by rw [HV.out]; rfl, ((HB1.out.setCell (Nat.le_refl _) _).setCell (Nat.le_refl _) _).setCell (Nat.le_refl _) _⟩
  · have HV : Hid (rbJ ns m = brJ 0 false false (txN (utL ns m))) := if_pos hv
    have HRV := Lib.hid (sdV_rg hv)
    obtain ⟨r', es, e, h1, h2⟩ := hr (rgV_true.1 HRV.out).1
    cases e
    have hl30 := (rgV_true.1 HRV.out).1
    have HT := Lib.hid (until_any r es ns m w1 h1 (by omega))
    obtain ⟨a, bb, cc, hj⟩ : ∃ a b c, bsV (brJ 0 false false (txN (utL ns m))) = .agg #[.int .i64 a, .bool b, .bool c] := by
      obtain ⟨q, _, hq⟩ := bsV_any (brJ 0 false false (txN (utL ns m)))
      exact ⟨_, _, _, hq⟩
    have HJ := Lib.hid hj
    clear hr hb1 hv h1 h2 hj
    go_wp2_with fail
    refine HT.out.mono ?_
    rintro e w2 ⟨⟨q, fs, rfl, hq, hqb⟩, hb2⟩
    have HX2 := Lib.hid (HX1.out.below hb2 HX1.out.lt)
    have HB2 := Lib.hid (HB1.out.trans (hb2.mono HB1.out.size))
    have HTX := Lib.hid (text_any q fs (utL ns m) w2 hq (by have := utL_len ns m; omega) (fun z hz => by rw [rgV_sz HRV.out z (utL_mem hz)]; omega))
    clear hb2 hq hqb
    go_wp2_with fail
    refine HTX.out.mono ?_
    rintro e w3 ⟨rfl, hb3⟩
    have HX3 := Lib.hid (HX2.out.below hb3 HX2.out.lt)
    have HB3 := Lib.hid (HB2.out.trans (hb3.mono HB2.out.size))
    clear hb3
    go_wp2_with fail
    refine (implRun_any 0 false false _ _).mono ?_
    rintro e w4 ⟨rfl, hb4⟩
    have HX4 := Lib.hid (HX3.out.below hb4 HX3.out.lt)
    have HB4 := Lib.hid (HB3.out.trans (hb4.mono HB3.out.size))
    have hrc := HX4.out.cell
    have hrf := HX4.out.free
    rw [show (⟨(rgT (utL ns m)).toArray⟩ : ByteArray) = txN (utL ns m) from rfl, HJ.out]
    clear hb4
    go_wp2_with fail
    exact bodyPost_ret (v := .tuple #[.agg #[.int .i64 a, .bool bb, .bool cc], .bool (decide (brJ 0 false false (txN (utL ns m)) < 5))]) (by simp [results, Try.results31, go_sem, hrc]) rfl ⟨by rw [HV.out, HJ.out], ((HB4.out.setCell (Nat.le_refl _) _).setCell (Nat.le_refl _) _).setCell (Nat.le_refl _) _⟩
/-- drawn notes, all else as it was -/
def DrN (w : World) (e : Ending) (w' : World) : Prop :=
  (∃ g cap ns, e = .returned (.slice (some ⟨g, 0, none⟩) (List.length ns) cap) ∧ OwnN w' g cap ns ∧ w.heap.size ≤ g ∧ ns.length ≤ 33 ∧ SmN ns) ∧ Below w.heap.size w w'
set_option maxHeartbeats 1000000 in
theorem drawRSound_any (ao : Option Addr) (n c : Nat) (w : World) (hnc : n ≤ c) (hn : n ≤ 9223372036854775807) (hB : BSl w ao n) :
    Calls Try.prog 27 #[.slice ao n c] w (DrN w) := by
  have HBS := Lib.hid hB
  clear hB
  go_enter Try.func27, Try.ntmps27
  go_wp2_with fail
  refine (open_any ao n c _ hn hnc HBS.out).mono ?_
  rintro e w1 ⟨R, rfl, hR, hr1, hb1⟩
  have HB1 := Lib.hid hb1
  have HR1 := Lib.hid hr1
  have hz1 : w.heap.size ≤ w1.heap.size := hb1.size
  clear hb1 hr1
  go_wp2_with fail
  refine (l92Notes_any R 0 _ (by omega) HR1.out).mono ?_
  rintro e w2 ⟨g, cap, ns, rfl, ho, hgz, hl, hsm, hr2, hg2⟩
  have HO := Lib.hid ho
  have HSM := Lib.hid hsm
  have HB2 := Lib.hid (HB1.out.trans (below_of_grown hg2 (by omega) (by omega)))
  clear ho hsm hr2 hg2
  go_wp2_with fail
  go_ret
  exact ⟨⟨g, cap, ns, rfl, HO.out, by omega, hl, HSM.out⟩, HB2.out⟩

set_option maxHeartbeats 1000000 in
theorem drawRTrains_any (ao : Option Addr) (n c : Nat) (w : World) (hnc : n ≤ c) (hn : n ≤ 9223372036854775807) (hB : BSl w ao n) :
    Calls Try.prog 41 #[.slice ao n c] w (DrN w) := by
  have HBS := Lib.hid hB
  clear hB
  go_enter Try.func41, Try.ntmps41
  go_wp2_with fail
  refine (open_any ao n c _ hn hnc HBS.out).mono ?_
  rintro e w1 ⟨R, rfl, hR, hr1, hb1⟩
  have HB1 := Lib.hid hb1
  have HR1 := Lib.hid hr1
  have hz1 : w.heap.size ≤ w1.heap.size := hb1.size
  clear hb1 hr1
  go_wp2_with fail
  refine (l92Notes_any R 0 _ (by omega) HR1.out).mono ?_
  rintro e w2 ⟨g, cap, ns, rfl, ho, hgz, hl, hsm, hr2, hg2⟩
  have HO := Lib.hid ho
  have HSM := Lib.hid hsm
  have HB2 := Lib.hid (HB1.out.trans (below_of_grown hg2 (by omega) (by omega)))
  clear ho hsm hr2 hg2
  go_wp2_with fail
  go_ret
  exact ⟨⟨g, cap, ns, rfl, HO.out, by omega, hl, HSM.out⟩, HB2.out⟩

set_option maxHeartbeats 1000000 in
theorem drawRFix_any (ao : Option Addr) (n c : Nat) (w : World) (hnc : n ≤ c) (hn : n ≤ 9223372036854775807) (hB : BSl w ao n) :
    Calls Try.prog 52 #[.slice ao n c] w (DrN w) := by
  have HBS := Lib.hid hB
  clear hB
  go_enter Try.func52, Try.ntmps52
  go_wp2_with fail
  refine (open_any ao n c _ hn hnc HBS.out).mono ?_
  rintro e w1 ⟨R, rfl, hR, hr1, hb1⟩
  have HB1 := Lib.hid hb1
  have HR1 := Lib.hid hr1
  have hz1 : w.heap.size ≤ w1.heap.size := hb1.size
  clear hb1 hr1
  go_wp2_with fail
  refine (l92Notes_any R 0 _ (by omega) HR1.out).mono ?_
  rintro e w2 ⟨g, cap, ns, rfl, ho, hgz, hl, hsm, hr2, hg2⟩
  have HO := Lib.hid ho
  have HSM := Lib.hid hsm
  have HB2 := Lib.hid (HB1.out.trans (below_of_grown hg2 (by omega) (by omega)))
  clear ho hsm hr2 hg2
  go_wp2_with fail
  go_ret
  exact ⟨⟨g, cap, ns, rfl, HO.out, by omega, hl, HSM.out⟩, HB2.out⟩

theorem rgT_app (a b : List (Int × ByteArray)) : rgT (a ++ b) = rgT a ++ rgT b := by unfold rgT; simp
theorem rgT_size {ns : List (Int × ByteArray)} (h : rgV ns = true) : (rgT ns).length = ns.length := by
  have key : ∀ l : List (Int × ByteArray), (∀ z, z ∈ l → z.2.size = 1) → (rgT l).length = l.length := by
    intro l
    induction l with
    | nil => intro _; rfl
    | cons z l ih =>
      intro h
      have h1 := h z (List.mem_cons_self ..)
      have h2 := ih (fun y hy => h y (List.mem_cons_of_mem _ hy))
      have e : rgT (z :: l) = z.2.data.toList ++ rgT l := rfl
      have hs : z.2.data.toList.length = 1 := by simpa using h1
      rw [e, List.length_append, hs, h2, List.length_cons]
      omega
  exact key ns (rgV_sz h)
theorem nM_take {ns : List (Int × ByteArray)} {i j : Nat} (h : j < i) : nM (ns.take i) j = nM ns j ∧ nL (ns.take i) j = nL ns j := by
  unfold nM nL
  rw [List.getElem?_take_of_lt h]
  exact ⟨rfl, rfl⟩
theorem rgV_take {ns : List (Int × ByteArray)} (h : rgV ns = true) (i : Nat) : rgV (ns.take i) = true := by
  obtain ⟨h1, h2⟩ := rgV_true.1 h
  refine rgV_true.2 ⟨by simp; omega, fun j hj => ?_⟩
  simp at hj
  have h3 := h2 j (by omega)
  unfold okN at h3 ⊢
  have e1 := nM_take (ns := ns) (i := i) (j := j) (by omega)
  have e2 : prM (ns.take i) j = prM ns j := by
    unfold prM
    split
    · rfl
    · exact (nM_take (by omega)).1
  rw [e1.1, e1.2, e2]
  exact h3
theorem lgB_true {t : ByteArray} : lgB t = true ↔ t.size ≤ 30 ∧ rnS 0 t.data.toList < 5 := by
  unfold lgB
  rw [decide_eq_true_eq]
  constructor
  · intro h
    by_cases hs : t.size ≤ 30
    · rw [brJ_yes hs] at h
      exact ⟨hs, h⟩
    · rw [brJ_long hs] at h
      omega
  · rintro ⟨h1, h2⟩
    rw [brJ_yes h1]
    exact h2
theorem sdV_take {ns : List (Int × ByteArray)} (h : sdV ns = true) (i : Nat) : sdV (ns.take i) = true := by
  have hr := sdV_rg h
  unfold sdV at h ⊢
  rw [Bool.and_eq_true] at h ⊢
  refine ⟨rgV_take hr i, ?_⟩
  have hl := lgB_true.1 h.2
  have e : rgT ns = rgT (ns.take i) ++ rgT (ns.drop i) := by rw [← rgT_app, List.take_append_drop]
  refine lgB_true.2 ⟨?_, ?_⟩
  · show (rgT (ns.take i)).toArray.size ≤ 30
    simp only [List.size_toArray]
    rw [rgT_size (rgV_take hr i)]
    have := (rgV_true.1 (rgV_take hr i)).1
    omega
  · show rnS 0 (rgT (ns.take i)).toArray.toList < 5
    have h2 : rnS 0 (rgT ns).toArray.toList < 5 := hl.2
    rw [List.toList_toArray] at h2 ⊢
    rw [e, rnS_app] at h2
    have h3 := rnS_le (show 0 ≤ 5 by omega) (rgT (ns.take i))
    rcases Nat.lt_or_ge (rnS 0 (rgT (ns.take i))) 5 with h4 | h4
    · exact h4
    · rw [show rnS 0 (rgT (ns.take i)) = 5 by omega, rnS_five] at h2
      omega
theorem utL_is {ns : List (Int × ByteArray)} {m : Int} : ∃ i, utL ns m = ns.take i := by
  refine ⟨(utL ns m).length, ?_⟩
  have h := List.takeWhile_prefix (p := fun z : Int × ByteArray => decide (z.1 ≤ m)) (l := ns)
  exact List.prefix_iff_eq_take.1 h
theorem sdV_ut {ns : List (Int × ByteArray)} (h : sdV ns = true) (m : Int) : sdV (utL ns m) = true := by
  obtain ⟨i, hi⟩ := utL_is (ns := ns) (m := m)
  rw [hi]
  exact sdV_take h i
theorem utL_max {ns : List (Int × ByteArray)} (h : rgV ns = true) {m : Int} (hm : 2000 ≤ m) : utL ns m = ns := by
  have h2 := utL_take (ns := ns) (m := m) (Nat.le_refl _) (fun j hj => by have := (nM_bd h j hj).2; omega) (.inl rfl)
  rw [h2, List.take_length]
theorem rbJ_max {ns : List (Int × ByteArray)} (h : sdV ns = true) {m : Int} (hm : 2000 ≤ m) : rbJ ns m = brJ 0 false false (txN ns) := by
  unfold rbJ
  rw [if_pos h, utL_max (sdV_rg h) hm]
theorem sdV_br {ns : List (Int × ByteArray)} (h : sdV ns = true) : brJ 0 false false (txN ns) < 5 := by
  unfold sdV at h
  rw [Bool.and_eq_true] at h
  have h2 := h.2
  unfold lgB at h2
  exact of_decide_eq_true h2
end Go.Proofs.Ytokddeoliieofaa
