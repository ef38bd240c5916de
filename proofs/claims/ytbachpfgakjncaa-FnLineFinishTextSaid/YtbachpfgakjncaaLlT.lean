/-
  The law FnLineFinishText: the walk.
-/
import Derived.Test.YtbachpfgakjncaaWz
import Derived.Test.YtbachpfgakjncaaLlF
namespace Go.Proofs.Ytbachpfgakjncaa
open Go.RowKit

theorem sameInts_nil (w : World) :
    Calls Try.prog 53 #[.slice none 0 0, .slice none 0 0] w fun e w' => e = .returned (.bool true) ∧ w = w' := by
  go_enter Try.func53, Try.ntmps53
  go_wp2_with fail
  go_loop [5] (fun i => i = .int .i64 0) (fun _ => 0)
  case atStart => rfl
  case round =>
    subst hrel
    go_wp2_with fail
    go_ret
    exact ⟨rfl, rfl⟩
set_option linter.unusedSimpArgs false in
theorem sameLine_nil (w : World) :
    Calls Try.prog 17 #[nilLn, nilLn] w fun e w' => e = .returned (.bool true) ∧ Below w.heap.size w w' := by
  unfold nilLn
  have HB0 : Hid (Below w.heap.size w ((w.alloc (.cells #[.slice none 0 0, .slice none 0 0] 26)).alloc (.cells #[.slice none 0 0, .slice none 0 0] 26))) := (below_all _ _).alloc (by simp) _
  have HA0 : Hid (Bx ((w.alloc (.cells #[.slice none 0 0, .slice none 0 0] 26)).alloc (.cells #[.slice none 0 0, .slice none 0 0] 26)) w.heap.size 26 #[.slice none 0 0, .slice none 0 0]) := (Bx.new _ _ _).alloc _
  have HC0 : Hid (Bx ((w.alloc (.cells #[.slice none 0 0, .slice none 0 0] 26)).alloc (.cells #[.slice none 0 0, .slice none 0 0] 26)) (w.heap.size + 1) 26 #[.slice none 0 0, .slice none 0 0]) := Bx.newAt (by simp)
  go_enter Try.func17, Try.ntmps17
  have hac := HA0.out.cell
  have hcc := HC0.out.cell
  go_wp2_with fail
  refine (sameInts_nil _).mono ?_
  rintro e w' ⟨rfl, rfl⟩
  go_wp2_with fail
  go_loop [5] (fun i => i = .int .i64 0) (fun _ => 0)
  case atStart => rfl
  case round =>
    subst hrel
    go_wp2_with fail
    go_ret
    exact ⟨rfl, HB0.out⟩
theorem MvA.text {w : World} {v : Value} {ms : List (Int × ByteArray)} (h : MvA w v ms) (k : Int) (h1 : ms.length ≤ 1000) (h2 : ∀ z, z ∈ ms → z.2.size ≤ 1000) :
    Calls Try.prog 30 #[v, .int .i64 k] w fun e w' => e = .returned (.string ⟨(txL ms k).toArray⟩) ∧ Below w.heap.size w w' := by
  obtain ⟨b, o, c, rfl, _, h⟩ := h
  exact lineText_any b o c ms k w h1 h2 h
theorem fnL_sz {x : Ln} {z : Int × ByteArray} (h : z ∈ fnL x) : z.2.size ≤ 1000 := by
  have key : ∀ f x, ∀ z, z ∈ finL f x → z.2.size = 1 := by
    intro f
    induction f with
    | zero => intro x z h; simp [finL] at h
    | succ f ih =>
      intro x z h
      unfold finL at h
      split at h
      · split at h
        · rename_i y hy
          rcases List.mem_cons.1 h with h | h
          · subst h
            obtain ⟨_, c, _, _, e, _⟩ := mv_is (near_less hy).1
            rw [e]
            rfl
          · exact ih _ z h
        · simp at h
      · simp at h
  unfold fnL at h
  split at h
  · rw [key _ _ z h]; omega
  · simp at h
set_option linter.unusedSimpArgs false in
set_option maxRecDepth 100000 in
set_option maxHeartbeats 4000000 in
theorem lawLineText_any (ao : Option Addr) (n c : Nat) (w : World) (hB : BSl w ao n) (hnc : n ≤ c) (hn : n ≤ 9223372036854775807) :
    Calls Try.prog 5 #[.slice ao n c] w fun e w' => e = .returned (.bool true) ∧ Below w.heap.size w w' := by
  have HBS := Lib.hid hB
  clear hB
  by_cases hlong : 1048576 < n
  · go_enter Try.func5, Try.ntmps5
    go_wp2_with fail
    go_ret
    exact ⟨rfl, Below.refl _ _⟩
  go_enter Try.func5, Try.ntmps5
  go_wp2_with fail
  refine (drawLNew_any ao n c _ hnc hn HBS.out).mono ?_
  rintro e w1 ⟨a, t, rfl, ha, ht, hb1⟩
  have HB1 := Lib.hid hb1
  clear hb1
  cases ho : nwO (a : Int) ((t : Int) - 1) with
  | none =>
    have HO := Lib.hid ho
    clear ho
    go_wp2_with fail
    refine (lineNew_any _ _ _ (by omega)).mono ?_
    rintro e w2 ⟨hb2, h2⟩
    rcases h2 with ⟨_, rfl⟩ | ⟨_, _, h, _⟩
    rotate_left
    · rw [HO.out] at h; cases h
    have HB2 := Lib.hid (HB1.out.trans (hb2.mono HB1.out.size))
    clear hb2
    unfold nilLn
    have HX2 : Hid (Bx (w2.alloc (.cells #[.slice none 0 0, .slice none 0 0] 26)) w2.heap.size 26 #[.slice none 0 0, .slice none 0 0]) := Bx.new _ _ _
    have HB3 := Lib.hid (HB2.out.alloc HB2.out.size (.cells #[.slice none 0 0, .slice none 0 0] 26))
    go_wp2_with fail
    refine (specLineNew_any _ _ _).mono ?_
    rintro e w4 ⟨hb4, h4⟩
    rcases h4 with ⟨_, rfl⟩ | ⟨_, _, h, _⟩
    rotate_left
    · rw [HO.out] at h; cases h
    have HX4 := Lib.hid (HX2.out.below hb4 HX2.out.lt)
    have HB4 := Lib.hid (HB3.out.trans (hb4.mono HB3.out.size))
    clear hb4
    unfold nilLn
    have hl4 := HX4.out.lt
    have hxc := HX4.out.cell
    have HSN := fun W => Lib.hid (sameLine_nil W)
    unfold nilLn at HSN
    have HB5 := Lib.hid (HB4.out.alloc HB4.out.size (.cells #[.slice none 0 0, .slice none 0 0] 26))
    have HX5 := Lib.hid (HX4.out.alloc (.cells #[.slice none 0 0, .slice none 0 0] 26))
    have HY5 : Hid (Bx (w4.alloc (.cells #[.slice none 0 0, .slice none 0 0] 26)) w4.heap.size 26 #[.slice none 0 0, .slice none 0 0]) := Bx.new _ _ _
    go_wp2_with fail
    refine (HSN _).out.mono ?_
    rintro e w6 ⟨rfl, hb6⟩
    have HX6 := Lib.hid (HX5.out.below hb6 HX5.out.lt)
    have HY6 := Lib.hid (HY5.out.below hb6 HY5.out.lt)
    have HB6 := Lib.hid (HB5.out.trans (hb6.mono HB5.out.size))
    clear hb6 hxc
    have hxc := HX6.out.cell
    have hyc := HY6.out.cell
    go_wp2_with fail
    refine (HSN _).out.mono ?_
    rintro e w7 ⟨rfl, hb7⟩
    have HB7 := Lib.hid (HB6.out.trans (hb7.mono HB6.out.size))
    clear hb7
    go_wp2_with fail
    go_ret
    exact ⟨rfl, HB7.out⟩
  | some y =>
    have hy : inB (a : Int) 1 5 = true ∧ inB ((t : Int) - 1) 0 5 = true ∧ newL a (t - 1) = y := by
      unfold nwO at ho
      split at ho
      · rename_i h
        rw [Bool.and_eq_true] at h
        cases ho
        refine ⟨h.1, h.2, ?_⟩
        congr 1
        omega
      · cases ho
    obtain ⟨h1, h2, h3⟩ := hy
    have h1' := inB_true.1 h1
    have h2' := inB_true.1 h2
    obtain ⟨m, rfl⟩ : ∃ m : Nat, t = m + 1 := ⟨t - 1, by omega⟩
    rw [show ((m + 1 : Nat) : Int) - 1 = (m : Int) by omega] at ho
    have HO := Lib.hid ho
    rw [show m + 1 - 1 = m by omega] at h3
    have hm5 : m ≤ 5 := by omega
    have ha5 : 1 ≤ a ∧ a ≤ 5 := by omega
    have HTX : Hid (∀ k, k < a → txL (fnL y) (k : Int) = Lib.repeatL [111, 97, 101, 108, 102] m) := fun k hk => by rw [← h3]; exact new_text ha5.1 ha5.2 hm5 hk
    have HVY : Hid (vldL y = true) := by show _ = _; rw [← h3]; exact newL_vld ha5.1 ha5.2 hm5
    have hyn : y.n ≤ 5 ∧ y.m ≤ 5 := by rw [← h3]; exact ⟨ha5.2, hm5⟩
    clear ho h1 h2 h3 h1' h2'
    go_wp2_with fail
    refine (lineNew_any _ _ _ (by omega)).mono ?_
    rintro e w2 h2
    obtain ⟨v, rfl, hl2, hb2⟩ := h2.some HO.out
    have HB2 := Lib.hid (HB1.out.trans (hb2.mono HB1.out.size))
    have HL2 := Lib.hid hl2
    obtain ⟨g1, c1, g2, c2, rfl, _⟩ := hl2
    clear hb2 h2
    have HM3 : Hid (LbM w (w2.alloc (.cells #[.slice (some ⟨g1, 0, none⟩) y.n c1, .slice (some ⟨g2, 0, none⟩) y.m c2] 26)) w2.heap.size g1 c1 g2 c2 y) := LbM.new HB2.out HL2.out (by omega) (by omega)
    go_wp2_with fail
    refine (specLineNew_any _ _ _).mono ?_
    rintro e w4 h4
    obtain ⟨v, rfl, hl4, hb4⟩ := h4.some HO.out
    have HM4 := Lib.hid (HM3.out.below hb4)
    have HL4 := Lib.hid hl4
    obtain ⟨p1, e1, p2, e2, rfl, _⟩ := hl4
    clear hb4 h4
    have HM5 : Hid (LbM w (w4.alloc (.cells #[.slice (some ⟨p1, 0, none⟩) y.n e1, .slice (some ⟨p2, 0, none⟩) y.m e2] 26)) w2.heap.size g1 c1 g2 c2 y) := HM4.out.alloc _
    have HY5 : Hid (LbM w (w4.alloc (.cells #[.slice (some ⟨p1, 0, none⟩) y.n e1, .slice (some ⟨p2, 0, none⟩) y.m e2] 26)) w4.heap.size p1 e1 p2 e2 y) := LbM.new HM4.out.bl HL4.out (by omega) (by omega)
    have HSL := Lib.hid (sameLine_same g1 0 c1 g2 0 c2 p1 0 e1 p2 0 e2 y _ (by omega) (by omega) (BkC.of_own HM5.out.bs) (IC.of_own HM5.out.ts) (BkC.of_own HY5.out.bs) (IC.of_own HY5.out.ts))
    have hxc := HM4.out.box.cell
    have hxl := HM4.out.box.lt
    go_wp2_with fail
    refine HSL.out.mono ?_
    rintro e w6 ⟨rfl, hb6⟩
    have HM6 := Lib.hid (HM5.out.below hb6)
    clear hb6 hxc hxl
    have hxc := HM6.out.box.cell
    go_wp2_with fail
    refine HM6.out.finI.mono ?_
    rintro e w7 ⟨⟨v, rfl, hvm⟩, hb⟩
    have HM7 := Lib.hid (HM6.out.below hb)
    have HA7 := Lib.hid hvm
    obtain ⟨mb, mo, mc, rfl, _, _⟩ := hvm
    rw [HVY.out]
    clear hb hxc
    have hml := fnL_le y
    have HBC := Lib.hid (blockCycle_any m w7 hm5)
    go_wp2_with fail
    refine HBC.out.mono ?_
    rintro e w8 ⟨rfl, hb⟩
    have HB8 := Lib.hid (HM7.out.below hb).bl
    have HA8 := Lib.hid (HA7.out.keep hb)
    clear hb
    go_wp2_with fail
    go_loopw [13] (fun i wr => ∃ k : Nat, k ≤ a ∧ i = .int .i64 k ∧ Hid (Below w.heap.size w wr) ∧ Hid (MvA wr (.slice (some ⟨mb, mo, none⟩) (fnL y).length mc) (fnL y))) (fun i _ => a - (intOf i).toNat)
    case atStart => exact ⟨0, Nat.zero_le _, rfl, HB8, HA8⟩
    case round =>
      obtain ⟨k, hk, rfl, HB, HA⟩ := hrel
      by_cases hlt : k < a
      · have HT := Lib.hid (HA.out.text (k : Int) (by omega) (fun z hz => fnL_sz hz))
        have HE := Lib.hid (HTX.out k hlt)
        go_wp2_with fail
        refine HT.out.mono ?_
        rintro e w9 ⟨rfl, hb⟩
        have HB9 := Lib.hid (HB.out.trans (hb.mono HB.out.size))
        have HA9 := Lib.hid (HA.out.keep hb)
        rw [HE.out]
        clear hb
        go_wp2_with fail
        go_roundw
        case rel => exact ⟨k + 1, by omega, by go_num, HB9, HA9⟩
        case measure => simp [intOf]; omega
      · obtain e : k = a := by omega
        subst e
        go_wp2_with fail
        go_ret
        exact ⟨rfl, HB.out⟩
end Go.Proofs.Ytbachpfgakjncaa
