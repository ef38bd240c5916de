/-
  What is proved: fnExecuteTwice_proved for every slice of bytes that is read as data. This text: Xt PTwice6. No condition.
-/
import Derived.Test.YtlkdmpfifpkpaaaGreatDoorV41
namespace Go.Proofs.YtlkdmpfifpkpaaaGreatDoor
open Go.RowKit
set_option linter.unusedSimpArgs false in
set_option maxRecDepth 100000 in
set_option maxHeartbeats 4000000 in
theorem lawTwice_any (m : Int) (ao : Option Addr) (n c : Nat) (w : World) (hW : WF m w) (hB : BSl w ao n) (hnc : n ≤ c) (hn : n ≤ 9223372036854775807) :
    Calls Tryz.prog 4 #[.slice ao n c] w fun e w' => e = .returned (.bool true) ∧ Below w.heap.size w w' := by
  have HBS := Lib.hid hB
  have HWF := Lib.hid hW
  clear hB hW
  by_cases hlong : 1048576 < n
  ·go_enter Tryz.func4, Tryz.ntmps4
   go_wp2_with fail
   go_ret
   exact ⟨rfl, Below.refl _ _⟩
  go_enter Tryz.func4, Tryz.ntmps4
  go_wp2_with fail
  refine (drawExecute_any ao n c _ hnc hn HBS.out).mono ?_
  rintro e w1 ⟨⟨t, rfl, ht⟩, hb1⟩
  have HB1 := Lib.hid hb1
  have HIX : Hid (∀ (s : ByteArray) W, Below w.heap.size w W → Calls Tryz.prog 11 #[.string s] W fun e w' => e = .returned (.string (EX s)) ∧ Below W.heap.size W w') := fun s W h => implExecute_X s m W (HWF.out.below h)
  have HSX : Hid (∀ (s : ByteArray) W, Calls Tryz.prog 12 #[.string s] W fun e w' => e = .returned (.string (EX s)) ∧ Below W.heap.size W w') := fun s W => specExecute_X s W
  have HIT : Hid (∀ W, Below w.heap.size w W → Calls Tryz.prog 11 #[.string t] W fun e w' => e = .returned (.string (EX t)) ∧ Below W.heap.size W w') := fun W h => HIX.out t W h
  have HST : Hid (∀ W, Calls Tryz.prog 12 #[.string t] W fun e w' => e = .returned (.string (EX t)) ∧ Below W.heap.size W w') := fun W => HSX.out t W
  clear hb1
  have HCM : Hid (∀ W, Calls Tryz.prog 13 #[.string t] W fun e w' => (∃ i, e = .returned (.string (t.extract 0 i)) ∧ CpN t i) ∧ W = w') := fun W => complete_any t W (by omega)
  generalize EX t = o at *
  go_wp2_with fail
  refine (HIT.out _ HB1.out).mono ?_
  rintro e w2 ⟨rfl, hb⟩
  have HB2 := Lib.hid (HB1.out.trans (hb.mono HB1.out.size))
  clear hb
  go_wp2_with fail
  refine (HST.out _).mono ?_
  rintro e w3 ⟨rfl, hb⟩
  have HB3 := Lib.hid (HB2.out.trans (hb.mono HB2.out.size))
  clear hb
  go_wp2_with fail
  refine (HCM.out _).mono ?_
  rintro e w' ⟨⟨i, rfl, hci⟩, rfl⟩
  have HCI := Lib.hid hci
  have HS : Hid (∃ s, s = t.extract 0 i) := ⟨_, rfl⟩
  obtain ⟨s, hs⟩ := HS.out
  rw [← hs]
  replace HS : Hid (s = t.extract 0 i) := hs
  have hsz : s.size ≤ t.size := by rw [hs, ByteArray.size_extract]; omega
  clear hci hs HCM HIT HST
  by_cases h5 : 488 < s.size
  ·have h5i : (488 : Int) < (s.size : Int) := by omega
   go_wp2_with fail
   go_ret
   exact ⟨rfl, HB3.out⟩
  ·have h5i : ¬ (488 : Int) < (s.size : Int) := by omega
   have HTW : Hid (∀ j, LlN (EX s) j → ∃ X : ByteArray, EX (s ++ ⟨#[110, 101, 120, 116, 10]⟩) = (EX s).extract 0 j ++ X ++ (EX s).extract j (EX s).size ∧ EX (s ++ ⟨#[110, 101, 120, 116, 10, 110, 101, 120, 116, 10]⟩) = (EX s).extract 0 j ++ X ++ X ++ (EX s).extract j (EX s).size) := fun j hj => EX_twice HS.out HCI.out (by omega) hj
   have HXS := Lib.hid (HIX.out s)
   have HX1 := Lib.hid (HIX.out (s ++ ⟨#[110, 101, 120, 116, 10]⟩))
   have HX2 := Lib.hid (HIX.out (s ++ ⟨#[110, 101, 120, 116, 10, 110, 101, 120, 116, 10]⟩))
   have hA1 := EX_size s
   have hA2 := EX_size (s ++ ⟨#[110, 101, 120, 116, 10]⟩)
   have HA0 := Lib.hid (EX_pos s)
   generalize EX (s ++ ⟨#[110, 101, 120, 116, 10]⟩) = E at *
   generalize EX (s ++ ⟨#[110, 101, 120, 116, 10, 110, 101, 120, 116, 10]⟩) = E2 at *
   generalize EX s = a at *
   have HLL : Hid (∀ W, Calls Tryz.prog 14 #[.string a] W fun e w' => (∃ j, e = .returned (.string (a.extract j a.size)) ∧ LlN a j) ∧ W = w') := fun W => lastLine_any a W HA0.out (by omega)
   go_wp2_with fail
   refine (HXS.out _ HB3.out).mono ?_
   rintro e w4 ⟨rfl, hb⟩
   have HB4 := Lib.hid (HB3.out.trans (hb.mono HB3.out.size))
   clear hb
   go_wp2_with fail
   refine (HLL.out _).mono ?_
   rintro e w' ⟨⟨j, rfl, hj⟩, rfl⟩
   obtain ⟨X, hE, hE2⟩ := HTW.out j hj
   have hjl := hj.le
   have hQs : (a.extract j a.size).size = a.size - j := by rw [ByteArray.size_extract]; omega
   have hPs : (a.extract 0 j).size = j := by rw [ByteArray.size_extract]; omega
   clear HTW hj
   generalize a.extract j a.size = Q at *
   have hz : E.size = j + X.size + Q.size := by rw [hE, ByteArray.size_append, ByteArray.size_append, hPs]
   have HMX : Hid (E.extract j (j + X.size) = X) := by
    have q := mid_ext (a.extract 0 j) X Q
    rw [← hE, hPs, show E.size - Q.size = j + X.size by omega] at q
    exact q
   have HE2 := Lib.hid hE2
   clear hE hE2 hPs
   have hw1 : IntKind.i64.wrap ((a.size : Int) - (Q.size : Int)) = (j : Int) := by rw [IntWalk.i64_in _ (by omega)]; omega
   have hw2 : IntKind.i64.wrap ((E.size : Int) - (Q.size : Int)) = ((j + X.size : Nat) : Int) := by rw [IntWalk.i64_in _ (by omega)]; omega
   have hj1 : (j : Int) ≤ (a.size : Int) := by omega
   have hj2 : (j : Int) ≤ ((j + X.size : Nat) : Int) := by omega
   have hj3 : ((j + X.size : Nat) : Int) ≤ (E.size : Int) := by omega
   have hXs : X.size ≤ 1000000000 := by omega
   have hqz : Q.size ≤ 1000000000 := by omega
   clear hQs
   generalize hxz : j + X.size = e1 at *
   clear hz hxz
   go_wp2_with fail
   refine (HX1.out _ HB4.out).mono ?_
   rintro e w5 ⟨rfl, hb⟩
   have HB5 := Lib.hid (HB4.out.trans (hb.mono HB4.out.size))
   clear hb
   go_wp2_with fail
   rw [HMX.out]
   clear hw2 hj2 hj3
   have hz0 : ¬ 9223372036854775807 < j + X.size := by omega
   have hz1 : ¬ 9223372036854775807 < j + X.size + X.size := by omega
   have hz2 : ¬ 9223372036854775807 < j + X.size + X.size + Q.size := by omega
   obtain rfl := HE2.out
   have hzs : ¬ 9223372036854775807 < s.size + 10 := by omega
   have HBd : Hid (Below w.heap.size w w5.drew) := HB5.out.trans ((Below.refl _ _).drew.mono HB5.out.size)
   refine wp_region_held_drew (S := fun W => w.heap.size ≤ W.heap.size) (by kernel_rfl) HBd.out.size (fun hHeld => ?_)
   refine tkR 0 ?_
   refine tkR 1 ?_
   refine tkR 3 ?_
   refine tkR 4 ?_
   refine tkR 5 ?_
   refine tkR 6 ?_
   refine tkR 7 ?_
   refine tkR 8 ?_
   refine tkR 9 ?_
   refine tkR 10 ?_
   refine tkR 11 ?_
   refine tkR 12 ?_
   refine tkR 13 ?_
   refine tkR 14 ?_
   refine tkR 15 ?_
   refine r1R 2 (fun K hK => ?_)
   go_simp
   go_at_call 11
   go_must (refine Calls.mono (HX2.out _ HBd.out) ?_)
   rintro e w6 ⟨rfl, hb⟩
   have HB6 := Lib.hid (HBd.out.trans (hb.mono HBd.out.size))
   clear hb
   refine oR hK ?_ (fun hHeld => ?_)
   ·try dsimp only
    exact HB6.out.size
   clear hK K
   refine tkR 16 ?_
   refine tkR 17 ?_
   refine wpAnyH_done (by kernel_rfl) ?_ _
   clear hHeld
   go_wp2_with fail
   go_ret
   exact ⟨rfl, HB6.out⟩
end Go.Proofs.YtlkdmpfifpkpaaaGreatDoor
namespace Go.Proofs.YtlkdmpfifpkpaaaGreatDoor
open Go.ChangeShapes Go.WideShapes Go.ChangeAt Go.RowKit
set_option maxRecDepth 100000 in
theorem fnExecuteTwice_lifted (os : Os) (started : os.Started) (H : Type) (enc : TypeId × Value → H) :
    ReturnsInHanded {} Tryz.checked os 4 .any (fun w args => (Rows.fnExecuteTwiceSpec.pre enc Tryz.prog Tryz.f4 Rows.fnExecuteTwiceRow.domain false w args ∧ laidMetH Tryz.prog lRow w) ∧ sizedMet enc Tryz.prog Tryz.f4 (OpenSpec.ofChange Rows.fnExecuteTwiceSpec) false w args) (Rows.fnExecuteTwiceSpec.post enc Tryz.prog Tryz.f4 false true false false) := by
  refine cardLift started (by kernel_rfl) Tryz.func4
    (ChangeSpec.witness_shaped (enc := enc) (C := Tryz.checked) (os := os) (X := fun w _ => laidMetH Tryz.prog lRow w) false (World.laidAll Tryz.prog os lRow) #[.slice none 0 0] 8 (World.laidAll_os _ _ _)
      (World.shaped_of_ZipB (by kernel_rfl) (by kernel_rfl)) (by kernel_rfl) (by kernel_rfl) (by kernel_rfl) (laid_met os _)) ?_
  intro W m base args ds gs before hval0 hW hWF
  have hval : ∀ (j : Nat) t v, Tryz.f4.params[j]? = some t → args[j]? = some v → Value.okWide Tryz.prog W .any base t v := hval0
  have hW' := hW
  obtain ⟨p, q, hA0, hV, rfl, _, _⟩ := hW
  have hA : DataW.TrodAll enc Tryz.prog W 0 (fun _ => true) true Tryz.f4.params.toList args.toList ds p := hA0
  rw [Tryz.params4] at hA hval
  obtain ⟨v0, vs0, d0, ds0, p0, q0, hargs, rfl, rfl, h0, r0⟩ := trodAll_cons hA
  obtain ⟨rfl, rfl, rfl⟩ := trodAll_nil r0
  obtain rfl : args = #[v0] := by cases args; simp_all
  obtain ⟨rfl, rfl⟩ := trodVars_none hV
  have h0k := h0
  obtain ⟨a0, n0, c0, rfl⟩ := okWide_slice Tryz.underlying22 (hval 0 22 v0 rfl rfl)
  obtain ⟨fuel, hf⟩ := h0
  obtain ⟨ao, n, c, hcs, hsa, hnc, hna⟩ := open_BS hf (fun _ => rfl)
  simp [Value.cells] at hcs
  obtain ⟨rfl, rfl, rfl⟩ := hcs
  clear hA0 hval0
  simp only [List.append_nil] at hW'
  have hlt : ∀ z ∈ p0, z.block < W.heap.size := fun z hz => by have := hW'.lt z; simp at this hz ⊢; exact this hz
  refine (lawTwice_any m _ _ _ W hWF hsa hnc hna).mono fun e W' ⟨he, hb⟩ => ?_
  subst he
  exact ⟨_, rfl, _, _, _, [], _, [], hW', trodAll_cons_mk (shut_bool Tryz.underlying4 _) trodAll_mk0, trodAll_cons_mk (Below.trod laidOut (by kernel_rfl) (of_decide_eq_true (by kernel_rfl)) h0k hb hlt) trodAll_mk0, rfl, hb.frame _, fun h => by cases h⟩
theorem fnExecuteTwice_row : Rows.FnExecuteTwiceSaid :=
 OpenClaim.holds_of_wide 4 Tryz.f4 rfl rfl rfl rfl rfl rfl rfl ⟨rfl, rfl, rfl, rfl, rfl⟩ rfl rfl rfl rfl rfl (by kernel_rfl) Tryz.func4 (by kernel_rfl)
   (of_decide_eq_true (by kernel_rfl)) (by unfold Func.isWrapper; first | (rw [if_pos (by decide +kernel)]; kernel_rfl) | (rw [if_neg (by decide +kernel)]; exact ⟨rfl, rfl⟩))
   (fun os started H enc _ => fnExecuteTwice_lifted os started H enc)
theorem fnExecuteTwice_proved : Rows.FnExecuteTwiceCardSaid :=
 Claim7.holds_tied_plain_at .later [] [.data, .data, .data, .data, .pinned] true (true, "d158c4b0d36a3f3572ae2f15a081a2bd079217f713e2c6219487da737a42ce05") true
   fnExecuteTwice_row (fun _ h => by cases h) (by kernel_rfl) (fun _ h => by cases h) fnExecuteTwice_row_tie rfl ⟨rfl, rfl⟩ (by kernel_rfl) rfl
   (fun f fn hf hfn => by
    obtain rfl : f = 4 := Option.some.inj ((show Tryz.prog.funcNamed "loop.example/blockboxes/laws.FnExecuteTwice" = some 4 by kernel_rfl).symm.trans hf) |>.symm
    obtain rfl : fn = Tryz.f4 := (Option.some.inj (Tryz.func4.symm.trans hfn)).symm
    exact ⟨by kernel_rfl, fun j t ht => by
     rw [Tryz.params4] at ht
     have hm : t ∈ [22] := by simpa using Array.mem_of_getElem? ht
     have hall : ([22].all fun u => !Tryz.prog.wantsStandIn u) = true := by kernel_rfl
     exact (show Tryz.prog.wantsStandIn t = false by simpa using List.all_eq_true.1 hall t hm)⟩)
   (by kernel_rfl)
end Go.Proofs.YtlkdmpfifpkpaaaGreatDoor

