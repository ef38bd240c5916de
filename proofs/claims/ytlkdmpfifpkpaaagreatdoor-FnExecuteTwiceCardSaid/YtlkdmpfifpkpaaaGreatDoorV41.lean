/-
  Parts of the proof: Xn Rows2 Rows5. No condition.
-/
import Derived.Test.YtlkdmpfifpkpaaaGreatDoorRows
import Derived.ProofKit
import Derived.OpenShut
import Derived.JoinedCond
import Derived.Lib.SmallJoins
import Derived.Test.YtlkdmpfifpkpaaaGreatDoorCards
import Derived.Test.YtlkdmpfifpkpaaaGreatDoorTie
import Derived.LaidMore
import Derived.LaidSub
import Derived.Lay
import Derived.SevenTiedAt
import Derived.Stop.Joined
import Derived.Shelf.Vars
import Derived.Lib.LaidTab
import Derived.Test.YtlkdmpfifpkpaaaGreatDoorV40
namespace Go.Proofs.YtlkdmpfifpkpaaaGreatDoor
open Go.RowKit
set_option linter.unusedSimpArgs false in
set_option maxRecDepth 100000 in
set_option maxHeartbeats 4000000 in
theorem lawNone_any (m : Int) (ao : Option Addr) (n c : Nat) (w : World) (hW : WF m w) (hB : BSl w ao n) (hnc : n ≤ c) (hn : n ≤ 9223372036854775807) :
    Calls Tryz.prog 3 #[.slice ao n c] w fun e w' => e = .returned (.bool true) ∧ Below w.heap.size w w' := by
  have HBS := Lib.hid hB
  have HWF := Lib.hid hW
  clear hB hW
  by_cases hlong : 1048576 < n
  ·go_enter Tryz.func3, Tryz.ntmps3
   go_wp2_with fail
   go_ret
   exact ⟨rfl, Below.refl _ _⟩
  go_enter Tryz.func3, Tryz.ntmps3
  go_wp2_with fail
  refine (drawExecute_any ao n c _ hnc hn HBS.out).mono ?_
  rintro e w1 ⟨⟨t, rfl, ht⟩, hb1⟩
  have HB1 := Lib.hid hb1
  have HIX : Hid (∀ (s : ByteArray) W, Below w.heap.size w W → Calls Tryz.prog 11 #[.string s] W fun e w' => e = .returned (.string (EX s)) ∧ Below W.heap.size W w') := fun s W h => implExecute_X s m W (HWF.out.below h)
  have HSX : Hid (∀ (s : ByteArray) W, Calls Tryz.prog 12 #[.string s] W fun e w' => e = .returned (.string (EX s)) ∧ Below W.heap.size W w') := fun s W => specExecute_X s W
  have HIT : Hid (∀ W, Below w.heap.size w W → Calls Tryz.prog 11 #[.string t] W fun e w' => e = .returned (.string (EX t)) ∧ Below W.heap.size W w') := fun W h => HIX.out t W h
  have HST : Hid (∀ W, Calls Tryz.prog 12 #[.string t] W fun e w' => e = .returned (.string (EX t)) ∧ Below W.heap.size W w') := fun W => HSX.out t W
  clear hb1
  have HCM : Hid (∀ W, Calls Tryz.prog 13 #[.string t] W fun e w' => (∃ i, e = .returned (.string (t.extract 0 i)) ∧ CpN t i) ∧ W = w') := fun W => complete_any t W (by omega)
  have HSM : Hid (∀ i, CpN t i → t.size ≤ 500 → EX (t.extract 0 i) = EX t) := fun i h1 h2 => h1.same h2
  have HBG : Hid (500 < t.size → EX t = tooT) := fun h => if_neg (by omega)
  have HPS := Lib.hid (EX_pos t)
  generalize EX t = o at *
  go_wp2_with fail
  refine (HIT.out _ HB1.out).mono ?_
  rintro e w2 ⟨rfl, hb⟩
  have HB2 := Lib.hid (HB1.out.trans (hb.mono HB1.out.size))
  clear hb
  go_wp2_with fail
  refine (HST.out _).mono ?_
  rintro e w3 ⟨rfl, hb⟩
  have HB3 := Lib.hid (HB2.out.trans (hb.mono HB2.out.size))
  clear hb
  by_cases h5 : 500 < t.size
  ·have h5i : (500 : Int) < (t.size : Int) := by omega
   obtain rfl := HBG.out h5
   have htt : tooT.toList = [116, 111, 111, 32, 108, 111, 110, 103, 10] := by rw [ByteArray.toList_eq]; rfl
   go_wp2_with fail
   go_ret
   exact ⟨rfl, HB3.out⟩
  ·have h5i : ¬ (500 : Int) < (t.size : Int) := by omega
   have hp := HPS.out
   have hne : o.toList ≠ [] := by
    rw [ByteArray.toList_eq]
    intro e
    have h2 : o.data.toList.length = 0 := by rw [e]; rfl
    have h3 : o.data.toList.length = o.size := by simp
    omega
   have hu2 : (o.toList == []) = false := by simpa using hne
   have hu3 : o.toList.isEmpty = false := by simpa using hne
   have HI0 : Hid (∀ W, Below w.heap.size w W → Calls Tryz.prog 11 #[.string ⟨#[]⟩] W fun e w' => e = .returned (.string ⟨#[116, 114, 97, 105, 110, 115, 32, 48, 32, 112, 97, 116, 104, 115, 32, 48, 10]⟩) ∧ Below W.heap.size W w') := fun W h => by
    have q := HIX.out ⟨#[]⟩ W h
    rw [EX_nil, show exT 0 0 = ⟨#[116, 114, 97, 105, 110, 115, 32, 48, 32, 112, 97, 116, 104, 115, 32, 48, 10]⟩ by decide +kernel] at q
    exact q
   have HIC : Hid (∀ i W, CpN t i → Below w.heap.size w W → Calls Tryz.prog 11 #[.string (t.extract 0 i)] W fun e w' => e = .returned (.string o) ∧ Below W.heap.size W w') := fun i W hc h => by
    have q := HIX.out (t.extract 0 i) W h
    rw [HSM.out i hc (by omega)] at q
    exact q
   clear hne
   go_wp2_with fail
   refine (HI0.out _ HB3.out).mono ?_
   rintro e w4 ⟨rfl, hb⟩
   have HB4 := Lib.hid (HB3.out.trans (hb.mono HB3.out.size))
   clear hb
   go_wp2_with fail
   refine (HCM.out _).mono ?_
   rintro e w' ⟨⟨i, rfl, hci⟩, rfl⟩
   have HCI := Lib.hid hci
   clear hci
   go_wp2_with fail
   refine (HIC.out i _ HCI.out HB4.out).mono ?_
   rintro e w5 ⟨rfl, hb⟩
   have HB5 := Lib.hid (HB4.out.trans (hb.mono HB4.out.size))
   clear hb
   go_wp2_with fail
   go_ret
   exact ⟨rfl, HB5.out⟩
set_option linter.unusedSimpArgs false in
set_option maxRecDepth 100000 in
theorem lawExecute_any (m : Int) (t : ByteArray) (w : World) (hW : WF m w) (ht : t.size ≤ 9223372036854775807) :
    Calls Tryz.prog 9 #[.string t] w fun e w' => e = .returned (.bool true) ∧ Below w.heap.size w w' := by
  have HIT : Hid (∀ W, Below w.heap.size w W → Calls Tryz.prog 11 #[.string t] W fun e w' => e = .returned (.string (EX t)) ∧ Below W.heap.size W w') := fun W h => implExecute_X t m W (hW.below h)
  have HST : Hid (∀ W, Calls Tryz.prog 12 #[.string t] W fun e w' => e = .returned (.string (EX t)) ∧ Below W.heap.size W w') := fun W => specExecute_X t W
  generalize EX t = o at *
  clear hW
  by_cases hlong : 1048576 < t.size
  ·have hi : (1048576 : Int) < (t.size : Int) := by omega
   go_enter Tryz.func9, Tryz.ntmps9
   go_wp2_with fail
   go_ret
   exact ⟨rfl, Below.refl _ _⟩
  ·have hi : ¬ (1048576 : Int) < (t.size : Int) := by omega
   go_enter Tryz.func9, Tryz.ntmps9
   go_wp2_with fail
   refine (HST.out _).mono ?_
   rintro e w1 ⟨rfl, hb1⟩
   have HB1 := Lib.hid hb1
   clear hb1
   go_wp2_with fail
   refine (HIT.out _ HB1.out).mono ?_
   rintro e w2 ⟨rfl, hb⟩
   have HB2 := Lib.hid (HB1.out.trans (hb.mono HB1.out.size))
   clear hb
   go_wp2_with fail
   go_ret
   exact ⟨rfl, HB2.out⟩
theorem laidOut : laidOutB Tryz.prog = true := by kernel_rfl
theorem own : ownKnob Tryz.prog.godebug = none := by kernel_rfl
theorem cellsU8 : Tryz.prog.cellsOf 5 = 1 := by kernel_rfl
theorem open_BS {H : Type} {enc : TypeId × Value → H} {w : World} {base : Nat} {spare : Nat → Bool} {held : Bool} {fuel : Nat} {cs : List Value} {y : DataW H × List MemPlace}
    (h : DataW.trod enc Tryz.prog w base spare held fuel 22 cs = some y) (hw : ∀ b, spare b = true) : ∃ ao n c, cs = [.slice ao n c] ∧ BSl w ao n ∧ n ≤ c ∧ n ≤ 9223372036854775807 := by
  rcases Go.ChangeShapes.open_ints Tryz.underlying22 Tryz.underlying5 cellsU8 h with ⟨hcs, hx⟩ | ⟨a, len', cap', zs, hcs, _, hl, hm, hz, hx, hcell, hwz⟩
  ·exact ⟨none, 0, 0, hcs, .inl rfl, Nat.le_refl _, by omega⟩
  ·rw [if_pos (hw _)] at hz
   unfold maxLen at hm
   refine ⟨some a, len', cap', hcs, ?_, hl, by omega⟩
   by_cases h0 : len' = 0
   ·exact .inl h0
   ·obtain ⟨b, o, s⟩ := a
    have c0 := hcell 0 (by omega)
    have hs : s = none := by
     cases s with
     | none => rfl
     | some s =>
      exfalso
      revert c0
      simp only [World.cell?, Addr.add]
      split <;> simp
    subst hs
    refine .inr ⟨b, o, fun i => zs[i]?.getD 0, rfl, fun k hk => ⟨?_, range_u8 hwz k⟩⟩
    rw [← addr_add, hcell k (by omega), List.getD_eq_getElem?_getD]
end Go.Proofs.YtlkdmpfifpkpaaaGreatDoor
namespace Go.Proofs.YtlkdmpfifpkpaaaGreatDoor
open Go.RowKit Go.ChangeShapes Go.WideShapes
def lRow : List (String × DataW Unit) := Rows.fnExecuteBookRow.laid
theorem gPowT : (Tryz.prog.globals[1]?).map (·.type) = some 161 := by kernel_rfl
set_option maxRecDepth 100000 in
theorem laid_met (os : Os) (args : Array Value) : laidMetH Tryz.prog lRow ((World.laidAll Tryz.prog os lRow).forCall (fun _ _ => 0) ⟨#[], args, []⟩).memory := by
 rw [MakeChecks.laidMetH_plain _ _ _ (by kernel_rfl)]
 exact laidMet_laidAll _ (by kernel_rfl) (by kernel_rfl)
theorem wf_of {W : World} (h : laidMetH Tryz.prog lRow W) (hsh : W.ShapedOpen Tryz.prog) : ∃ m, WF m W := by
 rw [MakeChecks.laidMetH_plain _ _ _ (by kernel_rfl)] at h
 have h1 := h.filter (fun x => x.1 == "internal/strconv.uint64pow10")
 have h2 : lRow.filter (fun x => x.1 == "internal/strconv.uint64pow10") = [("internal/strconv.uint64pow10", Lib.tabData .u64 Lib.pow10Tab)] := by kernel_rfl
 rw [h2] at h1
 obtain ⟨m, hm⟩ := cell_of_shapedOpen_int (g := 0) (t := 3) (zero := #[.int .i64 0]) hsh (of_decide_eq_true (by kernel_rfl)) (by kernel_rfl) rfl (by kernel_rfl) (by kernel_rfl) Tryz.underlying3
 exact ⟨m, hm, Lib.tabIs_of_head gPow gPowT Tryz.underlying161 Tryz.underlying142 (by kernel_rfl) (by kernel_rfl) h1⟩
set_option maxRecDepth 100000 in
theorem cardLift {H : Type} {enc : TypeId × Value → H} {os : Os} {f : FuncId} {fn : Func} {s : ChangeSpec} {conds : List PathCond} {apart fresh handsOn again : Bool}
    (started : os.Started) (noInit : Tryz.prog.inits.idxOf? f = none) (hfn : Tryz.prog.funcs[f]? = some fn)
    (witness : ∃ (w : World) (tape : Tape) (i : Input), w.os = os ∧ (w.forCall tape i).Shaped Tryz.prog ∧ i.vars = [] ∧ Input.okWide Tryz.prog (w.forCall tape i) .any w.heap.size f i ∧
      ((s.pre enc Tryz.prog fn conds apart (w.forCall tape i).memory i.args ∧ laidMetH Tryz.prog lRow (w.forCall tape i).memory) ∧ sizedMet enc Tryz.prog fn (OpenSpec.ofChange s) apart (w.forCall tape i).memory i.args) ∧ ({} : Assume).holds Tryz.prog (lone (Frame.enter Tryz.prog f i.args .normal) [] (w.forCall tape i)))
    (contract : ∀ (W : World) (m : Int) (base : Nat) (args : Array Value) (ds gs : List (DataW H)) (before : List MemPlace),
      (∀ (j : Nat) t v, fn.params[j]? = some t → args[j]? = some v → Value.okWide Tryz.prog W .any base t v) →
      DataW.Whole enc Tryz.prog fn.params.toList s.vars apart W args.toList ds gs before → WF m W →
      Calls Tryz.prog f args W fun e W' => ∃ v, e = .returned v ∧ s.post enc Tryz.prog fn apart fresh handsOn again W args v W') :
    ReturnsInHanded {} Tryz.checked os f .any (fun w args => (s.pre enc Tryz.prog fn conds apart w args ∧ laidMetH Tryz.prog lRow w) ∧ sizedMet enc Tryz.prog fn (OpenSpec.ofChange s) apart w args) (s.post enc Tryz.prog fn apart fresh handsOn again) := by
  refine returnsInHanded_of_calls own started noInit witness ?_
  intro w tape i _ hsh _ hok hpre _
  obtain ⟨_, _, _, fn', hfn', _, _, _, _, hval⟩ := hok
  obtain rfl : fn' = fn := Option.some.inj (hfn'.symm.trans hfn)
  obtain ⟨⟨⟨ds, gs, before, hw, _⟩, hl⟩, _⟩ := hpre
  have hw' := DataW.Whole.of_heap (w' := w.forCall tape i) (by rfl) hw
  obtain ⟨m, hm⟩ := wf_of (laidMetH.of_heap (w' := w.forCall tape i) (by rfl) hl) hsh
  refine (contract (w.forCall tape i) m w.heap.size i.args ds gs before hval hw' hm).mono fun e W' ⟨v, he, hp⟩ => ?_
  subst he
  exact ChangeSpec.post_blind hp
end Go.Proofs.YtlkdmpfifpkpaaaGreatDoor

