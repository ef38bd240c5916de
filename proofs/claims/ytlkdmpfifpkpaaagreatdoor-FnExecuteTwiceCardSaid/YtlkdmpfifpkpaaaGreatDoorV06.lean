/-
  Parts of the proof: Kb Bu. No condition.
-/
import Derived.Lib.IndexLaws
import Derived.Test.YtlkdmpfifpkpaaaGreatDoorV05
namespace Go.Proofs.YtlkdmpfifpkpaaaGreatDoor
open Go.RowKit
def evL : List UInt8 := [97, 99, 101, 102, 108, 111, 114]
def evB (l : ByteArray) : Bool := match l.data.toList with | [c] => evL.contains c | _ => false
def chN (c : UInt8) : ByteArray := ⟨#[c]⟩
theorem chN_of {l : ByteArray} (h : l.size = 1) : ∃ c, l = chN c := by
 obtain ⟨d⟩ := l
 have hd : d.size = 1 := h
 obtain ⟨c, rfl⟩ := Array.size_eq_one_iff.1 hd
 exact ⟨c, rfl⟩
theorem evB_size {l : ByteArray} (h : evB l = true) : l.size = 1 := by
 unfold evB at h
 have hs : l.data.toList.length = l.size := by simp
 split at h
 ·rename_i c e
  rw [e] at hs
  exact hs.symm
 ·cases h
theorem evB_chN (c : UInt8) : evB (chN c) = decide (0 ≤ Lib.indexByte evL c) := by
 show evL.contains c = _
 have h1 := Lib.indexByte_ge evL c
 rw [Bool.eq_iff_iff, decide_eq_true_eq]
 constructor
 ·intro h
  rcases Int.lt_or_le (Lib.indexByte evL c) 0 with h2 | h2
  ·exfalso
   have h3 := Lib.indexByte_none (show Lib.indexByte evL c = -1 by omega)
   rw [List.contains_iff_mem] at h
   obtain ⟨k, hk⟩ := List.getElem?_of_mem h
   exact h3 k hk
  ·exact h2
 ·intro h
  obtain ⟨o, ho⟩ := Int.eq_ofNat_of_zero_le h
  have h3 := (Lib.indexByte_some (l := evL) (c := c) (o := o) ho).1
  rw [List.contains_iff_mem]
  exact List.mem_of_getElem? h3
theorem evB_long {l : ByteArray} (h : l.size ≠ 1) : evB l = false := by
 cases e : evB l
 ·rfl
 ·exact absurd (evB_size e) h
theorem isEvent_any (l : ByteArray) (w : World) :
    Calls Tryz.prog 179 #[.string l] w fun e w' => e = .returned (.bool (evB l)) ∧ w = w' := by
  by_cases h : l.size = 1
  ·obtain ⟨c, rfl⟩ := chN_of h
   have HC : Hid (Calls Tryz.prog 181 #[.string ⟨#[97, 99, 101, 102, 108, 111, 114]⟩, .string (chN c)] w fun e w' => e = .returned (.bool (evB (chN c))) ∧ w = w') := by
    refine (Tryz.strings_Contains_one ⟨#[97, 99, 101, 102, 108, 111, 114]⟩ c w).mono fun e w' ⟨h1, h2⟩ => ⟨?_, h2.symm⟩
    rw [h1, evB_chN]
    rfl
   have hsz : ((chN c).size : Int) = 1 := rfl
   generalize chN c = l at *
   have hsb : ((l.size : Int) == 1) = true := by simp [hsz]
   clear hsz h
   go_enter Tryz.func179, Tryz.ntmps179
   go_wp2_with fail
   refine HC.out.mono ?_
   rintro e w' ⟨rfl, rfl⟩
   go_wp2_with fail
   go_ret
   exact ⟨rfl, rfl⟩
  ·have HE := Lib.hid (evB_long h)
   have hsb : ((l.size : Int) == 1) = false := by simp; omega
   clear h
   go_enter Tryz.func179, Tryz.ntmps179
   go_wp2_with fail
   go_ret
   exact ⟨by rw [HE.out]; rfl, rfl⟩
def prM (ns : List (Int × ByteArray)) (i : Nat) : Int := if i = 0 then 0 else nM ns (i - 1)
theorem prM_succ (ns : List (Int × ByteArray)) (i : Nat) : prM ns (i + 1) = nM ns i := by unfold prM; rw [if_neg (by omega)]; rfl
def okN (ns : List (Int × ByteArray)) (i : Nat) : Bool := inB (nM ns i) (prM ns i) 2000 && evB (nL ns i)
def rgV (ns : List (Int × ByteArray)) : Bool := decide (ns.length ≤ 30) && allB ns.length (okN ns)
theorem rgV_true {ns : List (Int × ByteArray)} : rgV ns = true ↔ ns.length ≤ 30 ∧ ∀ i, i < ns.length → okN ns i = true := by
 unfold rgV
 rw [Bool.and_eq_true, decide_eq_true_eq, allB_true]
theorem okN_true {ns : List (Int × ByteArray)} {i : Nat} : okN ns i = true ↔ (prM ns i ≤ nM ns i ∧ nM ns i ≤ 2000) ∧ evB (nL ns i) = true := by
 unfold okN
 rw [Bool.and_eq_true, inB_true]
theorem rgV_not {ns : List (Int × ByteArray)} {i : Nat} (hi : i < ns.length) (h : okN ns i = false) : rgV ns = false := by
 unfold rgV
 rw [allB_not hi h, Bool.and_false]
theorem rgV_long {ns : List (Int × ByteArray)} (h : ¬ ns.length ≤ 30) : rgV ns = false := by
 unfold rgV
 rw [decide_eq_false h, Bool.false_and]
set_option linter.unusedSimpArgs false in
set_option maxHeartbeats 2000000 in
theorem valid_any (r : Nat) (es : List Nat) (ns : List (Int × ByteArray)) (w : World) (h : RgC w r es ns) (hn : ns.length ≤ 1000000) :
    Calls Tryz.prog 176 #[.pointer (some ⟨r, 0, none⟩)] w fun e w' => e = .returned (.bool (rgV ns)) ∧ w = w' := by
  have hrc := h.box.cell
  have HR := Lib.hid h
  have HL := Lib.hid h.len
  have hl : es.length ≤ 1000000 := by rw [HL.out]; exact hn
  clear h
  by_cases h30 : (30 : Int) < (es.length : Int)
  ·have HV : Hid (rgV ns = false) := rgV_long (by rw [← HL.out]; omega)
   go_enter Tryz.func176, Tryz.ntmps176
   go_wp2_with fail
   go_ret
   exact ⟨by rw [HV.out]; rfl, rfl⟩
  go_enter Tryz.func176, Tryz.ntmps176
  go_wp2_with fail
  go_loop [3, 4] (fun a e => ∃ i : Nat, i ≤ es.length ∧ e = pE es i ∧ a = .int .i64 (prM ns i) ∧ Hid (∀ j, j < i → okN ns j = true)) (fun _ e => es.length - ixE es e)
  case atStart => exact ⟨0, Nat.zero_le _, rfl, rfl, fun j hj => by omega⟩
  case round =>
   obtain ⟨i, hi, he, rfl, HA⟩ := hrel
   have HIX := Lib.hid (HR.out.ix hi)
   by_cases hlt : i < es.length
   ·have HE := Lib.hid he
    rw [pE_some hlt] at he
    subst he
    have hec := (HR.out.ent i hlt).cell
    generalize es.getD i 0 = eb at *
    have HIN : Hid (i < ns.length) := by show _ < _; rw [← HL.out]; exact hlt
    have HPS := Lib.hid (prM_succ ns i)
    have HNX := Lib.hid (HR.out.ix (i := i + 1) (by omega))
    have HOK := Lib.hid (okN_true (ns := ns) (i := i))
    revert hec HPS HOK
    generalize nM ns i = m
    generalize nL ns i = l
    intro hec HPS HOK
    by_cases h1 : m < prM ns i
    ·have HF : Hid (rgV ns = false) := rgV_not HIN.out (by cases e : okN ns i; rfl; exact absurd (HOK.out.1 e).1.1 (by omega))
     go_wp2_with fail
     go_ret
     exact ⟨by rw [HF.out]; rfl, rfl⟩
    by_cases h2 : 2000 < m
    ·have HF : Hid (rgV ns = false) := rgV_not HIN.out (by cases e : okN ns i; rfl; exact absurd (HOK.out.1 e).1.2 (by omega))
     go_wp2_with fail
     go_ret
     exact ⟨by rw [HF.out]; rfl, rfl⟩
    cases hev : evB l
    ·have HF : Hid (rgV ns = false) := rgV_not HIN.out (by cases e : okN ns i; rfl; have h := (HOK.out.1 e).2; rw [hev] at h; cases h)
     have HEV := Lib.hid hev
     clear hev
     go_wp2_with fail
     refine (isEvent_any l _).mono ?_
     rintro e w' ⟨rfl, rfl⟩
     rw [HEV.out]
     go_wp2_with fail
     go_ret
     exact ⟨by rw [HF.out]; rfl, rfl⟩
    ·have HOKI : Hid (okN ns i = true) := HOK.out.2 ⟨⟨by omega, by omega⟩, hev⟩
     have HEV := Lib.hid hev
     clear hev
     go_wp2_with fail
     refine (isEvent_any l _).mono ?_
     rintro e w' ⟨rfl, rfl⟩
     rw [HEV.out]
     go_wp2_with fail
     go_round
     case rel => exact ⟨i + 1, by omega, rfl, by rw [HPS.out], fun j hj => by
      rcases Nat.lt_or_ge j i with h | h
      ·exact HA.out j h
      ·obtain rfl : j = i := by omega
       exact HOKI.out⟩
     case measure => rw [HE.out, HIX.out, HNX.out]; omega
   ·rw [pE_none (by omega)] at he
    subst he
    have HV : Hid (rgV ns = true) := rgV_true.2 ⟨by rw [← HL.out]; omega, fun j hj => HA.out j (by rw [← HL.out] at hj; omega)⟩
    go_wp2_with fail
    go_ret
    exact ⟨by rw [HV.out]; rfl, rfl⟩
def bkA (k : Nat) : Value := .agg #[.int .i64 (stB k).n, .bool (stB k).i, .bool (stB k).o]
def bsV (k : Nat) : Value := if k < 5 then bkA k else .agg #[.int .i64 0, .bool false, .bool false]
theorem stI_B {n : Int} {i o : Bool} {k : Nat} (h : stI n i o = k) (hk : k < 5) : n = (stB k).n ∧ i = (stB k).i ∧ o = (stB k).o := by
 have key : ∀ j, bkE j n i o = true → n = (stB j).n ∧ i = (stB j).i ∧ o = (stB j).o := fun j hj => by
  simp only [bkE, Bool.and_eq_true, decide_eq_true_eq] at hj
  exact ⟨hj.1.symm, hj.2.1.symm, hj.2.2.symm⟩
 unfold stI at h
 split at h
 ·subst h; exact key _ (by assumption)
 ·split at h
  ·subst h; exact key _ (by assumption)
  ·split at h
   ·subst h; exact key _ (by assumption)
   ·split at h
    ·subst h; exact key _ (by assumption)
    ·split at h
     ·subst h; exact key _ (by assumption)
     ·omega
theorem stI_stB {k : Nat} (hk : k < 5) : stI (stB k).n (stB k).i (stB k).o = k := by
 have h5 : k = 0 ∨ k = 1 ∨ k = 2 ∨ k = 3 ∨ k = 4 := by omega
 rcases h5 with rfl | rfl | rfl | rfl | rfl <;> rfl
set_option linter.unusedSimpArgs false in
set_option maxRecDepth 100000 in
set_option maxHeartbeats 8000000 in
theorem l3Step_any (k : Nat) (c : Int) (w : World) (hk : k < 5) :
    Calls Tryz.prog 69 #[bkA k, .int .u8 c] w fun e w' => e = .returned (.tuple #[bsV (nx k c), .bool (decide (nx k c < 5))]) ∧ Below w.heap.size w w' := by
  have HBB : Hid (∀ a b, Below w.heap.size w ((w.alloc a).alloc b)) := fun a b => ((Below.refl _ _).alloc (Nat.le_refl _) _).alloc (by simp) _
  have h5 : k = 0 ∨ k = 1 ∨ k = 2 ∨ k = 3 ∨ k = 4 := by omega
  rcases h5 with rfl | rfl | rfl | rfl | rfl
  ·show Calls Tryz.prog 69 #[.agg #[.int .i64 0, .bool false, .bool false], .int .u8 c] w _
   by_cases h0 : c = 111
   ·subst h0
    have HJ : Hid (nx 0 111 = 1) := rfl
    go_enter Tryz.func69, Tryz.ntmps69
    go_wp2_with fail
    exact bodyPost_ret (v := .tuple #[.agg #[.int .i64 0, .bool false, .bool true], .bool true]) (by simp [results, Tryz.results69, go_sem]) rfl ⟨by rw [HJ.out]; rfl, by
     have h0 := HBB.out
     repeat (with_reducible first | exact h0 _ _ | refine Below.setCell ?_ (by dsimp only; omega) _)⟩
   have g0 : (c == 111) = false := by simp [h0]
   by_cases h1 : c = 114
   ·subst h1
    have HJ : Hid (nx 0 114 = 5) := rfl
    clear h0 g0
    go_enter Tryz.func69, Tryz.ntmps69
    go_wp2_with fail
    exact bodyPost_ret (v := .tuple #[.agg #[.int .i64 0, .bool false, .bool false], .bool false]) (by simp [results, Tryz.results69, go_sem]) rfl ⟨by rw [HJ.out]; rfl, by
     have h0 := HBB.out
     repeat (with_reducible first | exact h0 _ _ | refine Below.setCell ?_ (by dsimp only; omega) _)⟩
   have g1 : (c == 114) = false := by simp [h1]
   by_cases h2 : c = 97
   ·subst h2
    have HJ : Hid (nx 0 97 = 5) := rfl
    clear h0 h1 g0 g1
    go_enter Tryz.func69, Tryz.ntmps69
    go_wp2_with fail
    exact bodyPost_ret (v := .tuple #[.agg #[.int .i64 0, .bool false, .bool false], .bool false]) (by simp [results, Tryz.results69, go_sem]) rfl ⟨by rw [HJ.out]; rfl, by
     have h0 := HBB.out
     repeat (with_reducible first | exact h0 _ _ | refine Below.setCell ?_ (by dsimp only; omega) _)⟩
   have g2 : (c == 97) = false := by simp [h2]
   by_cases h3 : c = 99
   ·subst h3
    have HJ : Hid (nx 0 99 = 5) := rfl
    clear h0 h1 h2 g0 g1 g2
    go_enter Tryz.func69, Tryz.ntmps69
    go_wp2_with fail
    exact bodyPost_ret (v := .tuple #[.agg #[.int .i64 0, .bool false, .bool false], .bool false]) (by simp [results, Tryz.results69, go_sem]) rfl ⟨by rw [HJ.out]; rfl, by
     have h0 := HBB.out
     repeat (with_reducible first | exact h0 _ _ | refine Below.setCell ?_ (by dsimp only; omega) _)⟩
   have g3 : (c == 99) = false := by simp [h3]
   by_cases h4 : c = 101
   ·subst h4
    have HJ : Hid (nx 0 101 = 5) := rfl
    clear h0 h1 h2 h3 g0 g1 g2 g3
    go_enter Tryz.func69, Tryz.ntmps69
    go_wp2_with fail
    exact bodyPost_ret (v := .tuple #[.agg #[.int .i64 0, .bool false, .bool false], .bool false]) (by simp [results, Tryz.results69, go_sem]) rfl ⟨by rw [HJ.out]; rfl, by
     have h0 := HBB.out
     repeat (with_reducible first | exact h0 _ _ | refine Below.setCell ?_ (by dsimp only; omega) _)⟩
   have g4 : (c == 101) = false := by simp [h4]
   by_cases h5 : c = 108
   ·subst h5
    have HJ : Hid (nx 0 108 = 5) := rfl
    clear h0 h1 h2 h3 h4 g0 g1 g2 g3 g4
    go_enter Tryz.func69, Tryz.ntmps69
    go_wp2_with fail
    exact bodyPost_ret (v := .tuple #[.agg #[.int .i64 0, .bool false, .bool false], .bool false]) (by simp [results, Tryz.results69, go_sem]) rfl ⟨by rw [HJ.out]; rfl, by
     have h0 := HBB.out
     repeat (with_reducible first | exact h0 _ _ | refine Below.setCell ?_ (by dsimp only; omega) _)⟩
   have g5 : (c == 108) = false := by simp [h5]
   by_cases h6 : c = 102
   ·subst h6
    have HJ : Hid (nx 0 102 = 5) := rfl
    clear h0 h1 h2 h3 h4 h5 g0 g1 g2 g3 g4 g5
    go_enter Tryz.func69, Tryz.ntmps69
    go_wp2_with fail
    exact bodyPost_ret (v := .tuple #[.agg #[.int .i64 0, .bool false, .bool false], .bool false]) (by simp [results, Tryz.results69, go_sem]) rfl ⟨by rw [HJ.out]; rfl, by
     have h0 := HBB.out
     repeat (with_reducible first | exact h0 _ _ | refine Below.setCell ?_ (by dsimp only; omega) _)⟩
   have g6 : (c == 102) = false := by simp [h6]
   have HJ : Hid (nx 0 c = 5) := by show _ = _; simp [nx, h0, h1, h2, h3, h4, h5, h6]
   clear h0 h1 h2 h3 h4 h5 h6
   go_enter Tryz.func69, Tryz.ntmps69
   go_wp2_with fail
   exact bodyPost_ret (v := .tuple #[.agg #[.int .i64 0, .bool false, .bool false], .bool false]) (by simp [results, Tryz.results69, go_sem]) rfl ⟨by rw [HJ.out]; rfl, by
    have h0 := HBB.out
    repeat (with_reducible first | exact h0 _ _ | refine Below.setCell ?_ (by dsimp only; omega) _)⟩
  ·show Calls Tryz.prog 69 #[.agg #[.int .i64 0, .bool false, .bool true], .int .u8 c] w _
   by_cases h0 : c = 111
   ·subst h0
    have HJ : Hid (nx 1 111 = 5) := rfl
    go_enter Tryz.func69, Tryz.ntmps69
    go_wp2_with fail
    exact bodyPost_ret (v := .tuple #[.agg #[.int .i64 0, .bool false, .bool false], .bool false]) (by simp [results, Tryz.results69, go_sem]) rfl ⟨by rw [HJ.out]; rfl, by
     have h0 := HBB.out
     repeat (with_reducible first | exact h0 _ _ | refine Below.setCell ?_ (by dsimp only; omega) _)⟩
   have g0 : (c == 111) = false := by simp [h0]
   by_cases h1 : c = 114
   ·subst h1
    have HJ : Hid (nx 1 114 = 0) := rfl
    clear h0 g0
    go_enter Tryz.func69, Tryz.ntmps69
    go_wp2_with fail
    exact bodyPost_ret (v := .tuple #[.agg #[.int .i64 0, .bool false, .bool false], .bool true]) (by simp [results, Tryz.results69, go_sem]) rfl ⟨by rw [HJ.out]; rfl, by
     have h0 := HBB.out
     repeat (with_reducible first | exact h0 _ _ | refine Below.setCell ?_ (by dsimp only; omega) _)⟩
   have g1 : (c == 114) = false := by simp [h1]
   by_cases h2 : c = 97
   ·subst h2
    have HJ : Hid (nx 1 97 = 2) := rfl
    clear h0 h1 g0 g1
    go_enter Tryz.func69, Tryz.ntmps69
    go_wp2_with fail
    exact bodyPost_ret (v := .tuple #[.agg #[.int .i64 1, .bool false, .bool false], .bool true]) (by simp [results, Tryz.results69, go_sem]) rfl ⟨by rw [HJ.out]; rfl, by
     have h0 := HBB.out
     repeat (with_reducible first | exact h0 _ _ | refine Below.setCell ?_ (by dsimp only; omega) _)⟩
   have g2 : (c == 97) = false := by simp [h2]
   by_cases h3 : c = 99
   ·subst h3
    have HJ : Hid (nx 1 99 = 5) := rfl
    clear h0 h1 h2 g0 g1 g2
    go_enter Tryz.func69, Tryz.ntmps69
    go_wp2_with fail
    exact bodyPost_ret (v := .tuple #[.agg #[.int .i64 0, .bool false, .bool false], .bool false]) (by simp [results, Tryz.results69, go_sem]) rfl ⟨by rw [HJ.out]; rfl, by
     have h0 := HBB.out
     repeat (with_reducible first | exact h0 _ _ | refine Below.setCell ?_ (by dsimp only; omega) _)⟩
   have g3 : (c == 99) = false := by simp [h3]
   by_cases h4 : c = 101
   ·subst h4
    have HJ : Hid (nx 1 101 = 5) := rfl
    clear h0 h1 h2 h3 g0 g1 g2 g3
    go_enter Tryz.func69, Tryz.ntmps69
    go_wp2_with fail
    exact bodyPost_ret (v := .tuple #[.agg #[.int .i64 0, .bool false, .bool false], .bool false]) (by simp [results, Tryz.results69, go_sem]) rfl ⟨by rw [HJ.out]; rfl, by
     have h0 := HBB.out
     repeat (with_reducible first | exact h0 _ _ | refine Below.setCell ?_ (by dsimp only; omega) _)⟩
   have g4 : (c == 101) = false := by simp [h4]
   by_cases h5 : c = 108
   ·subst h5
    have HJ : Hid (nx 1 108 = 5) := rfl
    clear h0 h1 h2 h3 h4 g0 g1 g2 g3 g4
    go_enter Tryz.func69, Tryz.ntmps69
    go_wp2_with fail
    exact bodyPost_ret (v := .tuple #[.agg #[.int .i64 0, .bool false, .bool false], .bool false]) (by simp [results, Tryz.results69, go_sem]) rfl ⟨by rw [HJ.out]; rfl, by
     have h0 := HBB.out
     repeat (with_reducible first | exact h0 _ _ | refine Below.setCell ?_ (by dsimp only; omega) _)⟩
   have g5 : (c == 108) = false := by simp [h5]
   by_cases h6 : c = 102
   ·subst h6
    have HJ : Hid (nx 1 102 = 5) := rfl
    clear h0 h1 h2 h3 h4 h5 g0 g1 g2 g3 g4 g5
    go_enter Tryz.func69, Tryz.ntmps69
    go_wp2_with fail
    exact bodyPost_ret (v := .tuple #[.agg #[.int .i64 0, .bool false, .bool false], .bool false]) (by simp [results, Tryz.results69, go_sem]) rfl ⟨by rw [HJ.out]; rfl, by
     have h0 := HBB.out
     repeat (with_reducible first | exact h0 _ _ | refine Below.setCell ?_ (by dsimp only; omega) _)⟩
   have g6 : (c == 102) = false := by simp [h6]
   have HJ : Hid (nx 1 c = 5) := by show _ = _; simp [nx, h0, h1, h2, h3, h4, h5, h6]
   clear h0 h1 h2 h3 h4 h5 h6
   go_enter Tryz.func69, Tryz.ntmps69
   go_wp2_with fail
   exact bodyPost_ret (v := .tuple #[.agg #[.int .i64 0, .bool false, .bool false], .bool false]) (by simp [results, Tryz.results69, go_sem]) rfl ⟨by rw [HJ.out]; rfl, by
    have h0 := HBB.out
    repeat (with_reducible first | exact h0 _ _ | refine Below.setCell ?_ (by dsimp only; omega) _)⟩
  ·show Calls Tryz.prog 69 #[.agg #[.int .i64 1, .bool false, .bool false], .int .u8 c] w _
   by_cases h0 : c = 111
   ·subst h0
    have HJ : Hid (nx 2 111 = 5) := rfl
    go_enter Tryz.func69, Tryz.ntmps69
    go_wp2_with fail
    exact bodyPost_ret (v := .tuple #[.agg #[.int .i64 0, .bool false, .bool false], .bool false]) (by simp [results, Tryz.results69, go_sem]) rfl ⟨by rw [HJ.out]; rfl, by
     have h0 := HBB.out
     repeat (with_reducible first | exact h0 _ _ | refine Below.setCell ?_ (by dsimp only; omega) _)⟩
   have g0 : (c == 111) = false := by simp [h0]
   by_cases h1 : c = 114
   ·subst h1
    have HJ : Hid (nx 2 114 = 5) := rfl
    clear h0 g0
    go_enter Tryz.func69, Tryz.ntmps69
    go_wp2_with fail
    exact bodyPost_ret (v := .tuple #[.agg #[.int .i64 0, .bool false, .bool false], .bool false]) (by simp [results, Tryz.results69, go_sem]) rfl ⟨by rw [HJ.out]; rfl, by
     have h0 := HBB.out
     repeat (with_reducible first | exact h0 _ _ | refine Below.setCell ?_ (by dsimp only; omega) _)⟩
   have g1 : (c == 114) = false := by simp [h1]
   by_cases h2 : c = 97
   ·subst h2
    have HJ : Hid (nx 2 97 = 5) := rfl
    clear h0 h1 g0 g1
    go_enter Tryz.func69, Tryz.ntmps69
    go_wp2_with fail
    exact bodyPost_ret (v := .tuple #[.agg #[.int .i64 0, .bool false, .bool false], .bool false]) (by simp [results, Tryz.results69, go_sem]) rfl ⟨by rw [HJ.out]; rfl, by
     have h0 := HBB.out
     repeat (with_reducible first | exact h0 _ _ | refine Below.setCell ?_ (by dsimp only; omega) _)⟩
   have g2 : (c == 97) = false := by simp [h2]
   by_cases h3 : c = 99
   ·subst h3
    have HJ : Hid (nx 2 99 = 0) := rfl
    clear h0 h1 h2 g0 g1 g2
    go_enter Tryz.func69, Tryz.ntmps69
    go_wp2_with fail
    exact bodyPost_ret (v := .tuple #[.agg #[.int .i64 0, .bool false, .bool false], .bool true]) (by simp [results, Tryz.results69, go_sem]) rfl ⟨by rw [HJ.out]; rfl, by
     have h0 := HBB.out
     repeat (with_reducible first | exact h0 _ _ | refine Below.setCell ?_ (by dsimp only; omega) _)⟩
   have g3 : (c == 99) = false := by simp [h3]
   by_cases h4 : c = 101
   ·subst h4
    have HJ : Hid (nx 2 101 = 3) := rfl
    clear h0 h1 h2 h3 g0 g1 g2 g3
    go_enter Tryz.func69, Tryz.ntmps69
    go_wp2_with fail
    exact bodyPost_ret (v := .tuple #[.agg #[.int .i64 2, .bool true, .bool false], .bool true]) (by simp [results, Tryz.results69, go_sem]) rfl ⟨by rw [HJ.out]; rfl, by
     have h0 := HBB.out
     repeat (with_reducible first | exact h0 _ _ | refine Below.setCell ?_ (by dsimp only; omega) _)⟩
   have g4 : (c == 101) = false := by simp [h4]
   by_cases h5 : c = 108
   ·subst h5
    have HJ : Hid (nx 2 108 = 5) := rfl
    clear h0 h1 h2 h3 h4 g0 g1 g2 g3 g4
    go_enter Tryz.func69, Tryz.ntmps69
    go_wp2_with fail
    exact bodyPost_ret (v := .tuple #[.agg #[.int .i64 0, .bool false, .bool false], .bool false]) (by simp [results, Tryz.results69, go_sem]) rfl ⟨by rw [HJ.out]; rfl, by
     have h0 := HBB.out
     repeat (with_reducible first | exact h0 _ _ | refine Below.setCell ?_ (by dsimp only; omega) _)⟩
   have g5 : (c == 108) = false := by simp [h5]
   by_cases h6 : c = 102
   ·subst h6
    have HJ : Hid (nx 2 102 = 5) := rfl
    clear h0 h1 h2 h3 h4 h5 g0 g1 g2 g3 g4 g5
    go_enter Tryz.func69, Tryz.ntmps69
    go_wp2_with fail
    exact bodyPost_ret (v := .tuple #[.agg #[.int .i64 0, .bool false, .bool false], .bool false]) (by simp [results, Tryz.results69, go_sem]) rfl ⟨by rw [HJ.out]; rfl, by
     have h0 := HBB.out
     repeat (with_reducible first | exact h0 _ _ | refine Below.setCell ?_ (by dsimp only; omega) _)⟩
   have g6 : (c == 102) = false := by simp [h6]
   have HJ : Hid (nx 2 c = 5) := by show _ = _; simp [nx, h0, h1, h2, h3, h4, h5, h6]
   clear h0 h1 h2 h3 h4 h5 h6
   go_enter Tryz.func69, Tryz.ntmps69
   go_wp2_with fail
   exact bodyPost_ret (v := .tuple #[.agg #[.int .i64 0, .bool false, .bool false], .bool false]) (by simp [results, Tryz.results69, go_sem]) rfl ⟨by rw [HJ.out]; rfl, by
    have h0 := HBB.out
    repeat (with_reducible first | exact h0 _ _ | refine Below.setCell ?_ (by dsimp only; omega) _)⟩
  ·show Calls Tryz.prog 69 #[.agg #[.int .i64 2, .bool true, .bool false], .int .u8 c] w _
   by_cases h0 : c = 111
   ·subst h0
    have HJ : Hid (nx 3 111 = 5) := rfl
    go_enter Tryz.func69, Tryz.ntmps69
    go_wp2_with fail
    exact bodyPost_ret (v := .tuple #[.agg #[.int .i64 0, .bool false, .bool false], .bool false]) (by simp [results, Tryz.results69, go_sem]) rfl ⟨by rw [HJ.out]; rfl, by
     have h0 := HBB.out
     repeat (with_reducible first | exact h0 _ _ | refine Below.setCell ?_ (by dsimp only; omega) _)⟩
   have g0 : (c == 111) = false := by simp [h0]
   by_cases h1 : c = 114
   ·subst h1
    have HJ : Hid (nx 3 114 = 5) := rfl
    clear h0 g0
    go_enter Tryz.func69, Tryz.ntmps69
    go_wp2_with fail
    exact bodyPost_ret (v := .tuple #[.agg #[.int .i64 0, .bool false, .bool false], .bool false]) (by simp [results, Tryz.results69, go_sem]) rfl ⟨by rw [HJ.out]; rfl, by
     have h0 := HBB.out
     repeat (with_reducible first | exact h0 _ _ | refine Below.setCell ?_ (by dsimp only; omega) _)⟩
   have g1 : (c == 114) = false := by simp [h1]
   by_cases h2 : c = 97
   ·subst h2
    have HJ : Hid (nx 3 97 = 5) := rfl
    clear h0 h1 g0 g1
    go_enter Tryz.func69, Tryz.ntmps69
    go_wp2_with fail
    exact bodyPost_ret (v := .tuple #[.agg #[.int .i64 0, .bool false, .bool false], .bool false]) (by simp [results, Tryz.results69, go_sem]) rfl ⟨by rw [HJ.out]; rfl, by
     have h0 := HBB.out
     repeat (with_reducible first | exact h0 _ _ | refine Below.setCell ?_ (by dsimp only; omega) _)⟩
   have g2 : (c == 97) = false := by simp [h2]
   by_cases h3 : c = 99
   ·subst h3
    have HJ : Hid (nx 3 99 = 5) := rfl
    clear h0 h1 h2 g0 g1 g2
    go_enter Tryz.func69, Tryz.ntmps69
    go_wp2_with fail
    exact bodyPost_ret (v := .tuple #[.agg #[.int .i64 0, .bool false, .bool false], .bool false]) (by simp [results, Tryz.results69, go_sem]) rfl ⟨by rw [HJ.out]; rfl, by
     have h0 := HBB.out
     repeat (with_reducible first | exact h0 _ _ | refine Below.setCell ?_ (by dsimp only; omega) _)⟩
   have g3 : (c == 99) = false := by simp [h3]
   by_cases h4 : c = 101
   ·subst h4
    have HJ : Hid (nx 3 101 = 5) := rfl
    clear h0 h1 h2 h3 g0 g1 g2 g3
    go_enter Tryz.func69, Tryz.ntmps69
    go_wp2_with fail
    exact bodyPost_ret (v := .tuple #[.agg #[.int .i64 0, .bool false, .bool false], .bool false]) (by simp [results, Tryz.results69, go_sem]) rfl ⟨by rw [HJ.out]; rfl, by
     have h0 := HBB.out
     repeat (with_reducible first | exact h0 _ _ | refine Below.setCell ?_ (by dsimp only; omega) _)⟩
   have g4 : (c == 101) = false := by simp [h4]
   by_cases h5 : c = 108
   ·subst h5
    have HJ : Hid (nx 3 108 = 4) := rfl
    clear h0 h1 h2 h3 h4 g0 g1 g2 g3 g4
    go_enter Tryz.func69, Tryz.ntmps69
    go_wp2_with fail
    exact bodyPost_ret (v := .tuple #[.agg #[.int .i64 2, .bool false, .bool false], .bool true]) (by simp [results, Tryz.results69, go_sem]) rfl ⟨by rw [HJ.out]; rfl, by
     have h0 := HBB.out
     repeat (with_reducible first | exact h0 _ _ | refine Below.setCell ?_ (by dsimp only; omega) _)⟩
   have g5 : (c == 108) = false := by simp [h5]
   by_cases h6 : c = 102
   ·subst h6
    have HJ : Hid (nx 3 102 = 5) := rfl
    clear h0 h1 h2 h3 h4 h5 g0 g1 g2 g3 g4 g5
    go_enter Tryz.func69, Tryz.ntmps69
    go_wp2_with fail
    exact bodyPost_ret (v := .tuple #[.agg #[.int .i64 0, .bool false, .bool false], .bool false]) (by simp [results, Tryz.results69, go_sem]) rfl ⟨by rw [HJ.out]; rfl, by
     have h0 := HBB.out
     repeat (with_reducible first | exact h0 _ _ | refine Below.setCell ?_ (by dsimp only; omega) _)⟩
   have g6 : (c == 102) = false := by simp [h6]
   have HJ : Hid (nx 3 c = 5) := by show _ = _; simp [nx, h0, h1, h2, h3, h4, h5, h6]
   clear h0 h1 h2 h3 h4 h5 h6
   go_enter Tryz.func69, Tryz.ntmps69
   go_wp2_with fail
   exact bodyPost_ret (v := .tuple #[.agg #[.int .i64 0, .bool false, .bool false], .bool false]) (by simp [results, Tryz.results69, go_sem]) rfl ⟨by rw [HJ.out]; rfl, by
    have h0 := HBB.out
    repeat (with_reducible first | exact h0 _ _ | refine Below.setCell ?_ (by dsimp only; omega) _)⟩
  ·show Calls Tryz.prog 69 #[.agg #[.int .i64 2, .bool false, .bool false], .int .u8 c] w _
   by_cases h0 : c = 111
   ·subst h0
    have HJ : Hid (nx 4 111 = 5) := rfl
    go_enter Tryz.func69, Tryz.ntmps69
    go_wp2_with fail
    exact bodyPost_ret (v := .tuple #[.agg #[.int .i64 0, .bool false, .bool false], .bool false]) (by simp [results, Tryz.results69, go_sem]) rfl ⟨by rw [HJ.out]; rfl, by
     have h0 := HBB.out
     repeat (with_reducible first | exact h0 _ _ | refine Below.setCell ?_ (by dsimp only; omega) _)⟩
   have g0 : (c == 111) = false := by simp [h0]
   by_cases h1 : c = 114
   ·subst h1
    have HJ : Hid (nx 4 114 = 5) := rfl
    clear h0 g0
    go_enter Tryz.func69, Tryz.ntmps69
    go_wp2_with fail
    exact bodyPost_ret (v := .tuple #[.agg #[.int .i64 0, .bool false, .bool false], .bool false]) (by simp [results, Tryz.results69, go_sem]) rfl ⟨by rw [HJ.out]; rfl, by
     have h0 := HBB.out
     repeat (with_reducible first | exact h0 _ _ | refine Below.setCell ?_ (by dsimp only; omega) _)⟩
   have g1 : (c == 114) = false := by simp [h1]
   by_cases h2 : c = 97
   ·subst h2
    have HJ : Hid (nx 4 97 = 5) := rfl
    clear h0 h1 g0 g1
    go_enter Tryz.func69, Tryz.ntmps69
    go_wp2_with fail
    exact bodyPost_ret (v := .tuple #[.agg #[.int .i64 0, .bool false, .bool false], .bool false]) (by simp [results, Tryz.results69, go_sem]) rfl ⟨by rw [HJ.out]; rfl, by
     have h0 := HBB.out
     repeat (with_reducible first | exact h0 _ _ | refine Below.setCell ?_ (by dsimp only; omega) _)⟩
   have g2 : (c == 97) = false := by simp [h2]
   by_cases h3 : c = 99
   ·subst h3
    have HJ : Hid (nx 4 99 = 5) := rfl
    clear h0 h1 h2 g0 g1 g2
    go_enter Tryz.func69, Tryz.ntmps69
    go_wp2_with fail
    exact bodyPost_ret (v := .tuple #[.agg #[.int .i64 0, .bool false, .bool false], .bool false]) (by simp [results, Tryz.results69, go_sem]) rfl ⟨by rw [HJ.out]; rfl, by
     have h0 := HBB.out
     repeat (with_reducible first | exact h0 _ _ | refine Below.setCell ?_ (by dsimp only; omega) _)⟩
   have g3 : (c == 99) = false := by simp [h3]
   by_cases h4 : c = 101
   ·subst h4
    have HJ : Hid (nx 4 101 = 5) := rfl
    clear h0 h1 h2 h3 g0 g1 g2 g3
    go_enter Tryz.func69, Tryz.ntmps69
    go_wp2_with fail
    exact bodyPost_ret (v := .tuple #[.agg #[.int .i64 0, .bool false, .bool false], .bool false]) (by simp [results, Tryz.results69, go_sem]) rfl ⟨by rw [HJ.out]; rfl, by
     have h0 := HBB.out
     repeat (with_reducible first | exact h0 _ _ | refine Below.setCell ?_ (by dsimp only; omega) _)⟩
   have g4 : (c == 101) = false := by simp [h4]
   by_cases h5 : c = 108
   ·subst h5
    have HJ : Hid (nx 4 108 = 5) := rfl
    clear h0 h1 h2 h3 h4 g0 g1 g2 g3 g4
    go_enter Tryz.func69, Tryz.ntmps69
    go_wp2_with fail
    exact bodyPost_ret (v := .tuple #[.agg #[.int .i64 0, .bool false, .bool false], .bool false]) (by simp [results, Tryz.results69, go_sem]) rfl ⟨by rw [HJ.out]; rfl, by
     have h0 := HBB.out
     repeat (with_reducible first | exact h0 _ _ | refine Below.setCell ?_ (by dsimp only; omega) _)⟩
   have g5 : (c == 108) = false := by simp [h5]
   by_cases h6 : c = 102
   ·subst h6
    have HJ : Hid (nx 4 102 = 0) := rfl
    clear h0 h1 h2 h3 h4 h5 g0 g1 g2 g3 g4 g5
    go_enter Tryz.func69, Tryz.ntmps69
    go_wp2_with fail
    exact bodyPost_ret (v := .tuple #[.agg #[.int .i64 0, .bool false, .bool false], .bool true]) (by simp [results, Tryz.results69, go_sem]) rfl ⟨by rw [HJ.out]; rfl, by
     have h0 := HBB.out
     repeat (with_reducible first | exact h0 _ _ | refine Below.setCell ?_ (by dsimp only; omega) _)⟩
   have g6 : (c == 102) = false := by simp [h6]
   have HJ : Hid (nx 4 c = 5) := by show _ = _; simp [nx, h0, h1, h2, h3, h4, h5, h6]
   clear h0 h1 h2 h3 h4 h5 h6
   go_enter Tryz.func69, Tryz.ntmps69
   go_wp2_with fail
   exact bodyPost_ret (v := .tuple #[.agg #[.int .i64 0, .bool false, .bool false], .bool false]) (by simp [results, Tryz.results69, go_sem]) rfl ⟨by rw [HJ.out]; rfl, by
    have h0 := HBB.out
    repeat (with_reducible first | exact h0 _ _ | refine Below.setCell ?_ (by dsimp only; omega) _)⟩
end Go.Proofs.YtlkdmpfifpkpaaaGreatDoor

