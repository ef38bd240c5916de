/-
  Rows of texts; hasText, l3Has.
-/
import Derived.Test.YtokddeoliieofaaKd
namespace Go.Proofs.Ytokddeoliieofaa
open Go.RowKit

theorem elStr : Elem Try.prog 69 9 (.string ⟨#[]⟩) 1 16 := ⟨Try.underlying69, by kernel_rfl, rfl, by decide⟩
def sF (l : List ByteArray) (i : Nat) : ByteArray := (l[i]?).getD ⟨#[]⟩
theorem sF_old {l : List ByteArray} {z : ByteArray} {i : Nat} (h : i < l.length) : sF (l ++ [z]) i = sF l i := by
  unfold sF
  rw [List.getElem?_append_left h]
theorem sF_new {l : List ByteArray} {z : ByteArray} : sF (l ++ [z]) l.length = z := by
  unfold sF
  simp
theorem sF_at {l : List ByteArray} {i : Nat} (h : i < l.length) : sF l i = l[i] := by
  unfold sF
  rw [List.getElem?_eq_getElem h]; rfl
/-- a row of texts of its own -/
def OwnS (w : World) (g cap : Nat) (l : List ByteArray) : Prop := Own w g cap l.length 1 9 (fun i => .string (sF l i))
theorem OwnS.cell {w : World} {g cap : Nat} {l : List ByteArray} (h : OwnS w g cap l) {i : Nat} (hi : i < l.length) : w.cell? ⟨g, i, none⟩ = some (.string (sF l i)) := Own.cell1 h hi
theorem tlx_ne {a b : ByteArray} (h : ¬ a = b) : (a.toList == b.toList) = false := by
  rw [ByteArray.toList_eq, ByteArray.toList_eq]
  cases e : (a.data.toList == b.data.toList)
  · rfl
  · exfalso
    apply h
    have e2 : a.data.toList = b.data.toList := by simpa using e
    apply ByteArray.ext
    exact Array.ext' e2
theorem tlx_eq {a b : ByteArray} (h : a = b) : (a.toList == b.toList) = true := by rw [h]; simp
/-- a text is in a list -/
def hsB (l : List ByteArray) (x : ByteArray) : Bool := l.any fun y => y.toList == x.toList
theorem hs_yes {l : List ByteArray} {x : ByteArray} {i : Nat} (hi : i < l.length) (h : sF l i = x) : hsB l x = true := by
  rw [sF_at hi] at h
  exact List.any_eq_true.2 ⟨_, List.getElem_mem hi, tlx_eq h⟩
theorem hs_no {l : List ByteArray} {x : ByteArray} (h : ∀ j, j < l.length → sF l j ≠ x) : hsB l x = false := by
  cases e : hsB l x
  · rfl
  exfalso
  obtain ⟨y, hm, e⟩ := List.any_eq_true.1 e
  obtain ⟨j, hj, e2⟩ := List.mem_iff_getElem.1 hm
  have h2 := h j hj
  rw [sF_at hj, e2] at h2
  have h3 := tlx_ne h2
  rw [h3] at e
  cases e
set_option maxRecDepth 100000 in
set_option maxHeartbeats 1000000 in
theorem hasText_any (g cap : Nat) (l : List ByteArray) (x : ByteArray) (w : World) (hn : l.length ≤ 1000000) (hc : OwnS w g cap l) :
    Calls Try.prog 89 #[.slice (some ⟨g, 0, none⟩) l.length cap, .string x] w fun e w' => e = .returned (.bool (hsB l x)) ∧ w = w' := by
  have HO := Lib.hid hc
  clear hc
  go_enter Try.func89, Try.ntmps89
  go_wp2_with fail
  go_loopw [6, 9] (fun _ i wr => ∃ k : Nat, k ≤ l.length ∧ i = .int .i64 k ∧ w = wr ∧ Hid (∀ j, j < k → sF l j ≠ x)) (fun _ i _ => l.length - (intOf i).toNat)
  case atStart => exact ⟨0, Nat.zero_le _, rfl, rfl, fun j hj => by omega⟩
  case round =>
    obtain ⟨k, hk, rfl, rfl, HJ⟩ := hrel
    by_cases hlt : k < l.length
    · have hcc := OwnS.cell HO.out hlt
      by_cases he : sF l k = x
      · have HV : Hid (hsB l x = true) := hs_yes hlt he
        have htl := tlx_eq he
        clear he
        go_wp2_with fail
        go_ret
        exact ⟨by rw [HV.out]; rfl, rfl⟩
      · have HJ2 : Hid (∀ j, j < k + 1 → sF l j ≠ x) := fun j hj => by
          rcases Nat.lt_or_ge j k with h | h
          · exact HJ.out j h
          · obtain rfl : j = k := by omega
            exact he
        have htl := tlx_ne he
        clear he
        go_wp2_with fail
        go_roundw
        case rel => exact ⟨k + 1, by omega, by go_num, by first | exact rfl | exact trivial, HJ2.out⟩
        case measure => simp [intOf]; omega
    · obtain rfl : k = l.length := by omega
      have HV : Hid (hsB l x = false) := hs_no HJ.out
      go_wp2_with fail
      go_ret
      exact ⟨by rw [HV.out]; rfl, rfl⟩
set_option maxRecDepth 100000 in
set_option maxHeartbeats 1000000 in
theorem l3Has_any (g cap : Nat) (l : List ByteArray) (x : ByteArray) (w : World) (hn : l.length ≤ 1000000) (hc : OwnS w g cap l) :
    Calls Try.prog 108 #[.slice (some ⟨g, 0, none⟩) l.length cap, .string x] w fun e w' => e = .returned (.bool (hsB l x)) ∧ w = w' := by
  have HO := Lib.hid hc
  clear hc
  go_enter Try.func108, Try.ntmps108
  go_wp2_with fail
  go_loopw [5] (fun i wr => ∃ k : Nat, k ≤ l.length ∧ i = .int .i64 k ∧ w = wr ∧ Hid (∀ j, j < k → sF l j ≠ x)) (fun i _ => l.length - (intOf i).toNat)
  case atStart => exact ⟨0, Nat.zero_le _, rfl, rfl, fun j hj => by omega⟩
  case round =>
    obtain ⟨k, hk, rfl, rfl, HJ⟩ := hrel
    by_cases hlt : k < l.length
    · have hcc := OwnS.cell HO.out hlt
      by_cases he : sF l k = x
      · have HV : Hid (hsB l x = true) := hs_yes hlt he
        have htl := tlx_eq he
        clear he
        go_wp2_with fail
        go_ret
        exact ⟨by rw [HV.out]; rfl, rfl⟩
      · have HJ2 : Hid (∀ j, j < k + 1 → sF l j ≠ x) := fun j hj => by
          rcases Nat.lt_or_ge j k with h | h
          · exact HJ.out j h
          · obtain rfl : j = k := by omega
            exact he
        have htl := tlx_ne he
        clear he
        go_wp2_with fail
        go_roundw
        case rel => exact ⟨k + 1, by omega, by go_num, by first | exact rfl | exact trivial, HJ2.out⟩
        case measure => simp [intOf]; omega
    · obtain rfl : k = l.length := by omega
      have HV : Hid (hsB l x = false) := hs_no HJ.out
      go_wp2_with fail
      go_ret
      exact ⟨by rw [HV.out]; rfl, rfl⟩
/-- a text with one event put into it -/
def insT (t : ByteArray) (p i : Nat) : ByteArray := t.extract 0 p ++ (⟨#[97, 99, 101, 102, 108, 111, 114]⟩ : ByteArray).extract i (i + 1) ++ t.extract p t.size
/-- the texts found before a try -/
def repF (t : ByteArray) : Nat → List ByteArray
  | 0 => []
  | m + 1 => if (lgB (insT t (m / 7) (m % 7)) && !hsB (repF t m) (insT t (m / 7) (m % 7))) = true then repF t m ++ [insT t (m / 7) (m % 7)] else repF t m
theorem repF_len (t : ByteArray) : ∀ m, (repF t m).length ≤ m
  | 0 => Nat.le_refl _
  | m + 1 => by
    have := repF_len t m
    simp only [repF]
    split
    · simp; omega
    · omega
def repL (t : ByteArray) : List ByteArray := if t.size < 30 then repF t (7 * (t.size + 1)) else []
/-- between two rounds of BlockRepair -/
structure BpI (w wr : World) (g cap : Nat) (l : List ByteArray) : Prop where
  ow : OwnS wr g cap l
  gz : w.heap.size ≤ g
  bl : Below w.heap.size w wr
theorem BpI.keep {w wr wa : World} {g cap : Nat} {l : List ByteArray} (h : BpI w wr g cap l) (hb : Below wr.heap.size wr wa) : BpI w wa g cap l :=
  ⟨Own.below h.ow hb (Own.lt h.ow), h.gz, h.bl.trans (hb.mono h.bl.size)⟩
theorem BpI.push {w wr wa : World} {g cap g' c' : Nat} {l : List ByteArray} {z : ByteArray} (h : BpI w wr g cap l) (HA : Own wa g' c' (l.length + 1) 1 9 (fun q => .string (sF (l ++ [z]) q))) (hgr : wr.grownBy wa (some g)) (hd : (g' = g ∧ c' = cap) ∨ wr.heap.size < g') :
    BpI w wa g' c' (l ++ [z]) := by
  have hgz := h.gz
  have hbs := h.bl.size
  refine ⟨?_, ?_, h.bl.trans (below_of_grown hgr hgz hbs)⟩
  · unfold OwnS
    rw [List.length_append]
    exact HA
  · rcases hd with ⟨q, _⟩ | q <;> omega
end Go.Proofs.Ytokddeoliieofaa
