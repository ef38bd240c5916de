/-
  The draw of notes: l91Legal, l91Broken, l92Notes.
-/
import Derived.Test.YtokddeoliieofaaKj
import Derived.Test.YtokddeoliieofaaKn
namespace Go.Proofs.Ytokddeoliieofaa
open Go.RowKit

theorem l91Legal_any (R m : Nat) (w : World) (hm : m ≤ 5000) (hr : RdL w R m) :
    Calls Try.prog 117 #[.pointer (some ⟨R, 0, none⟩)] w fun e w' => (∃ t : ByteArray, e = .returned (.string t) ∧ t.size ≤ 33) ∧ RdL w' R (m + 40) ∧ w.grownBy w' (some R) := by
  have HEV : Hid (∀ (m n : Nat) W, m ≤ 10000 → n ≤ 1000 → RdL W R m → Calls Try.prog 125 #[.pointer (some ⟨R, 0, none⟩), .agg #[.int .i64 0, .bool false, .bool false], .int .i64 n] W fun e w' => (∃ t : ByteArray, e = .returned (.string t) ∧ t.size ≤ n + 2) ∧ RdL w' R (m + n + 2) ∧ W.grownBy w' (some R)) := fun m n W h1 h2 h3 => l91Events_any R m 0 n W h1 h2 h3
  have HP := Lib.hid (pickN_any R m 30 w (by omega) (by omega) hr)
  clear hr
  go_enter Try.func117, Try.ntmps117
  go_wp2_with fail
  refine HP.out.mono ?_
  rintro e w1 ⟨v, rfl, hv, hr1, hg1⟩
  have HR1 := Lib.hid hr1
  have HG1 := Lib.hid hg1
  clear hr1 hg1
  by_cases hv0 : v = 0
  · subst hv0
    have HE := Lib.hid (HEV.out (m + 1) 31 w1 (by omega) (by omega) HR1.out)
    go_wp2_with fail
    refine HE.out.mono ?_
    rintro e w2 ⟨⟨t, rfl, ht⟩, hr2, hg2⟩
    have HR2 := Lib.hid hr2
    have HG2 := Lib.hid (grownBy_trans HG1.out hg2)
    clear hr2 hg2
    go_wp2_with fail
    go_ret
    exact ⟨⟨t, rfl, by omega⟩, HR2.out.mono (by omega), HG2.out⟩
  · have hv1 : ((v : Int) == 0) = false := by simp; omega
    clear hv0
    go_wp2_with fail
    refine (pickN_any R (m + 1) 16 _ (by omega) (by omega) HR1.out).mono ?_
    rintro e w2 ⟨n, rfl, hn, hr2, hg2⟩
    have HR2 := Lib.hid hr2
    have HG2 := Lib.hid (grownBy_trans HG1.out hg2)
    clear hr2 hg2
    go_wp2_with fail
    refine (HEV.out (m + 1 + 1) n w2 (by omega) (by omega) HR2.out).mono ?_
    rintro e w3 ⟨⟨t, rfl, ht⟩, hr3, hg3⟩
    have HR3 := Lib.hid hr3
    have HG3 := Lib.hid (grownBy_trans HG2.out hg3)
    clear hr3 hg3
    go_wp2_with fail
    go_ret
    exact ⟨⟨t, rfl, by omega⟩, HR3.out.mono (by omega), HG3.out⟩
set_option linter.unusedSimpArgs false in
theorem l91Broken_any (R m : Nat) (w : World) (hm : m ≤ 5000) (hr : RdL w R m) :
    Calls Try.prog 98 #[.pointer (some ⟨R, 0, none⟩)] w fun e w' => (∃ t : ByteArray, e = .returned (.string t) ∧ t.size ≤ 33) ∧ RdL w' R (m + 42) ∧ w.grownBy w' (some R) := by
  have HLG := Lib.hid (l91Legal_any R m w hm hr)
  clear hr
  go_enter Try.func98, Try.ntmps98
  go_wp2_with fail
  refine HLG.out.mono ?_
  rintro e w1 ⟨⟨t, rfl, ht⟩, hr1, hg1⟩
  have HR1 := Lib.hid hr1
  have HG1 := Lib.hid hg1
  clear hr1 hg1
  by_cases h0 : (t.size : Int) = 0
  · have h1 : ¬ (0 : Int) < (t.size : Int) := by omega
    go_wp2_with fail
    go_ret
    exact ⟨⟨t, rfl, ht⟩, HR1.out.mono (by omega), HG1.out⟩
  have h1 : (0 : Int) < (t.size : Int) := by omega
  clear h0
  go_wp2_with fail
  refine (pickN_any R (m + 40) 3 _ (by omega) (by omega) HR1.out).mono ?_
  rintro e w2 ⟨v, rfl, hv, hr2, hg2⟩
  have HR2 := Lib.hid hr2
  have HG2 := Lib.hid (grownBy_trans HG1.out hg2)
  clear hr2 hg2
  by_cases hv0 : v = 0
  · subst hv0
    go_wp2_with fail
    go_ret
    exact ⟨⟨t, rfl, ht⟩, HR2.out.mono (by omega), HG2.out⟩
  have hv1 : (0 : Int) < (v : Int) := by omega
  clear hv0
  have HPK := Lib.hid (pickN_any R (m + 40 + 1) t.size w2 (by omega) (by omega) HR2.out)
  go_wp2_with fail
  refine HPK.out.mono ?_
  rintro e w3 ⟨k, rfl, hk, hr3, hg3⟩
  have HR3 := Lib.hid hr3
  have HG3 := Lib.hid (grownBy_trans HG2.out hg3)
  clear hr3 hg3
  go_wp2_with fail
  have hw1 : IntKind.i64.wrap ((k : Int) + 1) = (k : Int) + 1 := IntWalk.i64_in _ (by omega)
  have hw2 : ((k : Int) + 1).toNat = k + 1 := by omega
  have hw3 : (0 : Int) ≤ (k : Int) + 1 := by omega
  have hw4 : (k : Int) + 1 ≤ (t.size : Int) := by omega
  have hw5 : (k : Int) ≤ (t.size : Int) := by omega
  have hs1 : (t.extract 0 k).size ≤ 33 := by rw [ByteArray.size_extract]; omega
  have hs2 : (t.extract (k + 1) t.size).size ≤ 33 := by rw [ByteArray.size_extract]; omega
  have hs3 : (t.extract 0 k).size + (t.extract (k + 1) t.size).size ≤ 33 := by rw [ByteArray.size_extract, ByteArray.size_extract]; omega
  have hss : ¬ 9223372036854775807 < min k t.size + (t.size - (k + 1)) := by omega
  refine wp_region_held_drew (S := (fun _ => True)) (by kernel_rfl) trivial (fun hHeld => ?_)
  refine wpAnyH_take (i := 0) (oi := ?_) (v := ?_) ?_ (by kernel_rfl) (by kernel_rfl) (by kernel_rfl) ?_ ?_ (by assumption) ?_
  rotate_left 2
  · simp only [List.getElem?_toArray, List.getElem?_cons_succ, List.getElem?_cons_zero]; rfl
  · exact fun _ _ _ h => h
  · first
      | (refine Or.inr ⟨?_, ?_⟩ <;> rfl)
      | (refine Or.inl ⟨?_, ?_⟩; · rfl
         intro w hSw; (try dsimp only at hSw); go_simp; (try with_reducible rfl); done)
  try simp only [Act.put, List.setIfInBounds_toArray, List.set_cons_zero, List.set_cons_succ]
  refine wpAnyH_take (i := 1) (oi := ?_) (v := ?_) ?_ (by kernel_rfl) (by kernel_rfl) (by kernel_rfl) ?_ ?_ (by assumption) ?_
  rotate_left 2
  · simp only [List.getElem?_toArray, List.getElem?_cons_succ, List.getElem?_cons_zero]; rfl
  · exact fun _ _ _ h => h
  · first
      | (refine Or.inr ⟨?_, ?_⟩ <;> rfl)
      | (refine Or.inl ⟨?_, ?_⟩; · rfl
         intro w hSw; (try dsimp only at hSw); go_simp; (try with_reducible rfl); done)
  try simp only [Act.put, List.setIfInBounds_toArray, List.set_cons_zero, List.set_cons_succ]
  refine wpAnyH_take (i := 2) (oi := ?_) (v := ?_) ?_ (by kernel_rfl) (by kernel_rfl) (by kernel_rfl) ?_ ?_ (by assumption) ?_
  rotate_left 2
  · simp only [List.getElem?_toArray, List.getElem?_cons_succ, List.getElem?_cons_zero]; rfl
  · exact fun _ _ _ h => h
  · first
      | (refine Or.inr ⟨?_, ?_⟩ <;> rfl)
      | (refine Or.inl ⟨?_, ?_⟩; · rfl
         intro w hSw; (try dsimp only at hSw); go_simp; (try with_reducible rfl); done)
  try simp only [Act.put, List.setIfInBounds_toArray, List.set_cons_zero, List.set_cons_succ]
  refine wpAnyH_take (i := 3) (oi := ?_) (v := ?_) ?_ (by kernel_rfl) (by kernel_rfl) (by kernel_rfl) ?_ ?_ (by assumption) ?_
  rotate_left 2
  · simp only [List.getElem?_toArray, List.getElem?_cons_succ, List.getElem?_cons_zero]; rfl
  · exact fun _ _ _ h => h
  · first
      | (refine Or.inr ⟨?_, ?_⟩ <;> rfl)
      | (refine Or.inl ⟨?_, ?_⟩; · rfl
         intro w hSw; (try dsimp only at hSw); go_simp; (try with_reducible rfl); done)
  try simp only [Act.put, List.setIfInBounds_toArray, List.set_cons_zero, List.set_cons_succ]
  refine wpAnyH_take (i := 4) (oi := ?_) (v := ?_) ?_ (by kernel_rfl) (by kernel_rfl) (by kernel_rfl) ?_ ?_ (by assumption) ?_
  rotate_left 2
  · simp only [List.getElem?_toArray, List.getElem?_cons_succ, List.getElem?_cons_zero]; rfl
  · exact fun _ _ _ h => h
  · first
      | (refine Or.inr ⟨?_, ?_⟩ <;> rfl)
      | (refine Or.inl ⟨?_, ?_⟩; · rfl
         intro w hSw; (try dsimp only at hSw); go_simp; (try with_reducible rfl); done)
  try simp only [Act.put, List.setIfInBounds_toArray, List.set_cons_zero, List.set_cons_succ]
  refine wpAnyH_take (i := 5) (oi := ?_) (v := ?_) ?_ (by kernel_rfl) (by kernel_rfl) (by kernel_rfl) ?_ ?_ (by assumption) ?_
  rotate_left 2
  · simp only [List.getElem?_toArray, List.getElem?_cons_succ, List.getElem?_cons_zero]; rfl
  · exact fun _ _ _ h => h
  · first
      | (refine Or.inr ⟨?_, ?_⟩ <;> rfl)
      | (refine Or.inl ⟨?_, ?_⟩; · rfl
         intro w hSw; (try dsimp only at hSw); go_simp; (try with_reducible rfl); done)
  try simp only [Act.put, List.setIfInBounds_toArray, List.set_cons_zero, List.set_cons_succ]
  refine wpAnyH_take (i := 6) (oi := ?_) (v := ?_) ?_ (by kernel_rfl) (by kernel_rfl) (by kernel_rfl) ?_ ?_ (by assumption) ?_
  rotate_left 2
  · simp only [List.getElem?_toArray, List.getElem?_cons_succ, List.getElem?_cons_zero]; rfl
  · exact fun _ _ _ h => h
  · first
      | (refine Or.inr ⟨?_, ?_⟩ <;> rfl)
      | (refine Or.inl ⟨?_, ?_⟩; · rfl
         intro w hSw; (try dsimp only at hSw); go_simp; (try with_reducible rfl); done)
  try simp only [Act.put, List.setIfInBounds_toArray, List.set_cons_zero, List.set_cons_succ]
  clear hw1 hw2 hw3 hw4 hw5
  refine wpAnyH_take (i := 7) (oi := ?_) (v := ?_) ?_ (by kernel_rfl) (by kernel_rfl) (by kernel_rfl) ?_ ?_ (by assumption) ?_
  rotate_left 2
  · simp only [List.getElem?_toArray, List.getElem?_cons_succ, List.getElem?_cons_zero]; rfl
  · exact fun _ _ _ h => h
  · first
      | (refine Or.inr ⟨?_, ?_⟩ <;> rfl)
      | (refine Or.inl ⟨?_, ?_⟩; · rfl
         intro w hSw; (try dsimp only at hSw); go_simp; (try with_reducible rfl); done)
  try simp only [Act.put, List.setIfInBounds_toArray, List.set_cons_zero, List.set_cons_succ]
  refine wpAnyH_take (i := 8) (oi := ?_) (v := ?_) ?_ (by kernel_rfl) (by kernel_rfl) (by kernel_rfl) ?_ ?_ (by assumption) ?_
  rotate_left 2
  · simp only [List.getElem?_toArray, List.getElem?_cons_succ, List.getElem?_cons_zero]; rfl
  · exact fun _ _ _ h => h
  · first
      | (refine Or.inr ⟨?_, ?_⟩ <;> rfl)
      | (refine Or.inl ⟨?_, ?_⟩; · rfl
         intro w hSw; (try dsimp only at hSw); go_simp; (try with_reducible rfl); done)
  try simp only [Act.put, List.setIfInBounds_toArray, List.set_cons_zero, List.set_cons_succ]
  refine wpAnyH_done (by kernel_rfl) ?_ _
  go_wp2_with fail
  go_ret
  exact ⟨⟨_, rfl, by rw [ByteArray.size_append]; exact hs3⟩, (HR3.out.drewN 1).mono (by omega), grownBy_trans HG3.out (grownBy_drewN _ 1 _)⟩
/-- a row of notes of its own -/
def OwnN (w : World) (g cap : Nat) (ns : List (Int × ByteArray)) : Prop := Own w g cap ns.length 2 61 (mvF (nM ns) (nL ns))
theorem OwnN.nt {w : World} {g cap : Nat} {ns : List (Int × ByteArray)} (h : OwnN w g cap ns) : NtC w g 0 ns := MvsC.of_own h
theorem OwnN.ext {w : World} {g cap : Nat} {ns : List (Int × ByteArray)} (h : OwnN w g cap ns) (z : Int × ByteArray) : Own w g cap ns.length 2 61 (mvF (nM (ns ++ [z])) (nL (ns ++ [z]))) :=
  Own.congr h (mvF_congr (fun _ hk => (nM_old (z := z) hk).1.symm) (fun _ hk => (nM_old (z := z) hk).2.symm))
theorem ntF_new (ns : List (Int × ByteArray)) (z : Int × ByteArray) : ∀ j, j < 2 → [Value.int .i64 z.1, .string z.2][j]? = some (mvF (nM (ns ++ [z])) (nL (ns ++ [z])) (ns.length * 2 + j)) := fun j hj => by
  match j, hj with
  | 0, _ => unfold mvF; rw [if_pos (by omega), show (ns.length * 2 + 0) / 2 = ns.length by omega, nM_new.1]; rfl
  | 1, _ => unfold mvF; rw [if_neg (by omega), show (ns.length * 2 + 1) / 2 = ns.length by omega, nM_new.2]; rfl
/-- the first note with another minute, another letter -/
def set0 (ns : List (Int × ByteArray)) (a : Int) (l : ByteArray) : List (Int × ByteArray) := ns.set 0 (a, l)
theorem set0_len (ns : List (Int × ByteArray)) (a : Int) (l : ByteArray) : (set0 ns a l).length = ns.length := by simp [set0]
theorem set0_at {ns : List (Int × ByteArray)} (h : 0 < ns.length) (a : Int) (l : ByteArray) (i : Nat) : nM (set0 ns a l) i = upd (nM ns) 0 a i ∧ nL (set0 ns a l) i = upd (nL ns) 0 l i := by
  unfold nM nL set0 upd
  by_cases h0 : i = 0
  · subst h0
    simp [h]
  · rw [if_neg h0, if_neg h0, List.getElem?_set_ne (by omega)]
    exact ⟨rfl, rfl⟩
theorem OwnN.set0 {w : World} {g cap : Nat} {ns : List (Int × ByteArray)} (h : OwnN w g cap ns) (h0 : 0 < ns.length) (a : Int) (l : ByteArray) : OwnN ((w.setCell ⟨g, 0, none⟩ (.int .i64 a)).setCell ⟨g, 1, none⟩ (.string l)) g cap (Go.Proofs.Ytokddeoliieofaa.set0 ns a l) := by
  have h2 := Own.setMv h 0 a l
  unfold OwnN
  rw [set0_len]
  exact Own.congr h2 (mvF_congr (fun i _ => (set0_at h0 a l i).1.symm) (fun i _ => (set0_at h0 a l i).2.symm))
theorem OwnN.setM {w : World} {g cap : Nat} {ns : List (Int × ByteArray)} (h : OwnN w g cap ns) (h0 : 0 < ns.length) (a : Int) : OwnN (w.setCell ⟨g, 0, none⟩ (.int .i64 a)) g cap (Go.Proofs.Ytokddeoliieofaa.set0 ns a (nL ns 0)) := by
  unfold OwnN
  rw [set0_len]
  refine (Own.set h 0 (.int .i64 a)).congr fun i _ => ?_
  rw [mvF_congr (n := i + 1) (M' := upd (nM ns) 0 a) (L' := upd (nL ns) 0 (nL ns 0)) (fun k _ => (set0_at h0 a (nL ns 0) k).1) (fun k _ => (set0_at h0 a (nL ns 0) k).2) i (by omega), ← mvF_upd (M := nM ns) (L := nL ns) (k := 0) (a := a) (b := nL ns 0) i]
  by_cases e : i = 1
  · subst e; rfl
  · rw [if_neg (show ¬ i = 0 * 2 + 1 by omega)]
theorem OwnN.setL {w : World} {g cap : Nat} {ns : List (Int × ByteArray)} (h : OwnN w g cap ns) (h0 : 0 < ns.length) (l : ByteArray) : OwnN (w.setCell ⟨g, 1, none⟩ (.string l)) g cap (Go.Proofs.Ytokddeoliieofaa.set0 ns (nM ns 0) l) := by
  unfold OwnN
  rw [set0_len]
  refine (Own.set h 1 (.string l)).congr fun i _ => ?_
  rw [mvF_congr (n := i + 1) (M' := upd (nM ns) 0 (nM ns 0)) (L' := upd (nL ns) 0 l) (fun k _ => (set0_at h0 (nM ns 0) l k).1) (fun k _ => (set0_at h0 (nM ns 0) l k).2) i (by omega), ← mvF_upd (M := nM ns) (L := nL ns) (k := 0) (a := nM ns 0) (b := l) i]
  by_cases e : i = 0
  · subst e; rfl
  · rw [if_neg (show ¬ i = 0 * 2 by omega)]
/-- all notes of a list are small -/
def SmN (ns : List (Int × ByteArray)) : Prop := ∀ z, z ∈ ns → (-1 ≤ z.1 ∧ z.1 ≤ 2001) ∧ z.2.size ≤ 2
theorem SmN.snoc {ns : List (Int × ByteArray)} (h : SmN ns) {z : Int × ByteArray} (h1 : -1 ≤ z.1 ∧ z.1 ≤ 2001) (h2 : z.2.size ≤ 2) : SmN (ns ++ [z]) := fun y hy => by
  rcases List.mem_append.1 hy with q | q
  · exact h y q
  · rw [List.mem_singleton.1 q]; exact ⟨h1, h2⟩
theorem SmN.set0 {ns : List (Int × ByteArray)} (h : SmN ns) {a : Int} {l : ByteArray} (h1 : -1 ≤ a ∧ a ≤ 2001) (h2 : l.size ≤ 2) : SmN (Go.Proofs.Ytokddeoliieofaa.set0 ns a l) := fun y hy => by
  rcases List.mem_or_eq_of_mem_set hy with q | q
  · exact h y q
  · rw [q]; exact ⟨h1, h2⟩
theorem SmN.at {ns : List (Int × ByteArray)} (h : SmN ns) {i : Nat} (hi : i < ns.length) : (-1 ≤ nM ns i ∧ nM ns i ≤ 2001) ∧ (nL ns i).size ≤ 2 := by
  rw [nM_at hi, nL_at hi]
  exact h _ (List.getElem_mem hi)
/-- the minutes of the choice -/
def miF (j : Nat) : Int := if j = 0 then -1 else 2001
theorem miF_at {j : Nat} (h : j < 2) : (#[.int .i64 (-1), .int .i64 2001] : Array Value)[j]? = some (.int .i64 (miF j)) := by
  match j, h with
  | 0, _ => rfl
  | 1, _ => rfl
theorem miF_bd (j : Nat) : -1 ≤ miF j ∧ miF j ≤ 2001 := by unfold miF; split <;> omega
/-- drawn notes -/
def DNs (R M : Nat) (w : World) (e : Ending) (w' : World) : Prop :=
  ∃ g cap ns, e = .returned (.slice (some ⟨g, 0, none⟩) (List.length ns) cap) ∧ OwnN w' g cap ns ∧ w.heap.size ≤ g ∧ ns.length ≤ 33 ∧ SmN ns ∧ RdL w' R M ∧ w.grownBy w' (some R)
/-- between two rounds of l92Notes -/
structure NsI (w wr : World) (R g cap M : Nat) (ns : List (Int × ByteArray)) : Prop where
  ow : OwnN wr g cap ns
  gz : w.heap.size ≤ g
  sm : SmN ns
  rd : RdL wr R M
  hR : R < w.heap.size
  gr : w.grownBy wr (some R)
theorem NsI.pick {w wr w' : World} {R g cap M M' : Nat} {ns : List (Int × ByteArray)} (h : NsI w wr R g cap M ns) (hr : RdL w' R M') (hg : wr.grownBy w' (some R)) : NsI w w' R g cap M' ns := by
  have a1 := h.hR
  have a2 := h.gz
  exact ⟨Own.kept h.ow hg (by simp; omega), h.gz, h.sm, hr, h.hR, grownBy_trans h.gr hg⟩
set_option linter.unusedSimpArgs false in
set_option maxRecDepth 100000 in
set_option maxHeartbeats 4000000 in
theorem l92Notes_any (R m : Nat) (w : World) (hm : m ≤ 3000) (hr : RdL w R m) :
    Calls Try.prog 74 #[.pointer (some ⟨R, 0, none⟩)] w (DNs R (m + 100) w) := by
  have hlR := hr.lt
  have HBK := Lib.hid (l91Broken_any R m w (by omega) hr)
  clear hr
  go_enter Try.func74, Try.ntmps74
  go_wp2_with fail
  refine HBK.out.mono ?_
  rintro e w1 ⟨⟨s, rfl, hs⟩, hr1, hg1⟩
  have hz1 : w.heap.size ≤ w1.heap.size := hg1.size
  have HI1 : Hid (NsI w (w1.alloc (.cells #[] 61)) R w1.heap.size 0 (m + 42) []) := ⟨own_empty _ _ _ _, hz1, fun z hz => by simp at hz, hr1.alloc _, hlR, grownBy_trans hg1 (grownBy_below (below_all _ _) _)⟩
  clear hr1 hg1
  go_wp2_with fail
  refine (pickN_any R (m + 42) 60 _ (by omega) (by omega) HI1.out.rd).mono ?_
  rintro e w2 ⟨t0, rfl, ht0, hr2, hg2⟩
  have HI2 := Lib.hid (HI1.out.pick hr2 hg2)
  clear hr2 hg2 HI1
  go_wp2_with fail
  go_loopw [4, 5, 6] (fun o t i wr => ∃ k : Nat, k ≤ s.size ∧ i = .int .i64 k ∧ ∃ (T g cap : Nat) (ns : List (Int × ByteArray)), t = .int .i64 T ∧ T ≤ 60 + 4 * k ∧ o = .slice (some ⟨g, 0, none⟩) ns.length cap ∧ ns.length = k ∧ Hid (NsI w wr R g cap (m + 43 + k) ns)) (fun _ _ i _ => s.size - (intOf i).toNat)
  case atStart => exact ⟨0, Nat.zero_le _, rfl, t0, w1.heap.size, 0, [], rfl, by omega, rfl, rfl, HI2⟩
  case round =>
    obtain ⟨k, hk, rfl, T, g, cap, ns, rfl, hT, rfl, rfl, HI⟩ := hrel
    by_cases hlt : ns.length < s.size
    · have hli : (ns.length : Int) < (s.size : Int) := by omega
      go_wp2_with fail
      refine (pickN_any R (m + 43 + ns.length) 4 _ (by omega) (by omega) HI.out.rd).mono ?_
      rintro e w3 ⟨v, rfl, hv, hr3, hg3⟩
      have HI3 := Lib.hid (HI.out.pick hr3 hg3)
      clear hr3 hg3
      have hes := ex_size s ns.length
      have HN := Lib.hid (ntF_new ns ((T : Int) + v, s.extract ns.length (ns.length + 1)))
      have hgz := HI3.out.gz
      have hRz := HI3.out.hR
      have hki2 : (ns.length : Int) + 1 ≤ (s.size : Int) := by omega
      have HO3 : Hid (Own w3 g cap ns.length 2 61 (mvF (nM (ns ++ [((T : Int) + v, s.extract ns.length (ns.length + 1))])) (nL (ns ++ [((T : Int) + v, s.extract ns.length (ns.length + 1))])))) := OwnN.ext HI3.out.ow _
      go_wp2_with (at_builtin; refine wpList_push elMv rfl (.tmp 22) (.tmp 30) rfl HO3.out rfl [.int .i64 ((T : Int) + v), .string (s.extract ns.length (ns.length + 1))] (by show Value.slice _ 1 1 = _; simp) HN.out (fun _ _ => mvF_one _ _ _) (by unfold maxLen; omega) (by omega) ?_; intro g' c' wa HA hgr hd)
      have hz3 : w.heap.size ≤ w3.heap.size := HI3.out.gr.size
      have HI5 : Hid (NsI w wa R g' c' (m + 43 + ns.length + 1) (ns ++ [((T : Int) + v, s.extract ns.length (ns.length + 1))])) := by
        refine ⟨?_, ?_, HI3.out.sm.snoc (by show -1 ≤ (T : Int) + v ∧ (T : Int) + v ≤ 2001; omega) (by show (s.extract ns.length (ns.length + 1)).size ≤ 2; omega), HI3.out.rd.kept hgr (by omega), hRz, grow_new HI3.out.gr hgr hgz⟩
        · show Own _ _ _ _ _ _ _
          rw [List.length_append]
          exact HA
        · rcases hd with ⟨q, _⟩ | q
          · omega
          · omega
      clear HA hgr hd
      go_wp2_with fail
      go_roundw
      case rel => exact ⟨ns.length + 1, by omega, by go_num, T + v, g', c', _, by go_num, by omega, by simp, by simp, HI5⟩
      case measure => simp [intOf]; omega
    · have hks : ns.length ≤ 33 := by omega
      rcases Nat.eq_zero_or_pos ns.length with h0 | h0
      · have h1 : ¬ (0 : Int) < (ns.length : Int) := by omega
        clear h0
        go_wp2_with fail
        go_ret
        exact ⟨g, cap, ns, rfl, HI.out.ow, HI.out.gz, hks, HI.out.sm, HI.out.rd.mono (by omega), HI.out.gr⟩
      have h1 : (0 : Int) < (ns.length : Int) := by omega
      have HPK := Lib.hid (pickN_any R (m + 43 + ns.length) 40 wr (by omega) (by omega) HI.out.rd)
      go_wp2_with fail
      refine HPK.out.mono ?_
      rintro e w3 ⟨v, rfl, hv, hr3, hg3⟩
      have HI3 := Lib.hid (HI.out.pick hr3 hg3)
      clear hr3 hg3 HPK
      have hgz := HI3.out.gz
      have hRz := HI3.out.hR
      have hgl : g < w3.heap.size := Own.lt HI3.out.ow
      by_cases hv0 : v = 0
      · subst hv0
        have HIA : Hid (NsI w (w3.alloc (.cells #[.int .i64 (-1), .int .i64 2001] 3)) R g cap (m + 43 + ns.length + 1) ns) := ⟨Own.alloc HI3.out.ow _, HI3.out.gz, HI3.out.sm, HI3.out.rd.alloc _, HI3.out.hR, grownBy_trans HI3.out.gr (grownBy_below (below_all _ _) _)⟩
        have hyc : ∀ o, (w3.alloc (.cells #[.int .i64 (-1), .int .i64 2001] 3)).cell? ⟨w3.heap.size, o, none⟩ = (#[.int .i64 (-1), .int .i64 2001] : Array Value)[o]? := box_new w3 _ _
        have hyl : w3.heap.size < (w3.alloc (.cells #[.int .i64 (-1), .int .i64 2001] 3)).heap.size := by simp
        have hRn : w3.heap.size ≠ R := by have := HI3.out.rd.lt; omega
        have HPK := Lib.hid (pickN_any R (m + 43 + ns.length + 1) 2 _ (by omega) (by omega) HIA.out.rd)
        have HYC := Lib.hid hyc
        clear hyc
        go_wp2_with fail
        refine HPK.out.mono ?_
        rintro e w4 ⟨j, rfl, hj, hr4, hg4⟩
        have HI4 := Lib.hid (HIA.out.pick hr4 hg4)
        have hjc : w4.cell? ⟨w3.heap.size, j, none⟩ = some (.int .i64 (miF j)) := by rw [gcell hg4 w3.heap.size j hyl hRn, HYC.out]; exact miF_at hj
        have hjI : (j : Int) < 2 := by omega
        have hmb := miF_bd j
        generalize miF j = x at *
        have hgf := Own.free HI4.out.ow
        have hgc := Own.cell HI4.out.ow (i := 0) (by omega)
        have hgc' : w4.cell? ⟨g, 0, none⟩ = some (.int .i64 (nM ns 0)) := hgc
        have HE := Lib.hid (OwnN.setM HI4.out.ow h0 x)
        have HR5 : Hid (RdL (w4.setCell ⟨g, 0, none⟩ (.int .i64 x)) R (m + 43 + ns.length + 1 + 1)) := HI4.out.rd.set (by omega)
        have HG5 : Hid (w.grownBy (w4.setCell ⟨g, 0, none⟩ (.int .i64 x)) (some R)) := grow_new HI4.out.gr (grownBy_setCell _ _ _ _) hgz
        have HSM := Lib.hid (HI4.out.sm.set0 hmb (HI4.out.sm.at h0).2)
        have HLN := Lib.hid (set0_len ns x (nL ns 0))
        clear hr4 hg4 hgc HPK
        go_wp2_with fail
        go_ret
        exact ⟨g, cap, set0 ns x (nL ns 0), by rw [HLN.out]; rfl, HE.out, hgz, by rw [HLN.out]; exact hks, HSM.out, HR5.out.mono (by omega), HG5.out⟩
      have hv0' : ((v : Int) == 0) = false := by simp; omega
      clear hv0
      by_cases hv1 : v = 1
      · subst hv1
        have HIA : Hid (NsI w (w3.alloc (.cells #[.string ⟨#[]⟩, .string ⟨#[120]⟩, .string ⟨#[111, 97]⟩] 9)) R g cap (m + 43 + ns.length + 1) ns) := ⟨Own.alloc HI3.out.ow _, HI3.out.gz, HI3.out.sm, HI3.out.rd.alloc _, HI3.out.hR, grownBy_trans HI3.out.gr (grownBy_below (below_all _ _) _)⟩
        have hRn : w3.heap.size ≠ R := by have := HI3.out.rd.lt; omega
        have HOF := Lib.hid (of_any R (m + 43 + ns.length + 1) w3.heap.size 3 3 (exF ⟨#[]⟩ ⟨#[120]⟩ ⟨#[111, 97]⟩) (w3.alloc (.cells #[.string ⟨#[]⟩, .string ⟨#[120]⟩, .string ⟨#[111, 97]⟩] 9)) (by omega) (by omega) HIA.out.rd hRn (stC_three w3 _ _ _ _) (by simp))
        go_wp2_with fail
        refine HOF.out.mono ?_
        rintro e w4 ⟨⟨j, hj, rfl⟩, hr4, hg4⟩
        have HI4 := Lib.hid (HIA.out.pick hr4 hg4)
        have hxs : (exF ⟨#[]⟩ ⟨#[120]⟩ ⟨#[111, 97]⟩ j).size ≤ 2 := by
          unfold exF
          split
          · show 0 ≤ 2; omega
          · split
            · show 1 ≤ 2; omega
            · show 2 ≤ 2; omega
        generalize exF ⟨#[]⟩ ⟨#[120]⟩ ⟨#[111, 97]⟩ j = x at *
        have hgf := Own.free HI4.out.ow
        have hgc := Own.cell HI4.out.ow (i := 1) (by omega)
        have hgc' : w4.cell? ⟨g, 1, none⟩ = some (.string (nL ns 0)) := hgc
        have HE := Lib.hid (OwnN.setL HI4.out.ow h0 x)
        have HR5 : Hid (RdL (w4.setCell ⟨g, 1, none⟩ (.string x)) R (m + 43 + ns.length + 1 + 1)) := HI4.out.rd.set (by omega)
        have HG5 : Hid (w.grownBy (w4.setCell ⟨g, 1, none⟩ (.string x)) (some R)) := grow_new HI4.out.gr (grownBy_setCell _ _ _ _) hgz
        have HSM := Lib.hid (HI4.out.sm.set0 (HI4.out.sm.at h0).1 hxs)
        have HLN := Lib.hid (set0_len ns (nM ns 0) x)
        clear hr4 hg4 hgc
        go_wp2_with fail
        go_ret
        exact ⟨g, cap, set0 ns (nM ns 0) x, by rw [HLN.out]; rfl, HE.out, hgz, by rw [HLN.out]; exact hks, HSM.out, HR5.out.mono (by omega), HG5.out⟩
      have hv1' : ((v : Int) == 1) = false := by simp; omega
      clear hv1
      go_wp2_with fail
      go_ret
      exact ⟨g, cap, ns, rfl, HI3.out.ow, HI3.out.gz, hks, HI3.out.sm, HI3.out.rd.mono (by omega), HI3.out.gr⟩
end Go.Proofs.Ytokddeoliieofaa
