/-
  Registers: until, list.
-/
import Derived.Test.YtokddeoliieofaaKk
namespace Go.Proofs.Ytokddeoliieofaa
open Go.RowKit

/-- the notes up to a minute -/
def utL (ns : List (Int × ByteArray)) (m : Int) : List (Int × ByteArray) := ns.takeWhile fun z => decide (z.1 ≤ m)
theorem utL_take {ns : List (Int × ByteArray)} {m : Int} : ∀ {i : Nat}, i ≤ ns.length → (∀ j, j < i → nM ns j ≤ m) → (i = ns.length ∨ ¬ nM ns i ≤ m) → utL ns m = ns.take i := by
  unfold utL
  induction ns with
  | nil => intro i hi _ _; simp
  | cons z ns ih =>
    intro i hi h1 h2
    cases i with
    | zero =>
      rcases h2 with h2 | h2
      · simp at h2
      · have h3 : ¬ z.1 ≤ m := h2
        simp [h3]
    | succ i =>
      have h3 : z.1 ≤ m := h1 0 (by omega)
      rw [List.takeWhile_cons, if_pos (by simpa using h3), List.take_succ_cons]
      congr 1
      refine ih (by simp at hi; omega) (fun j hj => ?_) ?_
      · have := h1 (j + 1) (by omega)
        exact this
      · rcases h2 with h2 | h2
        · left; simp at h2; omega
        · right; exact h2
/-- a new register handed back -/
def UtRes (ns : List (Int × ByteArray)) (w : World) (e : Ending) (w' : World) : Prop :=
  (∃ q fs, e = .returned (.pointer (some ⟨q, 0, none⟩)) ∧ RgC w' q fs ns ∧ RgB w.heap.size q fs) ∧ Below w.heap.size w w'
/-- what until has made so far -/
structure UtI (w wr : World) (r : Nat) (es : List Nat) (ns : List (Int × ByteArray)) (q : Nat) (fs : List Nat) (i : Nat) : Prop where
  rg : RgC wr r es ns
  nw : RgC wr q fs (ns.take i)
  nb : RgB w.heap.size q fs
  ob : RgB 0 r es ∧ r < w.heap.size ∧ ∀ j, j < es.length → es.getD j 0 < w.heap.size
  bl : Below w.heap.size w wr
theorem RgC.oldBlow {w w' : World} {r B : Nat} {es : List Nat} {ns : List (Int × ByteArray)} (h : RgC w r es ns) (hb : Below B w w') (h1 : r < B) (h2 : ∀ j, j < es.length → es.getD j 0 < B) : RgC w' r es ns :=
  ⟨h.box.below hb h1, h.len, fun i hi => (h.ent i hi).below hb (h2 i hi), h.dst, h.inj⟩
set_option linter.unusedSimpArgs false in
set_option maxRecDepth 100000 in
set_option maxHeartbeats 2000000 in
theorem until_any (r : Nat) (es : List Nat) (ns : List (Int × ByteArray)) (m : Int) (w : World) (h : RgC w r es ns) (hn : ns.length ≤ 1000) :
    Calls Try.prog 77 #[.pointer (some ⟨r, 0, none⟩), .int .i64 m] w (UtRes (utL ns m) w) := by
  have hrc := h.box.cell
  have hrl := h.box.lt
  have HL := Lib.hid h.len
  have hl : es.length ≤ 1000 := by rw [HL.out]; exact hn
  have HI0 : Hid (UtI w (w.alloc (.cells #[.pointer none, .pointer none, .int .i64 0] 92)) r es ns w.heap.size [] 0) :=
    ⟨h.alloc _, RgC.nil (Bx.new _ _ _), ⟨Nat.le_refl _, fun i hi => by simp at hi⟩, ⟨⟨Nat.zero_le _, fun _ _ => Nat.zero_le _⟩, h.box.lt, fun j hj => (h.ent j hj).lt⟩, below_all _ _⟩
  clear h
  go_enter Try.func77, Try.ntmps77
  go_wp2_with fail
  clear hrc
  go_loopw [6] (fun e wr => ∃ i : Nat, i ≤ es.length ∧ e = pE es i ∧ ∃ fs, Hid (UtI w wr r es ns w.heap.size fs i) ∧ Hid (∀ j, j < i → nM ns j ≤ m)) (fun e _ => es.length - ixE es e)
  case atStart => exact ⟨0, Nat.zero_le _, rfl, [], HI0, fun j hj => by omega⟩
  case round =>
    obtain ⟨i, hi, he, fs, HI, HA⟩ := hrel
    have HR : Hid (RgC wr r es ns) := HI.out.rg
    have HIX := Lib.hid (HR.out.ix hi)
    by_cases hlt : i < es.length
    · have HEB : Hid (∀ W, Below w.heap.size wr W → Bx W (es.getD i 0) 100 #[.int .i64 (nM ns i), .string (nL ns i), pE es (i + 1)]) := fun W hW => ((HI.out.rg.oldBlow hW HI.out.ob.2.1 HI.out.ob.2.2).ent i hlt)
      have HE := Lib.hid he
      rw [pE_some hlt] at he
      subst he
      have hec := (HR.out.ent i hlt).cell
      generalize es.getD i 0 = eb at *
      have HIN : Hid (i < ns.length) := by show _ < _; rw [← HL.out]; exact hlt
      have HNX := Lib.hid (HR.out.ix (i := i + 1) (by omega))
      have HTK : Hid (ns.take (i + 1) = ns.take i ++ [(nM ns i, nL ns i)]) := by show _ = _; rw [nM_at HIN.out, nL_at HIN.out]; exact List.take_succ_eq_append_getElem HIN.out
      have HUT : Hid (¬ nM ns i ≤ m → utL ns m = ns.take i) := fun h => utL_take (by have := HIN.out; omega) HA.out (.inr h)
      have HAN : Hid (nM ns i ≤ m → ∀ j, j < i + 1 → nM ns j ≤ m) := fun h j hj => by
        rcases Nat.lt_or_ge j i with q | q
        · exact HA.out j q
        · obtain rfl : j = i := by omega
          exact h
      have HLT : Hid ((ns.take i).length ≤ 1000000) := by show _ ≤ _; simp; omega
      have HPT : Hid (∀ o z, Calls Try.prog 83 #[.pointer (some ⟨w.heap.size, 0, none⟩), .agg #[.int .i64 (Prod.fst z), .string (Prod.snd z)]] (wr.alloc o) fun e w' => e = .returned (.tuple #[]) ∧ (∃ b, (wr.alloc o).heap.size ≤ b ∧ RgC w' w.heap.size (fs ++ [b]) (ns.take i ++ [z])) ∧ Below w.heap.size (wr.alloc o) w') := fun o z => put_any w.heap.size w.heap.size fs (ns.take i) z (wr.alloc o) (HI.out.nw.alloc _) HLT.out HI.out.nb (by have := HI.out.bl.size; simp; omega)
      have HPT2 : Hid (∀ z, Calls Try.prog 83 #[.pointer (some ⟨w.heap.size, 0, none⟩), .agg #[.int .i64 (Prod.fst z), .string (Prod.snd z)]] wr fun e w' => e = .returned (.tuple #[]) ∧ (∃ b, wr.heap.size ≤ b ∧ RgC w' w.heap.size (fs ++ [b]) (ns.take i ++ [z])) ∧ Below w.heap.size wr w') := fun z => put_any w.heap.size w.heap.size fs (ns.take i) z wr HI.out.nw HLT.out HI.out.nb HI.out.bl.size
      generalize nM ns i = x at *
      generalize nL ns i = l at *
      by_cases hx : x ≤ m
      · have HPZ : Hid (Calls Try.prog 83 #[.pointer (some ⟨w.heap.size, 0, none⟩), .agg #[.int .i64 x, .string l]] wr fun e w' => e = .returned (.tuple #[]) ∧ (∃ b, wr.heap.size ≤ b ∧ RgC w' w.heap.size (fs ++ [b]) (ns.take i ++ [(x, l)])) ∧ Below w.heap.size wr w') := HPT2.out (x, l)
        have HA2 := Lib.hid (HAN.out hx)
        go_wp2_with fail
        refine HPZ.out.mono ?_
        rintro e w2 ⟨rfl, ⟨bn, hbn, hrg⟩, hb2⟩
        have HI2 : Hid (UtI w w2 r es ns w.heap.size (fs ++ [bn]) (i + 1)) := ⟨HI.out.rg.oldBlow hb2 HI.out.ob.2.1 HI.out.ob.2.2, by rw [HTK.out]; exact hrg, HI.out.nb.push (by have := HI.out.bl.size; omega), HI.out.ob, HI.out.bl.trans hb2⟩
        have hec2 := (HEB.out _ hb2).cell
        clear hrg hb2 hbn hec
        go_wp2_with fail
        go_roundw
        case rel => exact ⟨i + 1, by omega, rfl, fs ++ [bn], HI2, HA2⟩
        case measure => rw [HE.out, HIX.out, HNX.out]; omega
      · have HU := Lib.hid (HUT.out hx)
        go_wp2_with fail
        go_ret
        exact ⟨⟨w.heap.size, fs, rfl, by rw [HU.out]; exact HI.out.nw, HI.out.nb⟩, HI.out.bl⟩
    · rw [pE_none (by omega)] at he
      subst he
      have HU : Hid (utL ns m = ns.take i) := utL_take (by rw [← HL.out]; exact hi) HA.out (.inl (by rw [← HL.out]; omega))
      go_wp2_with fail
      go_ret
      exact ⟨⟨w.heap.size, fs, rfl, by rw [HU.out]; exact HI.out.nw, HI.out.nb⟩, HI.out.bl⟩
end Go.Proofs.Ytokddeoliieofaa
