/-
  sameNotes of the laws; BlockNormal; put with what it leaves.
-/
import Derived.Test.YtokddeoliieofaaKs
namespace Go.Proofs.Ytokddeoliieofaa
open Go.RowKit

set_option linter.unusedSimpArgs false in
theorem sameNotes_same (b off n c b' off' c' : Nat) (M : Nat → Int) (L : Nat → ByteArray) (w : World) (hn : n ≤ 1000000000000) (hc : MvsC w b off n M L) (hd : MvsC w b' off' n M L) :
    Calls Try.prog 39 #[.slice (some ⟨b, off, none⟩) n c, .slice (some ⟨b', off', none⟩) n c'] w fun e w' => e = .returned (.bool true) ∧ Below w.heap.size w w' := by
  have HC : Hid (∀ w', Below w.heap.size w w' → MvsC w' b off n M L) := fun w' hb => hc.keep hb
  have HD : Hid (∀ w', Below w.heap.size w w' → MvsC w' b' off' n M L) := fun w' hb => hd.keep hb
  clear hc hd
  go_enter Try.func39, Try.ntmps39
  go_wp2_with fail
  go_loopw [5] (fun i wr => ∃ k : Nat, k ≤ n ∧ i = .int .i64 k ∧ Hid (Below w.heap.size w wr)) (fun i _ => n - (intOf i).toNat)
  case atStart => exact ⟨0, Nat.zero_le _, rfl, Lib.hid (Below.refl _ _)⟩
  case round =>
    obtain ⟨k, hk, rfl, HB⟩ := hrel
    by_cases hlt : k < n
    · have hck := (HC.out _ HB.out).at k hlt
      have hdk := (HD.out _ HB.out).at k hlt
      generalize M k = s at *
      generalize L k = l at *
      go_wp2_with fail
      refine wp_region_held_drew (S := (fun w' => (w'.cell? ⟨b, off + k * 2, none⟩ = some (.int .i64 s) ∧ w'.cell? ⟨b, off + k * 2 + 1, none⟩ = some (.string l)) ∧ (w'.cell? ⟨b', off' + k * 2, none⟩ = some (.int .i64 s) ∧ w'.cell? ⟨b', off' + k * 2 + 1, none⟩ = some (.string l)))) (by kernel_rfl) ?_ (fun hHeld => ?_)
      · try dsimp only
        go_keep
      refine wpAnyH_take (i := 0) (oi := ?_) (v := ?_) ?_ (by kernel_rfl) (by kernel_rfl) (by kernel_rfl) ?_ ?_ (by assumption) ?_
      rotate_left 2
      · simp only [List.getElem?_toArray, List.getElem?_cons_succ, List.getElem?_cons_zero]; rfl
      · exact fun _ _ _ h => h
      · first
          | (refine Or.inr ⟨?_, ?_⟩ <;> rfl)
          | (refine Or.inl ⟨?_, ?_⟩; · rfl
             intro w hSw; (try dsimp only at hSw); go_simp; (try with_reducible rfl); done)
      try simp only [Act.put, List.setIfInBounds_toArray, List.set_cons_zero, List.set_cons_succ]
      refine wpAnyH_take (i := 1) (oi := ?_) (v := ?_) ?_ (by kernel_rfl) (by kernel_rfl) (by kernel_rfl) ?_ ?_ (by assumption) ?_
      rotate_left 2
      · simp only [List.getElem?_toArray, List.getElem?_cons_succ, List.getElem?_cons_zero]; rfl
      · exact fun _ _ _ h => h
      · first
          | (refine Or.inr ⟨?_, ?_⟩ <;> rfl)
          | (refine Or.inl ⟨?_, ?_⟩; · rfl
             intro w hSw; (try dsimp only at hSw); go_simp; (try with_reducible rfl); done)
      try simp only [Act.put, List.setIfInBounds_toArray, List.set_cons_zero, List.set_cons_succ]
      refine wpAnyH_take (i := 2) (oi := ?_) (v := ?_) ?_ (by kernel_rfl) (by kernel_rfl) (by kernel_rfl) ?_ ?_ (by assumption) ?_
      rotate_left 2
      · simp only [List.getElem?_toArray, List.getElem?_cons_succ, List.getElem?_cons_zero]; rfl
      · exact fun _ _ _ h => h
      · first
          | (refine Or.inr ⟨?_, ?_⟩ <;> rfl)
          | (refine Or.inl ⟨?_, ?_⟩; · rfl
             intro w hSw; (try dsimp only at hSw); go_simp; (try with_reducible rfl); done)
      try simp only [Act.put, List.setIfInBounds_toArray, List.set_cons_zero, List.set_cons_succ]
      refine wpAnyH_take (i := 3) (oi := ?_) (v := ?_) ?_ (by kernel_rfl) (by kernel_rfl) (by kernel_rfl) ?_ ?_ (by assumption) ?_
      rotate_left 2
      · simp only [List.getElem?_toArray, List.getElem?_cons_succ, List.getElem?_cons_zero]; rfl
      · exact fun _ _ _ h => h
      · first
          | (refine Or.inr ⟨?_, ?_⟩ <;> rfl)
          | (refine Or.inl ⟨?_, ?_⟩; · rfl
             intro w hSw; (try dsimp only at hSw); go_simp; (try with_reducible rfl); done)
      try simp only [Act.put, List.setIfInBounds_toArray, List.set_cons_zero, List.set_cons_succ]
      refine wpAnyH_take (i := 4) (oi := ?_) (v := ?_) ?_ (by kernel_rfl) (by kernel_rfl) (by kernel_rfl) ?_ ?_ (by assumption) ?_
      rotate_left 2
      · simp only [List.getElem?_toArray, List.getElem?_cons_succ, List.getElem?_cons_zero]; rfl
      · exact fun _ _ _ h => h
      · first
          | (refine Or.inr ⟨?_, ?_⟩ <;> rfl)
          | (refine Or.inl ⟨?_, ?_⟩; · rfl
             intro w hSw; (try dsimp only at hSw); go_simp; (try with_reducible rfl); done)
      try simp only [Act.put, List.setIfInBounds_toArray, List.set_cons_zero, List.set_cons_succ]
      refine wpAnyH_take (i := 5) (oi := ?_) (v := ?_) ?_ (by kernel_rfl) (by kernel_rfl) (by kernel_rfl) ?_ ?_ (by assumption) ?_
      rotate_left 2
      · simp only [List.getElem?_toArray, List.getElem?_cons_succ, List.getElem?_cons_zero]; rfl
      · exact fun _ _ _ h => h
      · first
          | (refine Or.inr ⟨?_, ?_⟩ <;> rfl)
          | (refine Or.inl ⟨?_, ?_⟩; · rfl
             intro w hSw; (try dsimp only at hSw); go_simp; (try with_reducible rfl); done)
      try simp only [Act.put, List.setIfInBounds_toArray, List.set_cons_zero, List.set_cons_succ]
      refine wpAnyH_take (i := 6) (oi := ?_) (v := ?_) ?_ (by kernel_rfl) (by kernel_rfl) (by kernel_rfl) ?_ ?_ (by assumption) ?_
      rotate_left 2
      · simp only [List.getElem?_toArray, List.getElem?_cons_succ, List.getElem?_cons_zero]; rfl
      · exact fun _ _ _ h => h
      · first
          | (refine Or.inr ⟨?_, ?_⟩ <;> rfl)
          | (refine Or.inl ⟨?_, ?_⟩; · rfl
             intro w hSw; (try dsimp only at hSw); go_simp; (try with_reducible rfl); done)
      try simp only [Act.put, List.setIfInBounds_toArray, List.set_cons_zero, List.set_cons_succ]
      refine wpAnyH_take (i := 7) (oi := ?_) (v := ?_) ?_ (by kernel_rfl) (by kernel_rfl) (by kernel_rfl) ?_ ?_ (by assumption) ?_
      rotate_left 2
      · simp only [List.getElem?_toArray, List.getElem?_cons_succ, List.getElem?_cons_zero]; rfl
      · exact fun _ _ _ h => h
      · first
          | (refine Or.inr ⟨?_, ?_⟩ <;> rfl)
          | (refine Or.inl ⟨?_, ?_⟩; · rfl
             intro w hSw; (try dsimp only at hSw); go_simp; (try with_reducible rfl); done)
      try simp only [Act.put, List.setIfInBounds_toArray, List.set_cons_zero, List.set_cons_succ]
      refine wpAnyH_take (i := 8) (oi := ?_) (v := ?_) ?_ (by kernel_rfl) (by kernel_rfl) (by kernel_rfl) ?_ ?_ (by assumption) ?_
      rotate_left 2
      · simp only [List.getElem?_toArray, List.getElem?_cons_succ, List.getElem?_cons_zero]; rfl
      · exact fun _ _ _ h => h
      · first
          | (refine Or.inr ⟨?_, ?_⟩ <;> rfl)
          | (refine Or.inl ⟨?_, ?_⟩; · rfl
             intro w hSw; (try dsimp only at hSw); go_simp; (try with_reducible rfl); done)
      try simp only [Act.put, List.setIfInBounds_toArray, List.set_cons_zero, List.set_cons_succ]
      refine wpAnyH_done (by kernel_rfl) ?_ _
      go_wp2_with fail
      go_roundw
      case rel => exact ⟨k + 1, by omega, by go_num, HB.out.drew⟩
      case measure => simp [intOf]; omega
    · obtain e : k = n := by omega
      subst e
      go_wp2_with fail
      go_ret
      exact ⟨rfl, HB.out⟩
theorem smN {W : World} {g1 c1 g2 c2 : Nat} {ns : List (Int × ByteArray)} (hl : ns.length ≤ 1000) (h1 : OwnN W g1 c1 ns) (h2 : OwnN W g2 c2 ns) :
    Calls Try.prog 39 #[.slice (some ⟨g1, 0, none⟩) ns.length c1, .slice (some ⟨g2, 0, none⟩) ns.length c2] W fun e w' => e = .returned (.bool true) ∧ Below W.heap.size W w' :=
  sameNotes_same g1 0 ns.length c1 g2 0 c2 (nM ns) (nL ns) W (by omega) (MvsC.of_own h1) (MvsC.of_own h2)
/-- what a put leaves -/
def PutK (w w' : World) (r : Nat) (es : List Nat) : Prop := ∀ c t cs, c ≠ r → (∀ i, i < es.length → c ≠ es.getD i 0) → Bx w c t cs → Bx w' c t cs
theorem PutK.reg {w w' : World} {r r2 : Nat} {es fs : List Nat} {ns : List (Int × ByteArray)} (h : PutK w w' r es) (hg : RgC w r2 fs ns) (h1 : r2 ≠ r) (h2 : ∀ i, i < es.length → r2 ≠ es.getD i 0) (h3 : ∀ j, j < fs.length → fs.getD j 0 ≠ r) (h4 : ∀ j, j < fs.length → ∀ i, i < es.length → fs.getD j 0 ≠ es.getD i 0) : RgC w' r2 fs ns :=
  ⟨h _ _ _ h1 h2 hg.box, hg.len, fun i hi => h _ _ _ (h3 i hi) (h4 i hi) (hg.ent i hi), hg.dst, hg.inj⟩
set_option linter.unusedSimpArgs false in
set_option maxHeartbeats 1000000 in
theorem put_any2 (B r : Nat) (es : List Nat) (ns : List (Int × ByteArray)) (z : Int × ByteArray) (w : World) (h : RgC w r es ns) (hn : ns.length ≤ 1000000) (hB : RgB B r es) (hBw : B ≤ w.heap.size) :
    Calls Try.prog 83 #[.pointer (some ⟨r, 0, none⟩), .agg #[.int .i64 z.1, .string z.2]] w fun e w' => e = .returned (.tuple #[]) ∧ (∃ b, w.heap.size ≤ b ∧ RgC w' r (es ++ [b]) (ns ++ [z])) ∧ Below B w w' ∧ PutK w w' r es := by
  obtain ⟨s, l⟩ := z
  have hlen := h.len
  have hrl := h.box.lt
  have hrc := h.box.cell
  have hrf := h.box.free
  have HR := Lib.hid h
  have HLEN := Lib.hid hlen
  rcases Nat.eq_zero_or_pos es.length with h0 | h0
  · obtain rfl : es = [] := List.length_eq_zero_iff.1 h0
    obtain rfl : ns = [] := List.length_eq_zero_iff.1 (by rw [← hlen]; rfl)
    clear h0 hlen h
    have hrc' : ∀ o, w.cell? ⟨r, o, none⟩ = (#[.pointer none, .pointer none, .int .i64 0] : Array Value)[o]? := hrc
    clear hrc
    go_enter Try.func83, Try.ntmps83
    go_wp2_with fail
    go_end0
    exact ⟨rfl, ⟨w.heap.size + 1, by omega, HR.out.put0 (s, l) _ _ rfl⟩, (((((Below.refl B w).setCell (p := ⟨r, 0, none⟩) hB.1 _).setCell (p := ⟨r, 1, none⟩) hB.1 _).setCell (p := ⟨r, 2, none⟩) hB.1 _).alloc (by simp; omega) _).alloc (by simp; omega) _, fun c t cs h1 _ hx => ((((hx.setOther (a := ⟨r, 0, none⟩) h1 _).setOther (a := ⟨r, 1, none⟩) h1 _).setOther (a := ⟨r, 2, none⟩) h1 _).alloc _).alloc _⟩
  · have he := h.ent (es.length - 1) (by omega)
    have hec := he.cell
    have hef := he.free
    have hel := he.lt
    have hne := h.dst (es.length - 1) (by omega)
    have hBe := hB.2 (es.length - 1) (by omega)
    have HP0 : Hid (pE es (es.length - 1) = .pointer (some ⟨es.getD (es.length - 1) 0, 0, none⟩)) := pE_some (by omega)
    rw [HP0.out] at hrc
    have HPUT := Lib.hid (h.put1 h0 (s, l) (.cells #[.int .i64 s, .string l] 61) (w.heap.size + 1) rfl)
    have hne2 : r ≠ es.getD (es.length - 1) 0 := fun e => hne e.symm
    have HEB : Hid (∀ c, (∀ i, i < es.length → c ≠ es.getD i 0) → c ≠ es.getD (es.length - 1) 0) := fun c q => q _ (by omega)
    clear he h hlen
    generalize es.getD (es.length - 1) 0 = eb at *
    have hn' : es.length ≤ 1000000 := by rw [HLEN.out]; exact hn
    have hp1 : pE es (es.length - 1 + 1) = .pointer none := pE_none (by omega)
    generalize pE es 0 = p0 at *
    generalize pE es (es.length - 1 + 1) = p1 at *
    subst hp1
    go_enter Try.func83, Try.ntmps83
    go_wp2_with fail
    go_end0
    exact ⟨rfl, ⟨w.heap.size + 1, by omega, HPUT.out⟩, (((((Below.refl B w).setCell (p := ⟨eb, 2, none⟩) hBe _).setCell (p := ⟨r, 1, none⟩) hB.1 _).setCell (p := ⟨r, 2, none⟩) hB.1 _).alloc (by simp; omega) _).alloc (by simp; omega) _, fun c t cs h1 h2 hx => ((((hx.setOther (a := ⟨eb, 2, none⟩) (HEB.out c h2) _).setOther (a := ⟨r, 1, none⟩) h1 _).setOther (a := ⟨r, 2, none⟩) h1 _).alloc _).alloc _⟩
end Go.Proofs.Ytokddeoliieofaa
