/-
  RegisterFix of the reference.
-/
import Derived.Test.YtokddeoliieofaaFf
namespace Go.Proofs.Ytokddeoliieofaa
open Go.RowKit

/-- between two rounds of the reference's RegisterFix -/
structure SfI (w wr : World) (gt ct : Nat) (L : List ByteArray) (g c : Nat) (xs : List (Int × ByteArray)) (g2 c2 : Nat) (js : List Int) : Prop where
  tx : OwnS wr gt ct L
  nt : OwnN wr g c xs
  it : OwnI wr g2 c2 js
  d3 : g ≠ gt
  e3 : g2 ≠ gt
  dd : g ≠ g2
  gz : w.heap.size ≤ g
  gz2 : w.heap.size ≤ g2
  bl : Below w.heap.size w wr
theorem SfI.keep {w wr wa : World} {gt ct : Nat} {L : List ByteArray} {g c : Nat} {xs : List (Int × ByteArray)} {g2 c2 : Nat} {js : List Int} (h : SfI w wr gt ct L g c xs g2 c2 js) (hb : Below wr.heap.size wr wa) : SfI w wa gt ct L g c xs g2 c2 js :=
  ⟨Own.below h.tx hb (Own.lt h.tx), Own.below h.nt hb (Own.lt h.nt), Own.below h.it hb (Own.lt h.it), h.d3, h.e3, h.dd, h.gz, h.gz2, h.bl.trans (hb.mono h.bl.size)⟩
theorem SfI.drew {w wr : World} {gt ct : Nat} {L : List ByteArray} {g c : Nat} {xs : List (Int × ByteArray)} {g2 c2 : Nat} {js : List Int} (h : SfI w wr gt ct L g c xs g2 c2 js) : SfI w wr.drew gt ct L g c xs g2 c2 js := h.keep (Below.refl _ wr).drew
theorem SfI.pushN {w wr wa : World} {gt ct : Nat} {L : List ByteArray} {g c : Nat} {xs : List (Int × ByteArray)} {g2 c2 : Nat} {js : List Int} (h : SfI w wr gt ct L g c xs g2 c2 js) {g' c' : Nat} {z : Int × ByteArray} (HA : Own wa g' c' (xs.length + 1) 2 61 (mvF (nM (xs ++ [z])) (nL (xs ++ [z])))) (hgr : wr.grownBy wa (some g)) (hd : (g' = g ∧ c' = c) ∨ wr.heap.size < g') :
    SfI w wa gt ct L g' c' (xs ++ [z]) g2 c2 js := by
  have hgz := h.gz
  have hbs := h.bl.size
  have htl := Own.lt h.tx
  have hil := Own.lt h.it
  refine ⟨Own.kept h.tx hgr (by have := h.d3; simp; omega), ?_, Own.kept h.it hgr (by have := h.dd; simp; omega), ?_, h.e3, ?_, ?_, h.gz2, h.bl.trans (below_of_grown hgr hgz hbs)⟩
  · unfold OwnN
    rw [List.length_append]
    exact HA
  · rcases hd with ⟨rfl, _⟩ | q
    · exact h.d3
    · omega
  · rcases hd with ⟨rfl, _⟩ | q
    · exact h.dd
    · omega
  · rcases hd with ⟨rfl, _⟩ | q <;> omega
theorem SfI.pushI {w wr wa : World} {gt ct : Nat} {L : List ByteArray} {g c : Nat} {xs : List (Int × ByteArray)} {g2 c2 : Nat} {js : List Int} (h : SfI w wr gt ct L g c xs g2 c2 js) {g' c' : Nat} {z : Int} (HA : Own wa g' c' (js.length + 1) 1 3 (fun q => .int .i64 (iF (js ++ [z]) q))) (hgr : wr.grownBy wa (some g2)) (hd : (g' = g2 ∧ c' = c2) ∨ wr.heap.size < g') :
    SfI w wa gt ct L g c xs g' c' (js ++ [z]) := by
  have hgz := h.gz2
  have hbs := h.bl.size
  have htl := Own.lt h.tx
  have hnl := Own.lt h.nt
  refine ⟨Own.kept h.tx hgr (by have := h.e3; simp; omega), Own.kept h.nt hgr (by have := h.dd; simp; omega), ?_, h.d3, ?_, ?_, h.gz, ?_, h.bl.trans (below_of_grown hgr hgz hbs)⟩
  · unfold OwnI
    rw [List.length_append]
    exact HA
  · rcases hd with ⟨rfl, _⟩ | q
    · exact h.e3
    · omega
  · rcases hd with ⟨rfl, _⟩ | q
    · exact h.dd
    · omega
  · rcases hd with ⟨rfl, _⟩ | q <;> omega
set_option linter.unusedSimpArgs false in
set_option maxRecDepth 100000 in
set_option maxHeartbeats 4000000 in
theorem specFix_any (b off c : Nat) (ns : List (Int × ByteArray)) (w : World) (hn : ns.length ≤ 1000000000000) (hc : NtC w b off ns) :
    Calls Try.prog 49 #[.slice (some ⟨b, off, none⟩) ns.length c] w (FxR (fixN ns) (fixI ns) w) := by
  have HC : Hid (∀ W, Below w.heap.size w W → NtC W b off ns) := fun W h => hc.old h hc.lt
  have HRV := Lib.hid (specValid_any b off c ns ((w.alloc (.cells #[] 61)).alloc (.cells #[] 3)) (by omega) (HC.out _ (below_all2 _ _ _)))
  have HA0 : Hid (OwnN ((w.alloc (.cells #[] 61)).alloc (.cells #[] 3)) w.heap.size 0 []) := Own.alloc (own_empty _ _ _ _) _
  have HI0 : Hid (OwnI ((w.alloc (.cells #[] 61)).alloc (.cells #[] 3)) (w.heap.size + 1) 0 []) := own_emptyAt (by simp)
  have HB0 : Hid (Below w.heap.size w ((w.alloc (.cells #[] 61)).alloc (.cells #[] 3))) := below_all2 _ _ _
  have hz0 : ((w.alloc (.cells #[] 61)).alloc (.cells #[] 3)).heap.size = w.heap.size + 2 := by simp
  clear hc
  go_enter Try.func49, Try.ntmps49
  go_wp2_with fail
  generalize (w.alloc (.cells #[] 61)).alloc (.cells #[] 3) = w0 at *
  refine HRV.out.mono ?_
  rintro e w1 ⟨rfl, rfl⟩
  cases hv : rgV ns
  · have HV : Hid (fixN ns = [] ∧ fixI ns = []) := by show _ ∧ _; unfold fixN fixI; rw [hv]; exact ⟨rfl, rfl⟩
    clear hv
    go_wp2_with fail
    go_ret2
    exact ⟨⟨w.heap.size, 0, w.heap.size + 1, 0, by rw [HV.out.1, HV.out.2]; rfl, by rw [HV.out.1]; exact HA0.out, by rw [HV.out.2]; exact HI0.out, Nat.le_refl _, by omega, by omega⟩, HB0.out⟩
  have HV : Hid (fixN ns = fxN ns (repL (txN ns)) ∧ fixI ns = fxI ns (repL (txN ns))) := ⟨if_pos hv, if_pos hv⟩
  have hl30 : ns.length ≤ 30 := (rgV_true.1 hv).1
  have hts := txN_size2 hv
  have HTA := Lib.hid (specText_any b off c ns w0 (by omega) (fun z hz => by rw [rgV_sz hv z hz]; omega) (HC.out _ HB0.out))
  clear hv HRV
  go_wp2_with fail
  refine HTA.out.mono ?_
  rintro e w2 ⟨rfl, rfl⟩
  rw [show (⟨(rgT ns).toArray⟩ : ByteArray) = txN ns from rfl]
  clear HTA
  obtain ⟨t, ht⟩ : ∃ t, t = txN ns := ⟨_, rfl⟩
  obtain ⟨L, hL⟩ : ∃ L, L = repL t := ⟨_, rfl⟩
  have HT := Lib.hid ht
  have HRP : Hid (Calls Try.prog 88 #[.string t] w0 (TxR L w0)) := by rw [hL]; exact specRepair_any t w0 (by rw [ht, hts]; omega)
  have HX : Hid (∀ x, x ∈ L → x.size = t.size + 1) := fun x hx => repL_size (by rw [← hL]; exact hx)
  have hLL : L.length ≤ 210 := by rw [hL]; exact repL_len t
  rw [← ht, ← hL] at HV
  rw [← ht] at hts ⊢
  have HTS : Hid (t.size = ns.length) := hts
  clear hL ht hts
  go_wp2_with fail
  refine HRP.out.mono ?_
  rintro e w3 ⟨⟨gt, ct, rfl, hgt, htx⟩, hb3⟩
  have HM : Hid (SfI w w3 gt ct L w.heap.size 0 (fxN ns (L.take 0)) (w.heap.size + 1) 0 (fxI ns (L.take 0))) := by
    have z2 := HB0.out.size
    have hrl := HA0.out
    have q1 := Own.lt HI0.out
    exact ⟨htx, Own.below HA0.out hb3 (Own.lt HA0.out), Own.below HI0.out hb3 (Own.lt HI0.out), by omega, by omega, by omega, Nat.le_refl _, by omega, HB0.out.trans (hb3.mono z2)⟩
  clear hgt htx hb3 HRP HA0 HI0 HB0
  go_wp2_with fail
  go_loopw [4, 5, 8, 9, 10] (fun o p i _ _ wr => ∃ (j g c g2 c2 : Nat), j ≤ L.length ∧ i = .int .i64 j ∧ o = .slice (some ⟨g, 0, none⟩) (fxN ns (L.take j)).length c ∧ p = .slice (some ⟨g2, 0, none⟩) (fxI ns (L.take j)).length c2 ∧ Hid (SfI w wr gt ct L g c (fxN ns (L.take j)) g2 c2 (fxI ns (L.take j)))) (fun _ _ i _ _ _ => L.length - (intOf i).toNat)
  case atStart => exact ⟨0, w.heap.size, 0, w.heap.size + 1, 0, Nat.zero_le _, rfl, rfl, rfl, HM⟩
  case round =>
    obtain ⟨j, g, c, g2, c2, hj, rfl, rfl, rfl, HI⟩ := hrel
    by_cases hjt : j < L.length
    · have hji : (j : Int) < (L.length : Int) := by omega
      have HTK : Hid (L.take (j + 1) = L.take j ++ [sF L j]) := by show _ = _; rw [sF_at hjt]; exact List.take_succ_eq_append_getElem hjt
      have hxs : (sF L j).size = t.size + 1 := HX.out _ (by rw [sF_at hjt]; exact List.getElem_mem hjt)
      have HN1 : Hid (fxN ns (L.take (j + 1)) = fxN ns (L.take j) ++ [fxZ ns t (sF L j)]) := by show _ = _; rw [HTK.out, fxN_snoc, HT.out]
      have HN2 : Hid (fxI ns (L.take (j + 1)) = fxI ns (L.take j) ++ [(fxK t (sF L j) : Int)]) := by show _ = _; rw [HTK.out, fxI_snoc, HT.out]
      have hnl : (fxN ns (L.take j)).length ≤ 210 := by rw [fxN_len]; simp; omega
      have hil : (fxI ns (L.take j)).length ≤ 210 := by rw [fxI_len]; simp; omega
      have HCC : Hid (∀ W, OwnS W gt ct L → W.cell? ⟨gt, j, none⟩ = some (.string (sF L j))) := fun W h => OwnS.cell h hjt
      generalize sF L j = x at *
      have HXS : Hid (x.size = t.size + 1) := hxs
      clear hxs
      generalize fxN ns (L.take j) = xs at *
      generalize fxI ns (L.take j) = js at *
      go_wp2_with fail
      go_loopw [9] (fun k wr => ∃ i : Nat, i ≤ t.size ∧ k = .int .i64 i ∧ Hid (i ≤ fxK t x) ∧ Hid (SfI w wr gt ct L g c xs g2 c2 js)) (fun k _ => t.size - (intOf k).toNat)
      case atStart => exact ⟨0, Nat.zero_le _, rfl, Nat.zero_le _, HI⟩
      case round =>
        obtain ⟨i, hi, rfl, HK, HI⟩ := hrel
        have hts := HTS.out
        have hxs := HXS.out
        have hcc := HCC.out _ HI.out.tx
        have hw1 : IntKind.i64.wrap ((i : Int) + 1) = (i : Int) + 1 := IntWalk.i64_in _ (by omega)
        have hw2 : ((i : Int) + 1).toNat = i + 1 := by omega
        have hw3 : (0 : Int) ≤ (i : Int) + 1 := by omega
        have hw4 : (i : Int) ≤ (i : Int) + 1 := by omega
        have hw5 : (i : Int) + 1 ≤ (x.size : Int) := by omega
        have hw6 : i < x.size := by omega
        have hw7 : (i : Int) < (x.size : Int) := by omega
        by_cases hlt : i < t.size
        · have hiz : (i : Int) < (t.size : Int) := by omega
          have hiz2 : (i : Int) + 1 ≤ (t.size : Int) := by omega
          have hpr := ex_pre HK.out hlt (show i < x.size by omega)
          by_cases hq : bt t i = bt x i
          · have HK2 : Hid (i + 1 ≤ fxK t x) := fxK_up HK.out hlt (by omega) hq
            rw [decide_eq_true hq] at hpr
            clear hts hxs
            go_wp2_with fail
            refine wp_region_held_drew (S := (fun W => W.cell? ⟨gt, j, none⟩ = some (.string x))) (by kernel_rfl) hcc (fun hHeld => ?_)
            refine wpAnyH_take (i := 0) (oi := ?_) (v := ?_) ?_ (by kernel_rfl) (by kernel_rfl) (by kernel_rfl) ?_ ?_ (by assumption) ?_
            rotate_left 2
            · simp only [List.getElem?_toArray, List.getElem?_cons_succ, List.getElem?_cons_zero]; rfl
            · exact fun _ _ _ h => h
            · first
                | (refine Or.inr ⟨?_, ?_⟩ <;> rfl)
                | (refine Or.inl ⟨?_, ?_⟩; · rfl
                   intro w hSw; (try dsimp only at hSw); go_simp; (try with_reducible rfl); done)
            try simp only [Act.put, List.setIfInBounds_toArray, List.set_cons_zero, List.set_cons_succ]
            refine wpAnyH_take (i := 1) (oi := ?_) (v := ?_) ?_ (by kernel_rfl) (by kernel_rfl) (by kernel_rfl) ?_ ?_ (by assumption) ?_
            rotate_left 2
            · simp only [List.getElem?_toArray, List.getElem?_cons_succ, List.getElem?_cons_zero]; rfl
            · exact fun _ _ _ h => h
            · first
                | (refine Or.inr ⟨?_, ?_⟩ <;> rfl)
                | (refine Or.inl ⟨?_, ?_⟩; · rfl
                   intro w hSw; (try dsimp only at hSw); go_simp; (try with_reducible rfl); done)
            try simp only [Act.put, List.setIfInBounds_toArray, List.set_cons_zero, List.set_cons_succ]
            refine wpAnyH_take (i := 2) (oi := ?_) (v := ?_) ?_ (by kernel_rfl) (by kernel_rfl) (by kernel_rfl) ?_ ?_ (by assumption) ?_
            rotate_left 2
            · simp only [List.getElem?_toArray, List.getElem?_cons_succ, List.getElem?_cons_zero]; rfl
            · exact fun _ _ _ h => h
            · first
                | (refine Or.inr ⟨?_, ?_⟩ <;> rfl)
                | (refine Or.inl ⟨?_, ?_⟩; · rfl
                   intro w hSw; (try dsimp only at hSw); go_simp; (try with_reducible rfl); done)
            try simp only [Act.put, List.setIfInBounds_toArray, List.set_cons_zero, List.set_cons_succ]
            refine wpAnyH_take (i := 3) (oi := ?_) (v := ?_) ?_ (by kernel_rfl) (by kernel_rfl) (by kernel_rfl) ?_ ?_ (by assumption) ?_
            rotate_left 2
            · simp only [List.getElem?_toArray, List.getElem?_cons_succ, List.getElem?_cons_zero]; rfl
            · exact fun _ _ _ h => h
            · first
                | (refine Or.inr ⟨?_, ?_⟩ <;> rfl)
                | (refine Or.inl ⟨?_, ?_⟩; · rfl
                   intro w hSw; (try dsimp only at hSw); go_simp; (try with_reducible rfl); done)
            try simp only [Act.put, List.setIfInBounds_toArray, List.set_cons_zero, List.set_cons_succ]
            refine wpAnyH_take (i := 4) (oi := ?_) (v := ?_) ?_ (by kernel_rfl) (by kernel_rfl) (by kernel_rfl) ?_ ?_ (by assumption) ?_
            rotate_left 2
            · simp only [List.getElem?_toArray, List.getElem?_cons_succ, List.getElem?_cons_zero]; rfl
            · exact fun _ _ _ h => h
            · first
                | (refine Or.inr ⟨?_, ?_⟩ <;> rfl)
                | (refine Or.inl ⟨?_, ?_⟩; · rfl
                   intro w hSw; (try dsimp only at hSw); go_simp; (try with_reducible rfl); done)
            try simp only [Act.put, List.setIfInBounds_toArray, List.set_cons_zero, List.set_cons_succ]
            refine wpAnyH_take (i := 5) (oi := ?_) (v := ?_) ?_ (by kernel_rfl) (by kernel_rfl) (by kernel_rfl) ?_ ?_ (by assumption) ?_
            rotate_left 2
            · simp only [List.getElem?_toArray, List.getElem?_cons_succ, List.getElem?_cons_zero]; rfl
            · exact fun _ _ _ h => h
            · first
                | (refine Or.inr ⟨?_, ?_⟩ <;> rfl)
                | (refine Or.inl ⟨?_, ?_⟩; · rfl
                   intro w hSw; (try dsimp only at hSw); go_simp; (try with_reducible rfl); done)
            try simp only [Act.put, List.setIfInBounds_toArray, List.set_cons_zero, List.set_cons_succ]
            refine wpAnyH_take (i := 6) (oi := ?_) (v := ?_) ?_ (by kernel_rfl) (by kernel_rfl) (by kernel_rfl) ?_ ?_ (by assumption) ?_
            rotate_left 2
            · simp only [List.getElem?_toArray, List.getElem?_cons_succ, List.getElem?_cons_zero]; rfl
            · exact fun _ _ _ h => h
            · first
                | (refine Or.inr ⟨?_, ?_⟩ <;> rfl)
                | (refine Or.inl ⟨?_, ?_⟩; · rfl
                   intro w hSw; (try dsimp only at hSw); go_simp; (try with_reducible rfl); done)
            try simp only [Act.put, List.setIfInBounds_toArray, List.set_cons_zero, List.set_cons_succ]
            refine wpAnyH_take (i := 7) (oi := ?_) (v := ?_) ?_ (by kernel_rfl) (by kernel_rfl) (by kernel_rfl) ?_ ?_ (by assumption) ?_
            rotate_left 2
            · simp only [List.getElem?_toArray, List.getElem?_cons_succ, List.getElem?_cons_zero]; rfl
            · exact fun _ _ _ h => h
            · first
                | (refine Or.inr ⟨?_, ?_⟩ <;> rfl)
                | (refine Or.inl ⟨?_, ?_⟩; · rfl
                   intro w hSw; (try dsimp only at hSw); go_simp; (try with_reducible rfl); done)
            try simp only [Act.put, List.setIfInBounds_toArray, List.set_cons_zero, List.set_cons_succ]
            refine wpAnyH_take (i := 8) (oi := ?_) (v := ?_) ?_ (by kernel_rfl) (by kernel_rfl) (by kernel_rfl) ?_ ?_ (by assumption) ?_
            rotate_left 2
            · simp only [List.getElem?_toArray, List.getElem?_cons_succ, List.getElem?_cons_zero]; rfl
            · exact fun _ _ _ h => h
            · first
                | (refine Or.inr ⟨?_, ?_⟩ <;> rfl)
                | (refine Or.inl ⟨?_, ?_⟩; · rfl
                   intro w hSw; (try dsimp only at hSw); go_simp; (try with_reducible rfl); done)
            try simp only [Act.put, List.setIfInBounds_toArray, List.set_cons_zero, List.set_cons_succ]
            refine wpAnyH_take (i := 9) (oi := ?_) (v := ?_) ?_ (by kernel_rfl) (by kernel_rfl) (by kernel_rfl) ?_ ?_ (by assumption) ?_
            rotate_left 2
            · simp only [List.getElem?_toArray, List.getElem?_cons_succ, List.getElem?_cons_zero]; rfl
            · exact fun _ _ _ h => h
            · first
                | (refine Or.inr ⟨?_, ?_⟩ <;> rfl)
                | (refine Or.inl ⟨?_, ?_⟩; · rfl
                   intro w hSw; (try dsimp only at hSw); go_simp; (try with_reducible rfl); done)
            try simp only [Act.put, List.setIfInBounds_toArray, List.set_cons_zero, List.set_cons_succ]
            refine wpAnyH_take (i := 10) (oi := ?_) (v := ?_) ?_ (by kernel_rfl) (by kernel_rfl) (by kernel_rfl) ?_ ?_ (by assumption) ?_
            rotate_left 2
            · simp only [List.getElem?_toArray, List.getElem?_cons_succ, List.getElem?_cons_zero]; rfl
            · exact fun _ _ _ h => h
            · first
                | (refine Or.inr ⟨?_, ?_⟩ <;> rfl)
                | (refine Or.inl ⟨?_, ?_⟩; · rfl
                   intro w hSw; (try dsimp only at hSw); go_simp; (try with_reducible rfl); done)
            try simp only [Act.put, List.setIfInBounds_toArray, List.set_cons_zero, List.set_cons_succ]
            refine wpAnyH_take (i := 11) (oi := ?_) (v := ?_) ?_ (by kernel_rfl) (by kernel_rfl) (by kernel_rfl) ?_ ?_ (by assumption) ?_
            rotate_left 2
            · simp only [List.getElem?_toArray, List.getElem?_cons_succ, List.getElem?_cons_zero]; rfl
            · exact fun _ _ _ h => h
            · first
                | (refine Or.inr ⟨?_, ?_⟩ <;> rfl)
                | (refine Or.inl ⟨?_, ?_⟩; · rfl
                   intro w hSw; (try dsimp only at hSw); go_simp; (try with_reducible rfl); done)
            try simp only [Act.put, List.setIfInBounds_toArray, List.set_cons_zero, List.set_cons_succ]
            refine wpAnyH_take (i := 12) (oi := ?_) (v := ?_) ?_ (by kernel_rfl) (by kernel_rfl) (by kernel_rfl) ?_ ?_ (by assumption) ?_
            rotate_left 2
            · simp only [List.getElem?_toArray, List.getElem?_cons_succ, List.getElem?_cons_zero]; rfl
            · exact fun _ _ _ h => h
            · first
                | (refine Or.inr ⟨?_, ?_⟩ <;> rfl)
                | (refine Or.inl ⟨?_, ?_⟩; · rfl
                   intro w hSw; (try dsimp only at hSw); go_simp; (try with_reducible rfl); done)
            try simp only [Act.put, List.setIfInBounds_toArray, List.set_cons_zero, List.set_cons_succ]
            refine wpAnyH_take (i := 13) (oi := ?_) (v := ?_) ?_ (by kernel_rfl) (by kernel_rfl) (by kernel_rfl) ?_ ?_ (by assumption) ?_
            rotate_left 2
            · simp only [List.getElem?_toArray, List.getElem?_cons_succ, List.getElem?_cons_zero]; rfl
            · exact fun _ _ _ h => h
            · first
                | (refine Or.inr ⟨?_, ?_⟩ <;> rfl)
                | (refine Or.inl ⟨?_, ?_⟩; · rfl
                   intro w hSw; (try dsimp only at hSw); go_simp; (try with_reducible rfl); done)
            try simp only [Act.put, List.setIfInBounds_toArray, List.set_cons_zero, List.set_cons_succ]
            refine wpAnyH_take (i := 14) (oi := ?_) (v := ?_) ?_ (by kernel_rfl) (by kernel_rfl) (by kernel_rfl) ?_ ?_ (by assumption) ?_
            rotate_left 2
            · simp only [List.getElem?_toArray, List.getElem?_cons_succ, List.getElem?_cons_zero]; rfl
            · exact fun _ _ _ h => h
            · first
                | (refine Or.inr ⟨?_, ?_⟩ <;> rfl)
                | (refine Or.inl ⟨?_, ?_⟩; · rfl
                   intro w hSw; (try dsimp only at hSw); go_simp; (try with_reducible rfl); done)
            try simp only [Act.put, List.setIfInBounds_toArray, List.set_cons_zero, List.set_cons_succ]
            refine wpAnyH_take (i := 15) (oi := ?_) (v := ?_) ?_ (by kernel_rfl) (by kernel_rfl) (by kernel_rfl) ?_ ?_ (by assumption) ?_
            rotate_left 2
            · simp only [List.getElem?_toArray, List.getElem?_cons_succ, List.getElem?_cons_zero]; rfl
            · exact fun _ _ _ h => h
            · first
                | (refine Or.inr ⟨?_, ?_⟩ <;> rfl)
                | (refine Or.inl ⟨?_, ?_⟩; · rfl
                   intro w hSw; (try dsimp only at hSw); go_simp; (try with_reducible rfl); done)
            try simp only [Act.put, List.setIfInBounds_toArray, List.set_cons_zero, List.set_cons_succ]
            refine wpAnyH_take (i := 16) (oi := ?_) (v := ?_) ?_ (by kernel_rfl) (by kernel_rfl) (by kernel_rfl) ?_ ?_ (by assumption) ?_
            rotate_left 2
            · simp only [List.getElem?_toArray, List.getElem?_cons_succ, List.getElem?_cons_zero]; rfl
            · exact fun _ _ _ h => h
            · first
                | (refine Or.inr ⟨?_, ?_⟩ <;> rfl)
                | (refine Or.inl ⟨?_, ?_⟩; · rfl
                   intro w hSw; (try dsimp only at hSw); go_simp; (try with_reducible rfl); done)
            try simp only [Act.put, List.setIfInBounds_toArray, List.set_cons_zero, List.set_cons_succ]
            refine wpAnyH_take (i := 17) (oi := ?_) (v := ?_) ?_ (by kernel_rfl) (by kernel_rfl) (by kernel_rfl) ?_ ?_ (by assumption) ?_
            rotate_left 2
            · simp only [List.getElem?_toArray, List.getElem?_cons_succ, List.getElem?_cons_zero]; rfl
            · exact fun _ _ _ h => h
            · first
                | (refine Or.inr ⟨?_, ?_⟩ <;> rfl)
                | (refine Or.inl ⟨?_, ?_⟩; · rfl
                   intro w hSw; (try dsimp only at hSw); go_simp; (try with_reducible rfl); done)
            try simp only [Act.put, List.setIfInBounds_toArray, List.set_cons_zero, List.set_cons_succ]
            refine wpAnyH_done (by kernel_rfl) ?_ _
            clear hHeld
            replace HI := Lib.hid HI.out.drew
            go_wp2_with fail
            go_roundw
            case rel => exact ⟨i + 1, by omega, by go_num, HK2.out, HI.out⟩
            case measure => simp [intOf]; omega
          · have HF : Hid (fxK t x = i) := fxK_end HK.out hlt (by omega) hq
            rw [decide_eq_false hq] at hpr
            clear hts hxs
            go_wp2_with fail
            refine wp_region_held_drew (S := (fun W => W.cell? ⟨gt, j, none⟩ = some (.string x))) (by kernel_rfl) hcc (fun hHeld => ?_)
            refine wpAnyH_take (i := 0) (oi := ?_) (v := ?_) ?_ (by kernel_rfl) (by kernel_rfl) (by kernel_rfl) ?_ ?_ (by assumption) ?_
            rotate_left 2
            · simp only [List.getElem?_toArray, List.getElem?_cons_succ, List.getElem?_cons_zero]; rfl
            · exact fun _ _ _ h => h
            · first
                | (refine Or.inr ⟨?_, ?_⟩ <;> rfl)
                | (refine Or.inl ⟨?_, ?_⟩; · rfl
                   intro w hSw; (try dsimp only at hSw); go_simp; (try with_reducible rfl); done)
            try simp only [Act.put, List.setIfInBounds_toArray, List.set_cons_zero, List.set_cons_succ]
            refine wpAnyH_take (i := 1) (oi := ?_) (v := ?_) ?_ (by kernel_rfl) (by kernel_rfl) (by kernel_rfl) ?_ ?_ (by assumption) ?_
            rotate_left 2
            · simp only [List.getElem?_toArray, List.getElem?_cons_succ, List.getElem?_cons_zero]; rfl
            · exact fun _ _ _ h => h
            · first
                | (refine Or.inr ⟨?_, ?_⟩ <;> rfl)
                | (refine Or.inl ⟨?_, ?_⟩; · rfl
                   intro w hSw; (try dsimp only at hSw); go_simp; (try with_reducible rfl); done)
            try simp only [Act.put, List.setIfInBounds_toArray, List.set_cons_zero, List.set_cons_succ]
            refine wpAnyH_take (i := 2) (oi := ?_) (v := ?_) ?_ (by kernel_rfl) (by kernel_rfl) (by kernel_rfl) ?_ ?_ (by assumption) ?_
            rotate_left 2
            · simp only [List.getElem?_toArray, List.getElem?_cons_succ, List.getElem?_cons_zero]; rfl
            · exact fun _ _ _ h => h
            · first
                | (refine Or.inr ⟨?_, ?_⟩ <;> rfl)
                | (refine Or.inl ⟨?_, ?_⟩; · rfl
                   intro w hSw; (try dsimp only at hSw); go_simp; (try with_reducible rfl); done)
            try simp only [Act.put, List.setIfInBounds_toArray, List.set_cons_zero, List.set_cons_succ]
            refine wpAnyH_take (i := 3) (oi := ?_) (v := ?_) ?_ (by kernel_rfl) (by kernel_rfl) (by kernel_rfl) ?_ ?_ (by assumption) ?_
            rotate_left 2
            · simp only [List.getElem?_toArray, List.getElem?_cons_succ, List.getElem?_cons_zero]; rfl
            · exact fun _ _ _ h => h
            · first
                | (refine Or.inr ⟨?_, ?_⟩ <;> rfl)
                | (refine Or.inl ⟨?_, ?_⟩; · rfl
                   intro w hSw; (try dsimp only at hSw); go_simp; (try with_reducible rfl); done)
            try simp only [Act.put, List.setIfInBounds_toArray, List.set_cons_zero, List.set_cons_succ]
            refine wpAnyH_take (i := 4) (oi := ?_) (v := ?_) ?_ (by kernel_rfl) (by kernel_rfl) (by kernel_rfl) ?_ ?_ (by assumption) ?_
            rotate_left 2
            · simp only [List.getElem?_toArray, List.getElem?_cons_succ, List.getElem?_cons_zero]; rfl
            · exact fun _ _ _ h => h
            · first
                | (refine Or.inr ⟨?_, ?_⟩ <;> rfl)
                | (refine Or.inl ⟨?_, ?_⟩; · rfl
                   intro w hSw; (try dsimp only at hSw); go_simp; (try with_reducible rfl); done)
            try simp only [Act.put, List.setIfInBounds_toArray, List.set_cons_zero, List.set_cons_succ]
            refine wpAnyH_take (i := 5) (oi := ?_) (v := ?_) ?_ (by kernel_rfl) (by kernel_rfl) (by kernel_rfl) ?_ ?_ (by assumption) ?_
            rotate_left 2
            · simp only [List.getElem?_toArray, List.getElem?_cons_succ, List.getElem?_cons_zero]; rfl
            · exact fun _ _ _ h => h
            · first
                | (refine Or.inr ⟨?_, ?_⟩ <;> rfl)
                | (refine Or.inl ⟨?_, ?_⟩; · rfl
                   intro w hSw; (try dsimp only at hSw); go_simp; (try with_reducible rfl); done)
            try simp only [Act.put, List.setIfInBounds_toArray, List.set_cons_zero, List.set_cons_succ]
            refine wpAnyH_take (i := 6) (oi := ?_) (v := ?_) ?_ (by kernel_rfl) (by kernel_rfl) (by kernel_rfl) ?_ ?_ (by assumption) ?_
            rotate_left 2
            · simp only [List.getElem?_toArray, List.getElem?_cons_succ, List.getElem?_cons_zero]; rfl
            · exact fun _ _ _ h => h
            · first
                | (refine Or.inr ⟨?_, ?_⟩ <;> rfl)
                | (refine Or.inl ⟨?_, ?_⟩; · rfl
                   intro w hSw; (try dsimp only at hSw); go_simp; (try with_reducible rfl); done)
            try simp only [Act.put, List.setIfInBounds_toArray, List.set_cons_zero, List.set_cons_succ]
            refine wpAnyH_take (i := 7) (oi := ?_) (v := ?_) ?_ (by kernel_rfl) (by kernel_rfl) (by kernel_rfl) ?_ ?_ (by assumption) ?_
            rotate_left 2
            · simp only [List.getElem?_toArray, List.getElem?_cons_succ, List.getElem?_cons_zero]; rfl
            · exact fun _ _ _ h => h
            · first
                | (refine Or.inr ⟨?_, ?_⟩ <;> rfl)
                | (refine Or.inl ⟨?_, ?_⟩; · rfl
                   intro w hSw; (try dsimp only at hSw); go_simp; (try with_reducible rfl); done)
            try simp only [Act.put, List.setIfInBounds_toArray, List.set_cons_zero, List.set_cons_succ]
            refine wpAnyH_take (i := 8) (oi := ?_) (v := ?_) ?_ (by kernel_rfl) (by kernel_rfl) (by kernel_rfl) ?_ ?_ (by assumption) ?_
            rotate_left 2
            · simp only [List.getElem?_toArray, List.getElem?_cons_succ, List.getElem?_cons_zero]; rfl
            · exact fun _ _ _ h => h
            · first
                | (refine Or.inr ⟨?_, ?_⟩ <;> rfl)
                | (refine Or.inl ⟨?_, ?_⟩; · rfl
                   intro w hSw; (try dsimp only at hSw); go_simp; (try with_reducible rfl); done)
            try simp only [Act.put, List.setIfInBounds_toArray, List.set_cons_zero, List.set_cons_succ]
            refine wpAnyH_take (i := 9) (oi := ?_) (v := ?_) ?_ (by kernel_rfl) (by kernel_rfl) (by kernel_rfl) ?_ ?_ (by assumption) ?_
            rotate_left 2
            · simp only [List.getElem?_toArray, List.getElem?_cons_succ, List.getElem?_cons_zero]; rfl
            · exact fun _ _ _ h => h
            · first
                | (refine Or.inr ⟨?_, ?_⟩ <;> rfl)
                | (refine Or.inl ⟨?_, ?_⟩; · rfl
                   intro w hSw; (try dsimp only at hSw); go_simp; (try with_reducible rfl); done)
            try simp only [Act.put, List.setIfInBounds_toArray, List.set_cons_zero, List.set_cons_succ]
            refine wpAnyH_take (i := 10) (oi := ?_) (v := ?_) ?_ (by kernel_rfl) (by kernel_rfl) (by kernel_rfl) ?_ ?_ (by assumption) ?_
            rotate_left 2
            · simp only [List.getElem?_toArray, List.getElem?_cons_succ, List.getElem?_cons_zero]; rfl
            · exact fun _ _ _ h => h
            · first
                | (refine Or.inr ⟨?_, ?_⟩ <;> rfl)
                | (refine Or.inl ⟨?_, ?_⟩; · rfl
                   intro w hSw; (try dsimp only at hSw); go_simp; (try with_reducible rfl); done)
            try simp only [Act.put, List.setIfInBounds_toArray, List.set_cons_zero, List.set_cons_succ]
            refine wpAnyH_take (i := 11) (oi := ?_) (v := ?_) ?_ (by kernel_rfl) (by kernel_rfl) (by kernel_rfl) ?_ ?_ (by assumption) ?_
            rotate_left 2
            · simp only [List.getElem?_toArray, List.getElem?_cons_succ, List.getElem?_cons_zero]; rfl
            · exact fun _ _ _ h => h
            · first
                | (refine Or.inr ⟨?_, ?_⟩ <;> rfl)
                | (refine Or.inl ⟨?_, ?_⟩; · rfl
                   intro w hSw; (try dsimp only at hSw); go_simp; (try with_reducible rfl); done)
            try simp only [Act.put, List.setIfInBounds_toArray, List.set_cons_zero, List.set_cons_succ]
            refine wpAnyH_take (i := 12) (oi := ?_) (v := ?_) ?_ (by kernel_rfl) (by kernel_rfl) (by kernel_rfl) ?_ ?_ (by assumption) ?_
            rotate_left 2
            · simp only [List.getElem?_toArray, List.getElem?_cons_succ, List.getElem?_cons_zero]; rfl
            · exact fun _ _ _ h => h
            · first
                | (refine Or.inr ⟨?_, ?_⟩ <;> rfl)
                | (refine Or.inl ⟨?_, ?_⟩; · rfl
                   intro w hSw; (try dsimp only at hSw); go_simp; (try with_reducible rfl); done)
            try simp only [Act.put, List.setIfInBounds_toArray, List.set_cons_zero, List.set_cons_succ]
            refine wpAnyH_take (i := 13) (oi := ?_) (v := ?_) ?_ (by kernel_rfl) (by kernel_rfl) (by kernel_rfl) ?_ ?_ (by assumption) ?_
            rotate_left 2
            · simp only [List.getElem?_toArray, List.getElem?_cons_succ, List.getElem?_cons_zero]; rfl
            · exact fun _ _ _ h => h
            · first
                | (refine Or.inr ⟨?_, ?_⟩ <;> rfl)
                | (refine Or.inl ⟨?_, ?_⟩; · rfl
                   intro w hSw; (try dsimp only at hSw); go_simp; (try with_reducible rfl); done)
            try simp only [Act.put, List.setIfInBounds_toArray, List.set_cons_zero, List.set_cons_succ]
            refine wpAnyH_take (i := 14) (oi := ?_) (v := ?_) ?_ (by kernel_rfl) (by kernel_rfl) (by kernel_rfl) ?_ ?_ (by assumption) ?_
            rotate_left 2
            · simp only [List.getElem?_toArray, List.getElem?_cons_succ, List.getElem?_cons_zero]; rfl
            · exact fun _ _ _ h => h
            · first
                | (refine Or.inr ⟨?_, ?_⟩ <;> rfl)
                | (refine Or.inl ⟨?_, ?_⟩; · rfl
                   intro w hSw; (try dsimp only at hSw); go_simp; (try with_reducible rfl); done)
            try simp only [Act.put, List.setIfInBounds_toArray, List.set_cons_zero, List.set_cons_succ]
            refine wpAnyH_take (i := 15) (oi := ?_) (v := ?_) ?_ (by kernel_rfl) (by kernel_rfl) (by kernel_rfl) ?_ ?_ (by assumption) ?_
            rotate_left 2
            · simp only [List.getElem?_toArray, List.getElem?_cons_succ, List.getElem?_cons_zero]; rfl
            · exact fun _ _ _ h => h
            · first
                | (refine Or.inr ⟨?_, ?_⟩ <;> rfl)
                | (refine Or.inl ⟨?_, ?_⟩; · rfl
                   intro w hSw; (try dsimp only at hSw); go_simp; (try with_reducible rfl); done)
            try simp only [Act.put, List.setIfInBounds_toArray, List.set_cons_zero, List.set_cons_succ]
            refine wpAnyH_take (i := 16) (oi := ?_) (v := ?_) ?_ (by kernel_rfl) (by kernel_rfl) (by kernel_rfl) ?_ ?_ (by assumption) ?_
            rotate_left 2
            · simp only [List.getElem?_toArray, List.getElem?_cons_succ, List.getElem?_cons_zero]; rfl
            · exact fun _ _ _ h => h
            · first
                | (refine Or.inr ⟨?_, ?_⟩ <;> rfl)
                | (refine Or.inl ⟨?_, ?_⟩; · rfl
                   intro w hSw; (try dsimp only at hSw); go_simp; (try with_reducible rfl); done)
            try simp only [Act.put, List.setIfInBounds_toArray, List.set_cons_zero, List.set_cons_succ]
            refine wpAnyH_take (i := 17) (oi := ?_) (v := ?_) ?_ (by kernel_rfl) (by kernel_rfl) (by kernel_rfl) ?_ ?_ (by assumption) ?_
            rotate_left 2
            · simp only [List.getElem?_toArray, List.getElem?_cons_succ, List.getElem?_cons_zero]; rfl
            · exact fun _ _ _ h => h
            · first
                | (refine Or.inr ⟨?_, ?_⟩ <;> rfl)
                | (refine Or.inl ⟨?_, ?_⟩; · rfl
                   intro w hSw; (try dsimp only at hSw); go_simp; (try with_reducible rfl); done)
            try simp only [Act.put, List.setIfInBounds_toArray, List.set_cons_zero, List.set_cons_succ]
            refine wpAnyH_done (by kernel_rfl) ?_ _
            clear hHeld
            have HZ : Hid (fxZ ns t x = (prM ns i, x.extract i (i + 1)) ∧ (fxK t x : Int) = (i : Nat)) := by
              refine ⟨?_, by rw [HF.out]⟩
              unfold fxZ
              rw [HF.out]
            rw [HZ.out.1] at HN1
            rw [HZ.out.2] at HN2
            replace HI := Lib.hid HI.out.drew
            have hcc2 : wr.drew.cell? ⟨gt, j, none⟩ = some (.string x) := hcc
            clear hcc
            generalize wr.drew = wr at *
            have HO3 := Lib.hid (OwnN.ext HI.out.nt (prM ns i, x.extract i (i + 1)))
            have HN := Lib.hid (ntF_new xs (prM ns i, x.extract i (i + 1)))
            by_cases hi0 : i = 0
            · have HP0 : Hid (prM ns i = 0) := if_pos hi0
              have hi2 : ¬ (0 : Int) < ((i : Nat) : Int) := by omega
              have hi3 : ¬ 0 < i := by omega
              clear hi0
              rw [HP0.out] at HO3 HN HN1
              go_wp2_with (first | (at_builtin; refine wpList_push elMv rfl (.tmp 56) (.tmp 67) rfl HO3.out rfl [.int .i64 0, .string (x.extract i (i + 1))] (by show Value.slice _ 1 1 = _; simp) HN.out (fun _ _ => mvF_one _ _ _) (by unfold maxLen; omega) (by omega) ?_; intro g' c' wa HA hgr hd; have HI3 := Lib.hid (HI.out.pushN HA hgr hd); clear HA hgr hd) | (at_builtin; refine wpList_pushI elInt rfl (.tmp 69) (.tmp 71) (by rfl) (f := fun q => iF (js ++ [((i : Nat) : Int)]) q) (OwnI.ext HI3.out.it _) (by rfl) (by rfl) (by exact iF_new.symm) (by omega) ?_; intro g'' c'' wb HA hgr hd; have HI4 := Lib.hid (HI3.out.pushI HA hgr hd); clear HA hgr hd))
              go_roundw
              case rel => exact ⟨j + 1, g', c', g'', c'', by omega, by go_num, by rw [HN1.out]; simp, by rw [HN2.out]; simp, by rw [HN1.out, HN2.out]; exact HI4.out⟩
              case measure => simp [intOf]; omega
            · obtain ⟨b0, b1⟩ := HC.out _ HI.out.bl (i - 1) (by have := HTS.out; omega)
              have HP0 : Hid (nM ns (i - 1) = prM ns i) := (if_neg hi0).symm
              rw [HP0.out] at b0
              have hi2 : (0 : Int) < ((i : Nat) : Int) := by omega
              have v1 : IntKind.i64.wrap (((i : Nat) : Int) - 1) = ((i : Nat) : Int) - 1 := IntWalk.i64_in _ (by have := HTS.out; omega)
              have v2 : (((i : Nat) : Int) - 1).toNat = i - 1 := by omega
              have v3 : (0 : Int) ≤ ((i : Nat) : Int) - 1 := by omega
              have v4 : ((i : Nat) : Int) - 1 < (ns.length : Int) := by have := HTS.out; omega
              have v5 : i - 1 < ns.length := by have := HTS.out; omega
              have v6 : (1 : Int) ≤ ((i : Nat) : Int) := by omega
              clear b1
              go_wp2_with (first | (at_builtin; refine wpList_push elMv rfl (.tmp 56) (.tmp 67) rfl HO3.out rfl [.int .i64 (prM ns i), .string (x.extract i (i + 1))] (by show Value.slice _ 1 1 = _; simp) HN.out (fun _ _ => mvF_one _ _ _) (by unfold maxLen; omega) (by omega) ?_; intro g' c' wa HA hgr hd; have HI3 := Lib.hid (HI.out.pushN HA hgr hd); clear HA hgr hd) | (at_builtin; refine wpList_pushI elInt rfl (.tmp 69) (.tmp 71) (by rfl) (f := fun q => iF (js ++ [((i : Nat) : Int)]) q) (OwnI.ext HI3.out.it _) (by rfl) (by rfl) (by exact iF_new.symm) (by omega) ?_; intro g'' c'' wb HA hgr hd; have HI4 := Lib.hid (HI3.out.pushI HA hgr hd); clear HA hgr hd))
              go_roundw
              case rel => exact ⟨j + 1, g', c', g'', c'', by omega, by go_num, by rw [HN1.out]; simp, by rw [HN2.out]; simp, by rw [HN1.out, HN2.out]; exact HI4.out⟩
              case measure => simp [intOf]; omega
        · obtain rfl : i = t.size := by omega
          have HF : Hid (fxK t x = t.size) := by have h1 := HK.out; have h2 := fxK_le t x; show _ = _; omega
          clear hts hxs
          go_wp2_with fail
          refine wp_region_held_drew (S := (fun W => W.cell? ⟨gt, j, none⟩ = some (.string x))) (by kernel_rfl) hcc (fun hHeld => ?_)
          refine wpAnyH_take (i := 0) (oi := ?_) (v := ?_) ?_ (by kernel_rfl) (by kernel_rfl) (by kernel_rfl) ?_ ?_ (by assumption) ?_
          rotate_left 2
          · simp only [List.getElem?_toArray, List.getElem?_cons_succ, List.getElem?_cons_zero]; rfl
          · exact fun _ _ _ h => h
          · first
              | (refine Or.inr ⟨?_, ?_⟩ <;> rfl)
              | (refine Or.inl ⟨?_, ?_⟩; · rfl
                 intro w hSw; (try dsimp only at hSw); go_simp; (try with_reducible rfl); done)
          try simp only [Act.put, List.setIfInBounds_toArray, List.set_cons_zero, List.set_cons_succ]
          refine wpAnyH_take (i := 1) (oi := ?_) (v := ?_) ?_ (by kernel_rfl) (by kernel_rfl) (by kernel_rfl) ?_ ?_ (by assumption) ?_
          rotate_left 2
          · simp only [List.getElem?_toArray, List.getElem?_cons_succ, List.getElem?_cons_zero]; rfl
          · exact fun _ _ _ h => h
          · first
              | (refine Or.inr ⟨?_, ?_⟩ <;> rfl)
              | (refine Or.inl ⟨?_, ?_⟩; · rfl
                 intro w hSw; (try dsimp only at hSw); go_simp; (try with_reducible rfl); done)
          try simp only [Act.put, List.setIfInBounds_toArray, List.set_cons_zero, List.set_cons_succ]
          refine wpAnyH_take (i := 2) (oi := ?_) (v := ?_) ?_ (by kernel_rfl) (by kernel_rfl) (by kernel_rfl) ?_ ?_ (by assumption) ?_
          rotate_left 2
          · simp only [List.getElem?_toArray, List.getElem?_cons_succ, List.getElem?_cons_zero]; rfl
          · exact fun _ _ _ h => h
          · first
              | (refine Or.inr ⟨?_, ?_⟩ <;> rfl)
              | (refine Or.inl ⟨?_, ?_⟩; · rfl
                 intro w hSw; (try dsimp only at hSw); go_simp; (try with_reducible rfl); done)
          try simp only [Act.put, List.setIfInBounds_toArray, List.set_cons_zero, List.set_cons_succ]
          refine wpAnyH_take (i := 3) (oi := ?_) (v := ?_) ?_ (by kernel_rfl) (by kernel_rfl) (by kernel_rfl) ?_ ?_ (by assumption) ?_
          rotate_left 2
          · simp only [List.getElem?_toArray, List.getElem?_cons_succ, List.getElem?_cons_zero]; rfl
          · exact fun _ _ _ h => h
          · first
              | (refine Or.inr ⟨?_, ?_⟩ <;> rfl)
              | (refine Or.inl ⟨?_, ?_⟩; · rfl
                 intro w hSw; (try dsimp only at hSw); go_simp; (try with_reducible rfl); done)
          try simp only [Act.put, List.setIfInBounds_toArray, List.set_cons_zero, List.set_cons_succ]
          refine wpAnyH_take (i := 4) (oi := ?_) (v := ?_) ?_ (by kernel_rfl) (by kernel_rfl) (by kernel_rfl) ?_ ?_ (by assumption) ?_
          rotate_left 2
          · simp only [List.getElem?_toArray, List.getElem?_cons_succ, List.getElem?_cons_zero]; rfl
          · exact fun _ _ _ h => h
          · first
              | (refine Or.inr ⟨?_, ?_⟩ <;> rfl)
              | (refine Or.inl ⟨?_, ?_⟩; · rfl
                 intro w hSw; (try dsimp only at hSw); go_simp; (try with_reducible rfl); done)
          try simp only [Act.put, List.setIfInBounds_toArray, List.set_cons_zero, List.set_cons_succ]
          refine wpAnyH_take (i := 5) (oi := ?_) (v := ?_) ?_ (by kernel_rfl) (by kernel_rfl) (by kernel_rfl) ?_ ?_ (by assumption) ?_
          rotate_left 2
          · simp only [List.getElem?_toArray, List.getElem?_cons_succ, List.getElem?_cons_zero]; rfl
          · exact fun _ _ _ h => h
          · first
              | (refine Or.inr ⟨?_, ?_⟩ <;> rfl)
              | (refine Or.inl ⟨?_, ?_⟩; · rfl
                 intro w hSw; (try dsimp only at hSw); go_simp; (try with_reducible rfl); done)
          try simp only [Act.put, List.setIfInBounds_toArray, List.set_cons_zero, List.set_cons_succ]
          refine wpAnyH_take (i := 6) (oi := ?_) (v := ?_) ?_ (by kernel_rfl) (by kernel_rfl) (by kernel_rfl) ?_ ?_ (by assumption) ?_
          rotate_left 2
          · simp only [List.getElem?_toArray, List.getElem?_cons_succ, List.getElem?_cons_zero]; rfl
          · exact fun _ _ _ h => h
          · first
              | (refine Or.inr ⟨?_, ?_⟩ <;> rfl)
              | (refine Or.inl ⟨?_, ?_⟩; · rfl
                 intro w hSw; (try dsimp only at hSw); go_simp; (try with_reducible rfl); done)
          try simp only [Act.put, List.setIfInBounds_toArray, List.set_cons_zero, List.set_cons_succ]
          refine wpAnyH_take (i := 7) (oi := ?_) (v := ?_) ?_ (by kernel_rfl) (by kernel_rfl) (by kernel_rfl) ?_ ?_ (by assumption) ?_
          rotate_left 2
          · simp only [List.getElem?_toArray, List.getElem?_cons_succ, List.getElem?_cons_zero]; rfl
          · exact fun _ _ _ h => h
          · first
              | (refine Or.inr ⟨?_, ?_⟩ <;> rfl)
              | (refine Or.inl ⟨?_, ?_⟩; · rfl
                 intro w hSw; (try dsimp only at hSw); go_simp; (try with_reducible rfl); done)
          try simp only [Act.put, List.setIfInBounds_toArray, List.set_cons_zero, List.set_cons_succ]
          refine wpAnyH_take (i := 8) (oi := ?_) (v := ?_) ?_ (by kernel_rfl) (by kernel_rfl) (by kernel_rfl) ?_ ?_ (by assumption) ?_
          rotate_left 2
          · simp only [List.getElem?_toArray, List.getElem?_cons_succ, List.getElem?_cons_zero]; rfl
          · exact fun _ _ _ h => h
          · first
              | (refine Or.inr ⟨?_, ?_⟩ <;> rfl)
              | (refine Or.inl ⟨?_, ?_⟩; · rfl
                 intro w hSw; (try dsimp only at hSw); go_simp; (try with_reducible rfl); done)
          try simp only [Act.put, List.setIfInBounds_toArray, List.set_cons_zero, List.set_cons_succ]
          refine wpAnyH_take (i := 9) (oi := ?_) (v := ?_) ?_ (by kernel_rfl) (by kernel_rfl) (by kernel_rfl) ?_ ?_ (by assumption) ?_
          rotate_left 2
          · simp only [List.getElem?_toArray, List.getElem?_cons_succ, List.getElem?_cons_zero]; rfl
          · exact fun _ _ _ h => h
          · first
              | (refine Or.inr ⟨?_, ?_⟩ <;> rfl)
              | (refine Or.inl ⟨?_, ?_⟩; · rfl
                 intro w hSw; (try dsimp only at hSw); go_simp; (try with_reducible rfl); done)
          try simp only [Act.put, List.setIfInBounds_toArray, List.set_cons_zero, List.set_cons_succ]
          refine wpAnyH_take (i := 10) (oi := ?_) (v := ?_) ?_ (by kernel_rfl) (by kernel_rfl) (by kernel_rfl) ?_ ?_ (by assumption) ?_
          rotate_left 2
          · simp only [List.getElem?_toArray, List.getElem?_cons_succ, List.getElem?_cons_zero]; rfl
          · exact fun _ _ _ h => h
          · first
              | (refine Or.inr ⟨?_, ?_⟩ <;> rfl)
              | (refine Or.inl ⟨?_, ?_⟩; · rfl
                 intro w hSw; (try dsimp only at hSw); go_simp; (try with_reducible rfl); done)
          try simp only [Act.put, List.setIfInBounds_toArray, List.set_cons_zero, List.set_cons_succ]
          refine wpAnyH_take (i := 11) (oi := ?_) (v := ?_) ?_ (by kernel_rfl) (by kernel_rfl) (by kernel_rfl) ?_ ?_ (by assumption) ?_
          rotate_left 2
          · simp only [List.getElem?_toArray, List.getElem?_cons_succ, List.getElem?_cons_zero]; rfl
          · exact fun _ _ _ h => h
          · first
              | (refine Or.inr ⟨?_, ?_⟩ <;> rfl)
              | (refine Or.inl ⟨?_, ?_⟩; · rfl
                 intro w hSw; (try dsimp only at hSw); go_simp; (try with_reducible rfl); done)
          try simp only [Act.put, List.setIfInBounds_toArray, List.set_cons_zero, List.set_cons_succ]
          refine wpAnyH_take (i := 12) (oi := ?_) (v := ?_) ?_ (by kernel_rfl) (by kernel_rfl) (by kernel_rfl) ?_ ?_ (by assumption) ?_
          rotate_left 2
          · simp only [List.getElem?_toArray, List.getElem?_cons_succ, List.getElem?_cons_zero]; rfl
          · exact fun _ _ _ h => h
          · first
              | (refine Or.inr ⟨?_, ?_⟩ <;> rfl)
              | (refine Or.inl ⟨?_, ?_⟩; · rfl
                 intro w hSw; (try dsimp only at hSw); go_simp; (try with_reducible rfl); done)
          try simp only [Act.put, List.setIfInBounds_toArray, List.set_cons_zero, List.set_cons_succ]
          refine wpAnyH_take (i := 13) (oi := ?_) (v := ?_) ?_ (by kernel_rfl) (by kernel_rfl) (by kernel_rfl) ?_ ?_ (by assumption) ?_
          rotate_left 2
          · simp only [List.getElem?_toArray, List.getElem?_cons_succ, List.getElem?_cons_zero]; rfl
          · exact fun _ _ _ h => h
          · first
              | (refine Or.inr ⟨?_, ?_⟩ <;> rfl)
              | (refine Or.inl ⟨?_, ?_⟩; · rfl
                 intro w hSw; (try dsimp only at hSw); go_simp; (try with_reducible rfl); done)
          try simp only [Act.put, List.setIfInBounds_toArray, List.set_cons_zero, List.set_cons_succ]
          refine wpAnyH_take (i := 14) (oi := ?_) (v := ?_) ?_ (by kernel_rfl) (by kernel_rfl) (by kernel_rfl) ?_ ?_ (by assumption) ?_
          rotate_left 2
          · simp only [List.getElem?_toArray, List.getElem?_cons_succ, List.getElem?_cons_zero]; rfl
          · exact fun _ _ _ h => h
          · first
              | (refine Or.inr ⟨?_, ?_⟩ <;> rfl)
              | (refine Or.inl ⟨?_, ?_⟩; · rfl
                 intro w hSw; (try dsimp only at hSw); go_simp; (try with_reducible rfl); done)
          try simp only [Act.put, List.setIfInBounds_toArray, List.set_cons_zero, List.set_cons_succ]
          refine wpAnyH_take (i := 15) (oi := ?_) (v := ?_) ?_ (by kernel_rfl) (by kernel_rfl) (by kernel_rfl) ?_ ?_ (by assumption) ?_
          rotate_left 2
          · simp only [List.getElem?_toArray, List.getElem?_cons_succ, List.getElem?_cons_zero]; rfl
          · exact fun _ _ _ h => h
          · first
              | (refine Or.inr ⟨?_, ?_⟩ <;> rfl)
              | (refine Or.inl ⟨?_, ?_⟩; · rfl
                 intro w hSw; (try dsimp only at hSw); go_simp; (try with_reducible rfl); done)
          try simp only [Act.put, List.setIfInBounds_toArray, List.set_cons_zero, List.set_cons_succ]
          refine wpAnyH_take (i := 16) (oi := ?_) (v := ?_) ?_ (by kernel_rfl) (by kernel_rfl) (by kernel_rfl) ?_ ?_ (by assumption) ?_
          rotate_left 2
          · simp only [List.getElem?_toArray, List.getElem?_cons_succ, List.getElem?_cons_zero]; rfl
          · exact fun _ _ _ h => h
          · first
              | (refine Or.inr ⟨?_, ?_⟩ <;> rfl)
              | (refine Or.inl ⟨?_, ?_⟩; · rfl
                 intro w hSw; (try dsimp only at hSw); go_simp; (try with_reducible rfl); done)
          try simp only [Act.put, List.setIfInBounds_toArray, List.set_cons_zero, List.set_cons_succ]
          refine wpAnyH_take (i := 17) (oi := ?_) (v := ?_) ?_ (by kernel_rfl) (by kernel_rfl) (by kernel_rfl) ?_ ?_ (by assumption) ?_
          rotate_left 2
          · simp only [List.getElem?_toArray, List.getElem?_cons_succ, List.getElem?_cons_zero]; rfl
          · exact fun _ _ _ h => h
          · first
              | (refine Or.inr ⟨?_, ?_⟩ <;> rfl)
              | (refine Or.inl ⟨?_, ?_⟩; · rfl
                 intro w hSw; (try dsimp only at hSw); go_simp; (try with_reducible rfl); done)
          try simp only [Act.put, List.setIfInBounds_toArray, List.set_cons_zero, List.set_cons_succ]
          refine wpAnyH_done (by kernel_rfl) ?_ _
          clear hHeld
          have HZ : Hid (fxZ ns t x = (prM ns t.size, x.extract t.size (t.size + 1)) ∧ (fxK t x : Int) = (t.size : Nat)) := by
            refine ⟨?_, by rw [HF.out]⟩
            unfold fxZ
            rw [HF.out]
          rw [HZ.out.1] at HN1
          rw [HZ.out.2] at HN2
          replace HI := Lib.hid HI.out.drew
          have hcc2 : wr.drew.cell? ⟨gt, j, none⟩ = some (.string x) := hcc
          clear hcc
          generalize wr.drew = wr at *
          have HO3 := Lib.hid (OwnN.ext HI.out.nt (prM ns t.size, x.extract t.size (t.size + 1)))
          have HN := Lib.hid (ntF_new xs (prM ns t.size, x.extract t.size (t.size + 1)))
          by_cases hi0 : t.size = 0
          · have HP0 : Hid (prM ns t.size = 0) := if_pos hi0
            have hi2 : ¬ (0 : Int) < ((t.size : Nat) : Int) := by omega
            have hi3 : ¬ 0 < t.size := by omega
            clear hi0
            rw [HP0.out] at HO3 HN HN1
            go_wp2_with (first | (at_builtin; refine wpList_push elMv rfl (.tmp 56) (.tmp 67) rfl HO3.out rfl [.int .i64 0, .string (x.extract t.size (t.size + 1))] (by show Value.slice _ 1 1 = _; simp) HN.out (fun _ _ => mvF_one _ _ _) (by unfold maxLen; omega) (by omega) ?_; intro g' c' wa HA hgr hd; have HI3 := Lib.hid (HI.out.pushN HA hgr hd); clear HA hgr hd) | (at_builtin; refine wpList_pushI elInt rfl (.tmp 69) (.tmp 71) (by rfl) (f := fun q => iF (js ++ [((t.size : Nat) : Int)]) q) (OwnI.ext HI3.out.it _) (by rfl) (by rfl) (by exact iF_new.symm) (by omega) ?_; intro g'' c'' wb HA hgr hd; have HI4 := Lib.hid (HI3.out.pushI HA hgr hd); clear HA hgr hd))
            go_roundw
            case rel => exact ⟨j + 1, g', c', g'', c'', by omega, by go_num, by rw [HN1.out]; simp, by rw [HN2.out]; simp, by rw [HN1.out, HN2.out]; exact HI4.out⟩
            case measure => simp [intOf]; omega
          · obtain ⟨b0, b1⟩ := HC.out _ HI.out.bl (t.size - 1) (by have := HTS.out; omega)
            have HP0 : Hid (nM ns (t.size - 1) = prM ns t.size) := (if_neg hi0).symm
            rw [HP0.out] at b0
            have hi2 : (0 : Int) < ((t.size : Nat) : Int) := by omega
            have v1 : IntKind.i64.wrap (((t.size : Nat) : Int) - 1) = ((t.size : Nat) : Int) - 1 := IntWalk.i64_in _ (by have := HTS.out; omega)
            have v2 : (((t.size : Nat) : Int) - 1).toNat = t.size - 1 := by omega
            have v3 : (0 : Int) ≤ ((t.size : Nat) : Int) - 1 := by omega
            have v4 : ((t.size : Nat) : Int) - 1 < (ns.length : Int) := by have := HTS.out; omega
            have v5 : t.size - 1 < ns.length := by have := HTS.out; omega
            have v6 : (1 : Int) ≤ ((t.size : Nat) : Int) := by omega
            clear b1
            go_wp2_with (first | (at_builtin; refine wpList_push elMv rfl (.tmp 56) (.tmp 67) rfl HO3.out rfl [.int .i64 (prM ns t.size), .string (x.extract t.size (t.size + 1))] (by show Value.slice _ 1 1 = _; simp) HN.out (fun _ _ => mvF_one _ _ _) (by unfold maxLen; omega) (by omega) ?_; intro g' c' wa HA hgr hd; have HI3 := Lib.hid (HI.out.pushN HA hgr hd); clear HA hgr hd) | (at_builtin; refine wpList_pushI elInt rfl (.tmp 69) (.tmp 71) (by rfl) (f := fun q => iF (js ++ [((t.size : Nat) : Int)]) q) (OwnI.ext HI3.out.it _) (by rfl) (by rfl) (by exact iF_new.symm) (by omega) ?_; intro g'' c'' wb HA hgr hd; have HI4 := Lib.hid (HI3.out.pushI HA hgr hd); clear HA hgr hd))
            go_roundw
            case rel => exact ⟨j + 1, g', c', g'', c'', by omega, by go_num, by rw [HN1.out]; simp, by rw [HN2.out]; simp, by rw [HN1.out, HN2.out]; exact HI4.out⟩
            case measure => simp [intOf]; omega
    · obtain rfl : j = L.length := by omega
      have hji : ¬ (L.length : Int) < (L.length : Int) := by omega
      have h1 : fxN ns (L.take L.length) = fixN ns := by rw [HV.out.1, List.take_length]
      have h2 : fxI ns (L.take L.length) = fixI ns := by rw [HV.out.2, List.take_length]
      rw [h1, h2] at HI ⊢
      clear h1 h2
      go_wp2_with fail
      go_ret2
      exact ⟨⟨g, c, g2, c2, rfl, HI.out.nt, HI.out.it, HI.out.gz, HI.out.gz2, HI.out.dd⟩, HI.out.bl⟩
end Go.Proofs.Ytokddeoliieofaa
