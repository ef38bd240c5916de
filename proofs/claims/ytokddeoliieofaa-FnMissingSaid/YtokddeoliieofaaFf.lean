/-
  RegisterFix of the program.
-/
import Derived.Test.YtokddeoliieofaaFe
import Derived.Test.YtokddeoliieofaaFc
namespace Go.Proofs.Ytokddeoliieofaa
open Go.RowKit

/-- notes and indexes handed back in rows of their own -/
def FxR (xs : List (Int × ByteArray)) (js : List Int) (w : World) (e : Ending) (w' : World) : Prop :=
  (∃ g c g2 c2, e = .returned (.tuple #[.slice (some ⟨g, 0, none⟩) (List.length xs) c, .slice (some ⟨g2, 0, none⟩) (List.length js) c2]) ∧ OwnN w' g c xs ∧ OwnI w' g2 c2 js ∧ w.heap.size ≤ g ∧ w.heap.size ≤ g2 ∧ g ≠ g2) ∧ Below w.heap.size w w'
def fixN (ns : List (Int × ByteArray)) : List (Int × ByteArray) := if rgV ns = true then fxN ns (repL (txN ns)) else []
def fixI (ns : List (Int × ByteArray)) : List Int := if rgV ns = true then fxI ns (repL (txN ns)) else []
theorem fxN_snoc (ns : List (Int × ByteArray)) (l : List ByteArray) (x : ByteArray) : fxN ns (l ++ [x]) = fxN ns l ++ [fxZ ns (txN ns) x] := by simp [fxN]
theorem fxI_snoc (ns : List (Int × ByteArray)) (l : List ByteArray) (x : ByteArray) : fxI ns (l ++ [x]) = fxI ns l ++ [(fxK (txN ns) x : Int)] := by simp [fxI]
theorem fxN_len (ns : List (Int × ByteArray)) (l : List ByteArray) : (fxN ns l).length = l.length := by simp [fxN]
theorem fxI_len (ns : List (Int × ByteArray)) (l : List ByteArray) : (fxI ns l).length = l.length := by simp [fxI]
theorem below_all2 (w : World) (a b : Obj) : Below w.heap.size w ((w.alloc a).alloc b) := (below_all w a).alloc (by simp) _
theorem txN_size2 {ns : List (Int × ByteArray)} (h : rgV ns = true) : (txN ns).size = ns.length := by
  show (rgT ns).toArray.size = _
  rw [List.size_toArray, rgT_size h]
theorem OwnI.ext {w : World} {g cap : Nat} {l : List Int} (h : OwnI w g cap l) (z : Int) : Own w g cap l.length 1 3 (fun q => .int .i64 (iF (l ++ [z]) q)) := Own.congr h (fun q hq => by rw [iF_old (by omega)])
/-- between two rounds of RegisterFix -/
structure RfI (w wr : World) (r : Nat) (es : List Nat) (ns : List (Int × ByteArray)) (gt ct : Nat) (L : List ByteArray) (g c : Nat) (xs : List (Int × ByteArray)) (g2 c2 : Nat) (js : List Int) : Prop where
  rg : RgC wr r es ns
  tx : OwnS wr gt ct L
  nt : OwnN wr g c xs
  it : OwnI wr g2 c2 js
  d1 : g ≠ r
  d2 : ∀ i, i < es.length → g ≠ es.getD i 0
  d3 : g ≠ gt
  e1 : g2 ≠ r
  e2 : ∀ i, i < es.length → g2 ≠ es.getD i 0
  e3 : g2 ≠ gt
  dd : g ≠ g2
  gz : w.heap.size ≤ g
  gz2 : w.heap.size ≤ g2
  bl : Below w.heap.size w wr
theorem RfI.keep {w wr wa : World} {r : Nat} {es : List Nat} {ns : List (Int × ByteArray)} {gt ct : Nat} {L : List ByteArray} {g c : Nat} {xs : List (Int × ByteArray)} {g2 c2 : Nat} {js : List Int} (h : RfI w wr r es ns gt ct L g c xs g2 c2 js) (hb : Below wr.heap.size wr wa) : RfI w wa r es ns gt ct L g c xs g2 c2 js :=
  ⟨h.rg.below hb (Nat.le_refl _), Own.below h.tx hb (Own.lt h.tx), Own.below h.nt hb (Own.lt h.nt), Own.below h.it hb (Own.lt h.it), h.d1, h.d2, h.d3, h.e1, h.e2, h.e3, h.dd, h.gz, h.gz2, h.bl.trans (hb.mono h.bl.size)⟩
theorem RfI.drew {w wr : World} {r : Nat} {es : List Nat} {ns : List (Int × ByteArray)} {gt ct : Nat} {L : List ByteArray} {g c : Nat} {xs : List (Int × ByteArray)} {g2 c2 : Nat} {js : List Int} (h : RfI w wr r es ns gt ct L g c xs g2 c2 js) : RfI w wr.drew r es ns gt ct L g c xs g2 c2 js := h.keep (Below.refl _ wr).drew
theorem RfI.pushN {w wr wa : World} {r : Nat} {es : List Nat} {ns : List (Int × ByteArray)} {gt ct : Nat} {L : List ByteArray} {g c : Nat} {xs : List (Int × ByteArray)} {g2 c2 : Nat} {js : List Int} (h : RfI w wr r es ns gt ct L g c xs g2 c2 js) {g' c' : Nat} {z : Int × ByteArray} (HA : Own wa g' c' (xs.length + 1) 2 61 (mvF (nM (xs ++ [z])) (nL (xs ++ [z])))) (hgr : wr.grownBy wa (some g)) (hd : (g' = g ∧ c' = c) ∨ wr.heap.size < g') :
    RfI w wa r es ns gt ct L g' c' (xs ++ [z]) g2 c2 js := by
  have hgz := h.gz
  have hbs := h.bl.size
  have hrl := h.rg.box.lt
  have htl := Own.lt h.tx
  have hil := Own.lt h.it
  refine ⟨h.rg.kept hgr h.d1 h.d2, Own.kept h.tx hgr (by have := h.d3; simp; omega), ?_, Own.kept h.it hgr (by have := h.dd; simp; omega), ?_, fun i hi => ?_, ?_, h.e1, h.e2, h.e3, ?_, ?_, h.gz2, h.bl.trans (below_of_grown hgr hgz hbs)⟩
  · unfold OwnN
    rw [List.length_append]
    exact HA
  · rcases hd with ⟨rfl, _⟩ | q
    · exact h.d1
    · omega
  · rcases hd with ⟨rfl, _⟩ | q
    · exact h.d2 i hi
    · have := (h.rg.ent i hi).lt
      omega
  · rcases hd with ⟨rfl, _⟩ | q
    · exact h.d3
    · omega
  · rcases hd with ⟨rfl, _⟩ | q
    · exact h.dd
    · omega
  · rcases hd with ⟨rfl, _⟩ | q <;> omega
theorem RfI.pushI {w wr wa : World} {r : Nat} {es : List Nat} {ns : List (Int × ByteArray)} {gt ct : Nat} {L : List ByteArray} {g c : Nat} {xs : List (Int × ByteArray)} {g2 c2 : Nat} {js : List Int} (h : RfI w wr r es ns gt ct L g c xs g2 c2 js) {g' c' : Nat} {z : Int} (HA : Own wa g' c' (js.length + 1) 1 3 (fun q => .int .i64 (iF (js ++ [z]) q))) (hgr : wr.grownBy wa (some g2)) (hd : (g' = g2 ∧ c' = c2) ∨ wr.heap.size < g') :
    RfI w wa r es ns gt ct L g c xs g' c' (js ++ [z]) := by
  have hgz := h.gz2
  have hbs := h.bl.size
  have hrl := h.rg.box.lt
  have htl := Own.lt h.tx
  have hnl := Own.lt h.nt
  refine ⟨h.rg.kept hgr h.e1 h.e2, Own.kept h.tx hgr (by have := h.e3; simp; omega), Own.kept h.nt hgr (by have := h.dd; simp; omega), ?_, h.d1, h.d2, h.d3, ?_, fun i hi => ?_, ?_, ?_, h.gz, ?_, h.bl.trans (below_of_grown hgr hgz hbs)⟩
  · unfold OwnI
    rw [List.length_append]
    exact HA
  · rcases hd with ⟨rfl, _⟩ | q
    · exact h.e1
    · omega
  · rcases hd with ⟨rfl, _⟩ | q
    · exact h.e2 i hi
    · have := (h.rg.ent i hi).lt
      omega
  · rcases hd with ⟨rfl, _⟩ | q
    · exact h.e3
    · omega
  · rcases hd with ⟨rfl, _⟩ | q
    · exact h.dd
    · omega
  · rcases hd with ⟨rfl, _⟩ | q <;> omega
set_option linter.unusedSimpArgs false in
set_option maxRecDepth 100000 in
set_option maxHeartbeats 4000000 in
theorem fix_any (b off c : Nat) (ns : List (Int × ByteArray)) (w : World) (hn : ns.length ≤ 1000000000000) (hc : NtC w b off ns) :
    Calls Try.prog 50 #[.slice (some ⟨b, off, none⟩) ns.length c] w (FxR (fixN ns) (fixI ns) w) := by
  have HRO := Lib.hid (registerOf_any b off c ns ((w.alloc (.cells #[] 61)).alloc (.cells #[] 3)) hn (hc.keep (below_all2 _ _ _)))
  have HA0 : Hid (OwnN ((w.alloc (.cells #[] 61)).alloc (.cells #[] 3)) w.heap.size 0 []) := Own.alloc (own_empty _ _ _ _) _
  have HI0 : Hid (OwnI ((w.alloc (.cells #[] 61)).alloc (.cells #[] 3)) (w.heap.size + 1) 0 []) := own_emptyAt (by simp)
  have HB0 : Hid (Below w.heap.size w ((w.alloc (.cells #[] 61)).alloc (.cells #[] 3))) := below_all2 _ _ _
  have hz0 : ((w.alloc (.cells #[] 61)).alloc (.cells #[] 3)).heap.size = w.heap.size + 2 := by simp
  clear hc
  go_enter Try.func50, Try.ntmps50
  go_wp2_with fail
  generalize (w.alloc (.cells #[] 61)).alloc (.cells #[] 3) = w0 at *
  refine HRO.out.mono ?_
  rintro e w1 ⟨⟨r, rfl, hr⟩, hb1⟩
  have HA1 : Hid (OwnN w1 w.heap.size 0 []) := Own.below HA0.out hb1 (Own.lt HA0.out)
  have HI1 : Hid (OwnI w1 (w.heap.size + 1) 0 []) := Own.below HI0.out hb1 (Own.lt HI0.out)
  have HB1 := Lib.hid (HB0.out.trans (hb1.mono HB0.out.size))
  cases hv : rgV ns
  · have HV : Hid (fixN ns = [] ∧ fixI ns = []) := by show _ ∧ _; unfold fixN fixI; rw [hv]; exact ⟨rfl, rfl⟩
    clear hv hr hb1
    go_wp2_with fail
    go_ret2
    exact ⟨⟨w.heap.size, 0, w.heap.size + 1, 0, by rw [HV.out.1, HV.out.2]; rfl, by rw [HV.out.1]; exact HA1.out, by rw [HV.out.2]; exact HI1.out, Nat.le_refl _, by omega, by omega⟩, HB1.out⟩
  have HV : Hid (fixN ns = fxN ns (repL (txN ns)) ∧ fixI ns = fxI ns (repL (txN ns))) := ⟨if_pos hv, if_pos hv⟩
  have hl30 : ns.length ≤ 30 := (rgV_true.1 hv).1
  obtain ⟨r', es, e, h1, h2⟩ := hr hl30
  cases e
  have HSZ := Lib.hid (rgV_sz hv)
  have HRV := Lib.hid hv
  have hts := txN_size2 hv
  clear hr hv
  have hrz : w.heap.size + 2 ≤ r := by have := h2.1; omega
  have hez : ∀ i, i < es.length → w.heap.size + 2 ≤ es.getD i 0 := fun i hi => by have := h2.2 i hi; omega
  have HEZ := Lib.hid hez
  have HR1 := Lib.hid h1
  have HTA := Lib.hid (text_any r es ns w1 h1 (by omega) (fun z hz => by rw [HSZ.out z hz]; omega))
  have HL := Lib.hid h1.len
  have hel : es.length = ns.length := h1.len
  clear h1 h2 hez hb1
  go_wp2_with fail
  refine HTA.out.mono ?_
  rintro e w2 ⟨rfl, hb2⟩
  rw [show (⟨(rgT ns).toArray⟩ : ByteArray) = txN ns from rfl]
  have HR2 := Lib.hid (HR1.out.below hb2 (Nat.le_refl _))
  have HA2 : Hid (OwnN w2 w.heap.size 0 []) := Own.below HA1.out hb2 (Own.lt HA1.out)
  have HI2 : Hid (OwnI w2 (w.heap.size + 1) 0 []) := Own.below HI1.out hb2 (Own.lt HI1.out)
  have HB2 := Lib.hid (HB1.out.trans (hb2.mono HB1.out.size))
  clear hb2 HTA
  obtain ⟨t, ht⟩ : ∃ t, t = txN ns := ⟨_, rfl⟩
  obtain ⟨L, hL⟩ : ∃ L, L = repL t := ⟨_, rfl⟩
  have HT := Lib.hid ht
  have HRP : Hid (Calls Try.prog 53 #[.string t] w2 (TxR L w2)) := by rw [hL]; exact implRepair_any t w2 (by rw [ht, hts]; omega)
  have HX : Hid (∀ x, x ∈ L → x.size = t.size + 1) := fun x hx => repL_size (by rw [← hL]; exact hx)
  have hLL : L.length ≤ 210 := by rw [hL]; exact repL_len t
  rw [← ht, ← hL] at HV
  rw [← ht] at hts ⊢
  have HTS : Hid (t.size = ns.length) := hts
  clear hL ht hts hel
  go_wp2_with fail
  refine HRP.out.mono ?_
  rintro e w3 ⟨⟨gt, ct, rfl, hgt, htx⟩, hb3⟩
  have HM : Hid (RfI w w3 r es ns gt ct L w.heap.size 0 (fxN ns (L.take 0)) (w.heap.size + 1) 0 (fxI ns (L.take 0))) := by
    have z2 := HB2.out.size
    have hrl := HA2.out
    have q1 := Own.lt HI2.out
    exact ⟨HR2.out.below hb3 (Nat.le_refl _), htx, Own.below HA2.out hb3 (Own.lt HA2.out), Own.below HI2.out hb3 (Own.lt HI2.out), by omega, fun i hi => by have := HEZ.out i hi; omega, by omega, by omega, fun i hi => by have := HEZ.out i hi; omega, by omega, by omega, Nat.le_refl _, by omega, HB2.out.trans (hb3.mono z2)⟩
  clear hgt htx hb3 HRP HR1 HR2 HA0 HA1 HA2 HI0 HI1 HI2 HB0 HB1 HB2 HRO
  go_wp2_with fail
  go_loopw [4, 5, 10, 11, 12, 13, 30] (fun o p _ _ _ _ i wr => ∃ (j g c g2 c2 : Nat), j ≤ L.length ∧ i = .int .i64 j ∧ o = .slice (some ⟨g, 0, none⟩) (fxN ns (L.take j)).length c ∧ p = .slice (some ⟨g2, 0, none⟩) (fxI ns (L.take j)).length c2 ∧ Hid (RfI w wr r es ns gt ct L g c (fxN ns (L.take j)) g2 c2 (fxI ns (L.take j)))) (fun _ _ _ _ _ _ i _ => L.length - (intOf i).toNat)
  case atStart => exact ⟨0, w.heap.size, 0, w.heap.size + 1, 0, Nat.zero_le _, rfl, rfl, rfl, HM⟩
  case round =>
    obtain ⟨j, g, c, g2, c2, hj, rfl, rfl, rfl, HI⟩ := hrel
    by_cases hjt : j < L.length
    · have hcc := OwnS.cell HI.out.tx hjt
      have hji : (j : Int) < (L.length : Int) := by omega
      have HTK : Hid (L.take (j + 1) = L.take j ++ [sF L j]) := by show _ = _; rw [sF_at hjt]; exact List.take_succ_eq_append_getElem hjt
      have hxs : (sF L j).size = t.size + 1 := HX.out _ (by rw [sF_at hjt]; exact List.getElem_mem hjt)
      have HN1 : Hid (fxN ns (L.take (j + 1)) = fxN ns (L.take j) ++ [fxZ ns t (sF L j)]) := by show _ = _; rw [HTK.out, fxN_snoc, HT.out]
      have HN2 : Hid (fxI ns (L.take (j + 1)) = fxI ns (L.take j) ++ [(fxK t (sF L j) : Int)]) := by show _ = _; rw [HTK.out, fxI_snoc, HT.out]
      have hnl : (fxN ns (L.take j)).length ≤ 210 := by rw [fxN_len]; simp; omega
      have hil : (fxI ns (L.take j)).length ≤ 210 := by rw [fxI_len]; simp; omega
      generalize sF L j = x at *
      have HXS : Hid (x.size = t.size + 1) := hxs
      clear hxs
      generalize fxN ns (L.take j) = xs at *
      generalize fxI ns (L.take j) = js at *
      have hrc := HI.out.rg.box.cell 0
      simp only [List.getElem?_toArray, List.getElem?_cons_zero] at hrc
      go_wp2_with fail
      clear hrc hcc
      go_loopw [11, 12, 13] (fun k m e wr => ∃ i : Nat, i ≤ t.size ∧ k = .int .i64 i ∧ m = .int .i64 (prM ns i) ∧ e = pE es i ∧ Hid (i ≤ fxK t x) ∧ Hid (RfI w wr r es ns gt ct L g c xs g2 c2 js)) (fun k _ _ _ => t.size - (intOf k).toNat)
      case atStart => exact ⟨0, Nat.zero_le _, rfl, rfl, rfl, Nat.zero_le _, HI⟩
      case round =>
        obtain ⟨i, hi, rfl, rfl, he, HK, HI⟩ := hrel
        have hts := HTS.out
        have hxs := HXS.out
        have hel := HL.out
        have hw1 : IntKind.i64.wrap ((i : Int) + 1) = (i : Int) + 1 := IntWalk.i64_in _ (by omega)
        have hw2 : ((i : Int) + 1).toNat = i + 1 := by omega
        have hw3 : (0 : Int) ≤ (i : Int) + 1 := by omega
        have hw4 : (i : Int) ≤ (i : Int) + 1 := by omega
        have hw5 : (i : Int) + 1 ≤ (x.size : Int) := by omega
        have hw6 : i < x.size := by omega
        have hw7 : (i : Int) < (x.size : Int) := by omega
        have hbx := bt_at hw6
        by_cases hlt : i < es.length
        · have HR : Hid (RgC wr r es ns) := HI.out.rg
          have HE := Lib.hid he
          rw [pE_some hlt] at he
          subst he
          have hec := (HR.out.ent i hlt).cell
          generalize es.getD i 0 = eb at *
          have HIN : Hid (i < ns.length) := by show _ < _; rw [← HL.out]; exact hlt
          have HNX := Lib.hid (HR.out.ix (i := i + 1) (by omega))
          have hit : i < t.size := by omega
          have hiz : (i : Int) < (t.size : Int) := by omega
          have hbt := bt_at hit
          have HMM : Hid (nM ns i = prM ns (i + 1)) := (prM_succ ns i).symm
          by_cases hq : bt t i = bt x i
          · have HK2 : Hid (i + 1 ≤ fxK t x) := fxK_up HK.out hit (by omega) hq
            rw [← hq] at hbx
            rw [HMM.out] at hec
            clear hts hxs hel
            go_wp2_with fail
            refine wp_region_held_drew (S := (fun _ => True)) (by kernel_rfl) trivial (fun hHeld => ?_)
            refine wpAnyH_take (i := 0) (oi := ?_) (v := ?_) ?_ (by kernel_rfl) (by kernel_rfl) (by kernel_rfl) ?_ ?_ (by assumption) ?_
            rotate_left 2
            · simp only [List.getElem?_toArray, List.getElem?_cons_succ, List.getElem?_cons_zero]; rfl
            · exact fun _ _ _ h => h
            · first
                | (refine Or.inr ⟨?_, ?_⟩ <;> rfl)
                | (refine Or.inl ⟨?_, ?_⟩; · rfl
                   intro w hSw; (try dsimp only at hSw); go_simp; (try with_reducible rfl); done)
            try simp only [Act.put, List.setIfInBounds_toArray, List.set_cons_zero, List.set_cons_succ]
            refine wpAnyH_take (i := 1) (oi := ?_) (v := ?_) ?_ (by kernel_rfl) (by kernel_rfl) (by kernel_rfl) ?_ ?_ (by assumption) ?_
            rotate_left 2
            · simp only [List.getElem?_toArray, List.getElem?_cons_succ, List.getElem?_cons_zero]; rfl
            · exact fun _ _ _ h => h
            · first
                | (refine Or.inr ⟨?_, ?_⟩ <;> rfl)
                | (refine Or.inl ⟨?_, ?_⟩; · rfl
                   intro w hSw; (try dsimp only at hSw); go_simp; (try with_reducible rfl); done)
            try simp only [Act.put, List.setIfInBounds_toArray, List.set_cons_zero, List.set_cons_succ]
            refine wpAnyH_take (i := 2) (oi := ?_) (v := ?_) ?_ (by kernel_rfl) (by kernel_rfl) (by kernel_rfl) ?_ ?_ (by assumption) ?_
            rotate_left 2
            · simp only [List.getElem?_toArray, List.getElem?_cons_succ, List.getElem?_cons_zero]; rfl
            · exact fun _ _ _ h => h
            · first
                | (refine Or.inr ⟨?_, ?_⟩ <;> rfl)
                | (refine Or.inl ⟨?_, ?_⟩; · rfl
                   intro w hSw; (try dsimp only at hSw); go_simp; (try with_reducible rfl); done)
            try simp only [Act.put, List.setIfInBounds_toArray, List.set_cons_zero, List.set_cons_succ]
            refine wpAnyH_take (i := 3) (oi := ?_) (v := ?_) ?_ (by kernel_rfl) (by kernel_rfl) (by kernel_rfl) ?_ ?_ (by assumption) ?_
            rotate_left 2
            · simp only [List.getElem?_toArray, List.getElem?_cons_succ, List.getElem?_cons_zero]; rfl
            · exact fun _ _ _ h => h
            · first
                | (refine Or.inr ⟨?_, ?_⟩ <;> rfl)
                | (refine Or.inl ⟨?_, ?_⟩; · rfl
                   intro w hSw; (try dsimp only at hSw); go_simp; (try with_reducible rfl); done)
            try simp only [Act.put, List.setIfInBounds_toArray, List.set_cons_zero, List.set_cons_succ]
            refine wpAnyH_take (i := 4) (oi := ?_) (v := ?_) ?_ (by kernel_rfl) (by kernel_rfl) (by kernel_rfl) ?_ ?_ (by assumption) ?_
            rotate_left 2
            · simp only [List.getElem?_toArray, List.getElem?_cons_succ, List.getElem?_cons_zero]; rfl
            · exact fun _ _ _ h => h
            · first
                | (refine Or.inr ⟨?_, ?_⟩ <;> rfl)
                | (refine Or.inl ⟨?_, ?_⟩; · rfl
                   intro w hSw; (try dsimp only at hSw); go_simp; (try with_reducible rfl); done)
            try simp only [Act.put, List.setIfInBounds_toArray, List.set_cons_zero, List.set_cons_succ]
            refine wpAnyH_take (i := 5) (oi := ?_) (v := ?_) ?_ (by kernel_rfl) (by kernel_rfl) (by kernel_rfl) ?_ ?_ (by assumption) ?_
            rotate_left 2
            · simp only [List.getElem?_toArray, List.getElem?_cons_succ, List.getElem?_cons_zero]; rfl
            · exact fun _ _ _ h => h
            · first
                | (refine Or.inr ⟨?_, ?_⟩ <;> rfl)
                | (refine Or.inl ⟨?_, ?_⟩; · rfl
                   intro w hSw; (try dsimp only at hSw); go_simp; (try with_reducible rfl); done)
            try simp only [Act.put, List.setIfInBounds_toArray, List.set_cons_zero, List.set_cons_succ]
            refine wpAnyH_take (i := 6) (oi := ?_) (v := ?_) ?_ (by kernel_rfl) (by kernel_rfl) (by kernel_rfl) ?_ ?_ (by assumption) ?_
            rotate_left 2
            · simp only [List.getElem?_toArray, List.getElem?_cons_succ, List.getElem?_cons_zero]; rfl
            · exact fun _ _ _ h => h
            · first
                | (refine Or.inr ⟨?_, ?_⟩ <;> rfl)
                | (refine Or.inl ⟨?_, ?_⟩; · rfl
                   intro w hSw; (try dsimp only at hSw); go_simp; (try with_reducible rfl); done)
            try simp only [Act.put, List.setIfInBounds_toArray, List.set_cons_zero, List.set_cons_succ]
            refine wpAnyH_take (i := 7) (oi := ?_) (v := ?_) ?_ (by kernel_rfl) (by kernel_rfl) (by kernel_rfl) ?_ ?_ (by assumption) ?_
            rotate_left 2
            · simp only [List.getElem?_toArray, List.getElem?_cons_succ, List.getElem?_cons_zero]; rfl
            · exact fun _ _ _ h => h
            · first
                | (refine Or.inr ⟨?_, ?_⟩ <;> rfl)
                | (refine Or.inl ⟨?_, ?_⟩; · rfl
                   intro w hSw; (try dsimp only at hSw); go_simp; (try with_reducible rfl); done)
            try simp only [Act.put, List.setIfInBounds_toArray, List.set_cons_zero, List.set_cons_succ]
            refine wpAnyH_take (i := 8) (oi := ?_) (v := ?_) ?_ (by kernel_rfl) (by kernel_rfl) (by kernel_rfl) ?_ ?_ (by assumption) ?_
            rotate_left 2
            · simp only [List.getElem?_toArray, List.getElem?_cons_succ, List.getElem?_cons_zero]; rfl
            · exact fun _ _ _ h => h
            · first
                | (refine Or.inr ⟨?_, ?_⟩ <;> rfl)
                | (refine Or.inl ⟨?_, ?_⟩; · rfl
                   intro w hSw; (try dsimp only at hSw); go_simp; (try with_reducible rfl); done)
            try simp only [Act.put, List.setIfInBounds_toArray, List.set_cons_zero, List.set_cons_succ]
            refine wpAnyH_take (i := 9) (oi := ?_) (v := ?_) ?_ (by kernel_rfl) (by kernel_rfl) (by kernel_rfl) ?_ ?_ (by assumption) ?_
            rotate_left 2
            · simp only [List.getElem?_toArray, List.getElem?_cons_succ, List.getElem?_cons_zero]; rfl
            · exact fun _ _ _ h => h
            · first
                | (refine Or.inr ⟨?_, ?_⟩ <;> rfl)
                | (refine Or.inl ⟨?_, ?_⟩; · rfl
                   intro w hSw; (try dsimp only at hSw); go_simp; (try with_reducible rfl); done)
            try simp only [Act.put, List.setIfInBounds_toArray, List.set_cons_zero, List.set_cons_succ]
            refine wpAnyH_take (i := 10) (oi := ?_) (v := ?_) ?_ (by kernel_rfl) (by kernel_rfl) (by kernel_rfl) ?_ ?_ (by assumption) ?_
            rotate_left 2
            · simp only [List.getElem?_toArray, List.getElem?_cons_succ, List.getElem?_cons_zero]; rfl
            · exact fun _ _ _ h => h
            · first
                | (refine Or.inr ⟨?_, ?_⟩ <;> rfl)
                | (refine Or.inl ⟨?_, ?_⟩; · rfl
                   intro w hSw; (try dsimp only at hSw); go_simp; (try with_reducible rfl); done)
            try simp only [Act.put, List.setIfInBounds_toArray, List.set_cons_zero, List.set_cons_succ]
            refine wpAnyH_done (by kernel_rfl) ?_ _
            clear hHeld
            replace HI := Lib.hid HI.out.drew
            go_wp2_with fail
            go_roundw
            case rel => exact ⟨i + 1, by omega, by go_num, rfl, rfl, HK2.out, HI.out⟩
            case measure => simp [intOf]; omega
          · have HF : Hid (fxK t x = i) := fxK_end HK.out hit (by omega) hq
            clear hts hxs hel
            go_wp2_with fail
            refine wp_region_held_drew (S := (fun _ => True)) (by kernel_rfl) trivial (fun hHeld => ?_)
            refine wpAnyH_take (i := 0) (oi := ?_) (v := ?_) ?_ (by kernel_rfl) (by kernel_rfl) (by kernel_rfl) ?_ ?_ (by assumption) ?_
            rotate_left 2
            · simp only [List.getElem?_toArray, List.getElem?_cons_succ, List.getElem?_cons_zero]; rfl
            · exact fun _ _ _ h => h
            · first
                | (refine Or.inr ⟨?_, ?_⟩ <;> rfl)
                | (refine Or.inl ⟨?_, ?_⟩; · rfl
                   intro w hSw; (try dsimp only at hSw); go_simp; (try with_reducible rfl); done)
            try simp only [Act.put, List.setIfInBounds_toArray, List.set_cons_zero, List.set_cons_succ]
            refine wpAnyH_take (i := 1) (oi := ?_) (v := ?_) ?_ (by kernel_rfl) (by kernel_rfl) (by kernel_rfl) ?_ ?_ (by assumption) ?_
            rotate_left 2
            · simp only [List.getElem?_toArray, List.getElem?_cons_succ, List.getElem?_cons_zero]; rfl
            · exact fun _ _ _ h => h
            · first
                | (refine Or.inr ⟨?_, ?_⟩ <;> rfl)
                | (refine Or.inl ⟨?_, ?_⟩; · rfl
                   intro w hSw; (try dsimp only at hSw); go_simp; (try with_reducible rfl); done)
            try simp only [Act.put, List.setIfInBounds_toArray, List.set_cons_zero, List.set_cons_succ]
            refine wpAnyH_take (i := 2) (oi := ?_) (v := ?_) ?_ (by kernel_rfl) (by kernel_rfl) (by kernel_rfl) ?_ ?_ (by assumption) ?_
            rotate_left 2
            · simp only [List.getElem?_toArray, List.getElem?_cons_succ, List.getElem?_cons_zero]; rfl
            · exact fun _ _ _ h => h
            · first
                | (refine Or.inr ⟨?_, ?_⟩ <;> rfl)
                | (refine Or.inl ⟨?_, ?_⟩; · rfl
                   intro w hSw; (try dsimp only at hSw); go_simp; (try with_reducible rfl); done)
            try simp only [Act.put, List.setIfInBounds_toArray, List.set_cons_zero, List.set_cons_succ]
            refine wpAnyH_take (i := 3) (oi := ?_) (v := ?_) ?_ (by kernel_rfl) (by kernel_rfl) (by kernel_rfl) ?_ ?_ (by assumption) ?_
            rotate_left 2
            · simp only [List.getElem?_toArray, List.getElem?_cons_succ, List.getElem?_cons_zero]; rfl
            · exact fun _ _ _ h => h
            · first
                | (refine Or.inr ⟨?_, ?_⟩ <;> rfl)
                | (refine Or.inl ⟨?_, ?_⟩; · rfl
                   intro w hSw; (try dsimp only at hSw); go_simp; (try with_reducible rfl); done)
            try simp only [Act.put, List.setIfInBounds_toArray, List.set_cons_zero, List.set_cons_succ]
            refine wpAnyH_take (i := 4) (oi := ?_) (v := ?_) ?_ (by kernel_rfl) (by kernel_rfl) (by kernel_rfl) ?_ ?_ (by assumption) ?_
            rotate_left 2
            · simp only [List.getElem?_toArray, List.getElem?_cons_succ, List.getElem?_cons_zero]; rfl
            · exact fun _ _ _ h => h
            · first
                | (refine Or.inr ⟨?_, ?_⟩ <;> rfl)
                | (refine Or.inl ⟨?_, ?_⟩; · rfl
                   intro w hSw; (try dsimp only at hSw); go_simp; (try with_reducible rfl); done)
            try simp only [Act.put, List.setIfInBounds_toArray, List.set_cons_zero, List.set_cons_succ]
            refine wpAnyH_take (i := 5) (oi := ?_) (v := ?_) ?_ (by kernel_rfl) (by kernel_rfl) (by kernel_rfl) ?_ ?_ (by assumption) ?_
            rotate_left 2
            · simp only [List.getElem?_toArray, List.getElem?_cons_succ, List.getElem?_cons_zero]; rfl
            · exact fun _ _ _ h => h
            · first
                | (refine Or.inr ⟨?_, ?_⟩ <;> rfl)
                | (refine Or.inl ⟨?_, ?_⟩; · rfl
                   intro w hSw; (try dsimp only at hSw); go_simp; (try with_reducible rfl); done)
            try simp only [Act.put, List.setIfInBounds_toArray, List.set_cons_zero, List.set_cons_succ]
            refine wpAnyH_take (i := 6) (oi := ?_) (v := ?_) ?_ (by kernel_rfl) (by kernel_rfl) (by kernel_rfl) ?_ ?_ (by assumption) ?_
            rotate_left 2
            · simp only [List.getElem?_toArray, List.getElem?_cons_succ, List.getElem?_cons_zero]; rfl
            · exact fun _ _ _ h => h
            · first
                | (refine Or.inr ⟨?_, ?_⟩ <;> rfl)
                | (refine Or.inl ⟨?_, ?_⟩; · rfl
                   intro w hSw; (try dsimp only at hSw); go_simp; (try with_reducible rfl); done)
            try simp only [Act.put, List.setIfInBounds_toArray, List.set_cons_zero, List.set_cons_succ]
            refine wpAnyH_take (i := 7) (oi := ?_) (v := ?_) ?_ (by kernel_rfl) (by kernel_rfl) (by kernel_rfl) ?_ ?_ (by assumption) ?_
            rotate_left 2
            · simp only [List.getElem?_toArray, List.getElem?_cons_succ, List.getElem?_cons_zero]; rfl
            · exact fun _ _ _ h => h
            · first
                | (refine Or.inr ⟨?_, ?_⟩ <;> rfl)
                | (refine Or.inl ⟨?_, ?_⟩; · rfl
                   intro w hSw; (try dsimp only at hSw); go_simp; (try with_reducible rfl); done)
            try simp only [Act.put, List.setIfInBounds_toArray, List.set_cons_zero, List.set_cons_succ]
            refine wpAnyH_take (i := 8) (oi := ?_) (v := ?_) ?_ (by kernel_rfl) (by kernel_rfl) (by kernel_rfl) ?_ ?_ (by assumption) ?_
            rotate_left 2
            · simp only [List.getElem?_toArray, List.getElem?_cons_succ, List.getElem?_cons_zero]; rfl
            · exact fun _ _ _ h => h
            · first
                | (refine Or.inr ⟨?_, ?_⟩ <;> rfl)
                | (refine Or.inl ⟨?_, ?_⟩; · rfl
                   intro w hSw; (try dsimp only at hSw); go_simp; (try with_reducible rfl); done)
            try simp only [Act.put, List.setIfInBounds_toArray, List.set_cons_zero, List.set_cons_succ]
            refine wpAnyH_take (i := 9) (oi := ?_) (v := ?_) ?_ (by kernel_rfl) (by kernel_rfl) (by kernel_rfl) ?_ ?_ (by assumption) ?_
            rotate_left 2
            · simp only [List.getElem?_toArray, List.getElem?_cons_succ, List.getElem?_cons_zero]; rfl
            · exact fun _ _ _ h => h
            · first
                | (refine Or.inr ⟨?_, ?_⟩ <;> rfl)
                | (refine Or.inl ⟨?_, ?_⟩; · rfl
                   intro w hSw; (try dsimp only at hSw); go_simp; (try with_reducible rfl); done)
            try simp only [Act.put, List.setIfInBounds_toArray, List.set_cons_zero, List.set_cons_succ]
            refine wpAnyH_take (i := 10) (oi := ?_) (v := ?_) ?_ (by kernel_rfl) (by kernel_rfl) (by kernel_rfl) ?_ ?_ (by assumption) ?_
            rotate_left 2
            · simp only [List.getElem?_toArray, List.getElem?_cons_succ, List.getElem?_cons_zero]; rfl
            · exact fun _ _ _ h => h
            · first
                | (refine Or.inr ⟨?_, ?_⟩ <;> rfl)
                | (refine Or.inl ⟨?_, ?_⟩; · rfl
                   intro w hSw; (try dsimp only at hSw); go_simp; (try with_reducible rfl); done)
            try simp only [Act.put, List.setIfInBounds_toArray, List.set_cons_zero, List.set_cons_succ]
            refine wpAnyH_done (by kernel_rfl) ?_ _
            clear hHeld
            have HZ : Hid (fxZ ns t x = (prM ns i, x.extract i (i + 1)) ∧ (fxK t x : Int) = (i : Nat)) := by
              refine ⟨?_, by rw [HF.out]⟩
              unfold fxZ
              rw [HF.out]
            rw [HZ.out.1] at HN1
            rw [HZ.out.2] at HN2
            replace HI := Lib.hid HI.out.drew
            generalize wr.drew = wr at *
            have HO3 := Lib.hid (OwnN.ext HI.out.nt (prM ns i, x.extract i (i + 1)))
            have HN := Lib.hid (ntF_new xs (prM ns i, x.extract i (i + 1)))
            go_wp2_with (first | (at_builtin; refine wpList_push elMv rfl (.tmp 60) (.tmp 68) rfl HO3.out rfl [.int .i64 (prM ns i), .string (x.extract i (i + 1))] (by show Value.slice _ 1 1 = _; simp) HN.out (fun _ _ => mvF_one _ _ _) (by unfold maxLen; omega) (by omega) ?_; intro g' c' wa HA hgr hd; have HI3 := Lib.hid (HI.out.pushN HA hgr hd); clear HA hgr hd) | (at_builtin; refine wpList_pushI elInt rfl (.tmp 70) (.tmp 72) (by rfl) (f := fun q => iF (js ++ [((i : Nat) : Int)]) q) (OwnI.ext HI3.out.it _) (by rfl) (by rfl) (by exact iF_new.symm) (by omega) ?_; intro g'' c'' wb HA hgr hd; have HI4 := Lib.hid (HI3.out.pushI HA hgr hd); clear HA hgr hd))
            go_roundw
            case rel => exact ⟨j + 1, g', c', g'', c'', by omega, by go_num, by rw [HN1.out]; simp, by rw [HN2.out]; simp, by rw [HN1.out, HN2.out]; exact HI4.out⟩
            case measure => simp [intOf]; omega
        · rw [pE_none (by omega)] at he
          subst he
          obtain rfl : i = t.size := by omega
          have HF : Hid (fxK t x = t.size) := by have h1 := HK.out; have h2 := fxK_le t x; show _ = _; omega
          clear hts hxs hel
          go_wp2_with fail
          refine wp_region_held_drew (S := (fun _ => True)) (by kernel_rfl) trivial (fun hHeld => ?_)
          refine wpAnyH_take (i := 0) (oi := ?_) (v := ?_) ?_ (by kernel_rfl) (by kernel_rfl) (by kernel_rfl) ?_ ?_ (by assumption) ?_
          rotate_left 2
          · simp only [List.getElem?_toArray, List.getElem?_cons_succ, List.getElem?_cons_zero]; rfl
          · exact fun _ _ _ h => h
          · first
              | (refine Or.inr ⟨?_, ?_⟩ <;> rfl)
              | (refine Or.inl ⟨?_, ?_⟩; · rfl
                 intro w hSw; (try dsimp only at hSw); go_simp; (try with_reducible rfl); done)
          try simp only [Act.put, List.setIfInBounds_toArray, List.set_cons_zero, List.set_cons_succ]
          refine wpAnyH_take (i := 1) (oi := ?_) (v := ?_) ?_ (by kernel_rfl) (by kernel_rfl) (by kernel_rfl) ?_ ?_ (by assumption) ?_
          rotate_left 2
          · simp only [List.getElem?_toArray, List.getElem?_cons_succ, List.getElem?_cons_zero]; rfl
          · exact fun _ _ _ h => h
          · first
              | (refine Or.inr ⟨?_, ?_⟩ <;> rfl)
              | (refine Or.inl ⟨?_, ?_⟩; · rfl
                 intro w hSw; (try dsimp only at hSw); go_simp; (try with_reducible rfl); done)
          try simp only [Act.put, List.setIfInBounds_toArray, List.set_cons_zero, List.set_cons_succ]
          refine wpAnyH_take (i := 2) (oi := ?_) (v := ?_) ?_ (by kernel_rfl) (by kernel_rfl) (by kernel_rfl) ?_ ?_ (by assumption) ?_
          rotate_left 2
          · simp only [List.getElem?_toArray, List.getElem?_cons_succ, List.getElem?_cons_zero]; rfl
          · exact fun _ _ _ h => h
          · first
              | (refine Or.inr ⟨?_, ?_⟩ <;> rfl)
              | (refine Or.inl ⟨?_, ?_⟩; · rfl
                 intro w hSw; (try dsimp only at hSw); go_simp; (try with_reducible rfl); done)
          try simp only [Act.put, List.setIfInBounds_toArray, List.set_cons_zero, List.set_cons_succ]
          refine wpAnyH_take (i := 3) (oi := ?_) (v := ?_) ?_ (by kernel_rfl) (by kernel_rfl) (by kernel_rfl) ?_ ?_ (by assumption) ?_
          rotate_left 2
          · simp only [List.getElem?_toArray, List.getElem?_cons_succ, List.getElem?_cons_zero]; rfl
          · exact fun _ _ _ h => h
          · first
              | (refine Or.inr ⟨?_, ?_⟩ <;> rfl)
              | (refine Or.inl ⟨?_, ?_⟩; · rfl
                 intro w hSw; (try dsimp only at hSw); go_simp; (try with_reducible rfl); done)
          try simp only [Act.put, List.setIfInBounds_toArray, List.set_cons_zero, List.set_cons_succ]
          refine wpAnyH_take (i := 4) (oi := ?_) (v := ?_) ?_ (by kernel_rfl) (by kernel_rfl) (by kernel_rfl) ?_ ?_ (by assumption) ?_
          rotate_left 2
          · simp only [List.getElem?_toArray, List.getElem?_cons_succ, List.getElem?_cons_zero]; rfl
          · exact fun _ _ _ h => h
          · first
              | (refine Or.inr ⟨?_, ?_⟩ <;> rfl)
              | (refine Or.inl ⟨?_, ?_⟩; · rfl
                 intro w hSw; (try dsimp only at hSw); go_simp; (try with_reducible rfl); done)
          try simp only [Act.put, List.setIfInBounds_toArray, List.set_cons_zero, List.set_cons_succ]
          refine wpAnyH_take (i := 5) (oi := ?_) (v := ?_) ?_ (by kernel_rfl) (by kernel_rfl) (by kernel_rfl) ?_ ?_ (by assumption) ?_
          rotate_left 2
          · simp only [List.getElem?_toArray, List.getElem?_cons_succ, List.getElem?_cons_zero]; rfl
          · exact fun _ _ _ h => h
          · first
              | (refine Or.inr ⟨?_, ?_⟩ <;> rfl)
              | (refine Or.inl ⟨?_, ?_⟩; · rfl
                 intro w hSw; (try dsimp only at hSw); go_simp; (try with_reducible rfl); done)
          try simp only [Act.put, List.setIfInBounds_toArray, List.set_cons_zero, List.set_cons_succ]
          refine wpAnyH_take (i := 6) (oi := ?_) (v := ?_) ?_ (by kernel_rfl) (by kernel_rfl) (by kernel_rfl) ?_ ?_ (by assumption) ?_
          rotate_left 2
          · simp only [List.getElem?_toArray, List.getElem?_cons_succ, List.getElem?_cons_zero]; rfl
          · exact fun _ _ _ h => h
          · first
              | (refine Or.inr ⟨?_, ?_⟩ <;> rfl)
              | (refine Or.inl ⟨?_, ?_⟩; · rfl
                 intro w hSw; (try dsimp only at hSw); go_simp; (try with_reducible rfl); done)
          try simp only [Act.put, List.setIfInBounds_toArray, List.set_cons_zero, List.set_cons_succ]
          refine wpAnyH_take (i := 7) (oi := ?_) (v := ?_) ?_ (by kernel_rfl) (by kernel_rfl) (by kernel_rfl) ?_ ?_ (by assumption) ?_
          rotate_left 2
          · simp only [List.getElem?_toArray, List.getElem?_cons_succ, List.getElem?_cons_zero]; rfl
          · exact fun _ _ _ h => h
          · first
              | (refine Or.inr ⟨?_, ?_⟩ <;> rfl)
              | (refine Or.inl ⟨?_, ?_⟩; · rfl
                 intro w hSw; (try dsimp only at hSw); go_simp; (try with_reducible rfl); done)
          try simp only [Act.put, List.setIfInBounds_toArray, List.set_cons_zero, List.set_cons_succ]
          refine wpAnyH_take (i := 8) (oi := ?_) (v := ?_) ?_ (by kernel_rfl) (by kernel_rfl) (by kernel_rfl) ?_ ?_ (by assumption) ?_
          rotate_left 2
          · simp only [List.getElem?_toArray, List.getElem?_cons_succ, List.getElem?_cons_zero]; rfl
          · exact fun _ _ _ h => h
          · first
              | (refine Or.inr ⟨?_, ?_⟩ <;> rfl)
              | (refine Or.inl ⟨?_, ?_⟩; · rfl
                 intro w hSw; (try dsimp only at hSw); go_simp; (try with_reducible rfl); done)
          try simp only [Act.put, List.setIfInBounds_toArray, List.set_cons_zero, List.set_cons_succ]
          refine wpAnyH_take (i := 9) (oi := ?_) (v := ?_) ?_ (by kernel_rfl) (by kernel_rfl) (by kernel_rfl) ?_ ?_ (by assumption) ?_
          rotate_left 2
          · simp only [List.getElem?_toArray, List.getElem?_cons_succ, List.getElem?_cons_zero]; rfl
          · exact fun _ _ _ h => h
          · first
              | (refine Or.inr ⟨?_, ?_⟩ <;> rfl)
              | (refine Or.inl ⟨?_, ?_⟩; · rfl
                 intro w hSw; (try dsimp only at hSw); go_simp; (try with_reducible rfl); done)
          try simp only [Act.put, List.setIfInBounds_toArray, List.set_cons_zero, List.set_cons_succ]
          refine wpAnyH_take (i := 10) (oi := ?_) (v := ?_) ?_ (by kernel_rfl) (by kernel_rfl) (by kernel_rfl) ?_ ?_ (by assumption) ?_
          rotate_left 2
          · simp only [List.getElem?_toArray, List.getElem?_cons_succ, List.getElem?_cons_zero]; rfl
          · exact fun _ _ _ h => h
          · first
              | (refine Or.inr ⟨?_, ?_⟩ <;> rfl)
              | (refine Or.inl ⟨?_, ?_⟩; · rfl
                 intro w hSw; (try dsimp only at hSw); go_simp; (try with_reducible rfl); done)
          try simp only [Act.put, List.setIfInBounds_toArray, List.set_cons_zero, List.set_cons_succ]
          refine wpAnyH_done (by kernel_rfl) ?_ _
          clear hHeld
          have HZ : Hid (fxZ ns t x = (prM ns t.size, x.extract t.size (t.size + 1)) ∧ (fxK t x : Int) = (t.size : Nat)) := by
            refine ⟨?_, by rw [HF.out]⟩
            unfold fxZ
            rw [HF.out]
          rw [HZ.out.1] at HN1
          rw [HZ.out.2] at HN2
          replace HI := Lib.hid HI.out.drew
          generalize wr.drew = wr at *
          have HO3 := Lib.hid (OwnN.ext HI.out.nt (prM ns t.size, x.extract t.size (t.size + 1)))
          have HN := Lib.hid (ntF_new xs (prM ns t.size, x.extract t.size (t.size + 1)))
          go_wp2_with (first | (at_builtin; refine wpList_push elMv rfl (.tmp 60) (.tmp 68) rfl HO3.out rfl [.int .i64 (prM ns t.size), .string (x.extract t.size (t.size + 1))] (by show Value.slice _ 1 1 = _; simp) HN.out (fun _ _ => mvF_one _ _ _) (by unfold maxLen; omega) (by omega) ?_; intro g' c' wa HA hgr hd; have HI3 := Lib.hid (HI.out.pushN HA hgr hd); clear HA hgr hd) | (at_builtin; refine wpList_pushI elInt rfl (.tmp 70) (.tmp 72) (by rfl) (f := fun q => iF (js ++ [((t.size : Nat) : Int)]) q) (OwnI.ext HI3.out.it _) (by rfl) (by rfl) (by exact iF_new.symm) (by omega) ?_; intro g'' c'' wb HA hgr hd; have HI4 := Lib.hid (HI3.out.pushI HA hgr hd); clear HA hgr hd))
          go_roundw
          case rel => exact ⟨j + 1, g', c', g'', c'', by omega, by go_num, by rw [HN1.out]; simp, by rw [HN2.out]; simp, by rw [HN1.out, HN2.out]; exact HI4.out⟩
          case measure => simp [intOf]; omega
    · obtain rfl : j = L.length := by omega
      have hji : ¬ (L.length : Int) < (L.length : Int) := by omega
      have h1 : fxN ns (L.take L.length) = fixN ns := by rw [HV.out.1, List.take_length]
      have h2 : fxI ns (L.take L.length) = fixI ns := by rw [HV.out.2, List.take_length]
      rw [h1, h2] at HI ⊢
      clear h1 h2
      go_wp2_with fail
      go_ret2
      exact ⟨⟨g, c, g2, c2, rfl, HI.out.nt, HI.out.it, HI.out.gz, HI.out.gz2, HI.out.dd⟩, HI.out.bl⟩
end Go.Proofs.Ytokddeoliieofaa
