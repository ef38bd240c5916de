/-
  The law FnRegisterFix.
-/
import Derived.Test.YtokddeoliieofaaFg
import Derived.Test.YtokddeoliieofaaLRj
namespace Go.Proofs.Ytokddeoliieofaa
open Go.RowKit

set_option linter.unusedSimpArgs false in
theorem regValid_any (b off c : Nat) (ns : List (Int × ByteArray)) (w : World) (hn : ns.length ≤ 1000000000000) (hc : NtC w b off ns) :
    Calls Try.prog 54 #[.slice (some ⟨b, off, none⟩) ns.length c] w fun e w' => e = .returned (.bool (rgV ns)) ∧ Below w.heap.size w w' := by
  have HSO := Lib.hid (registerOf_any b off c ns w hn hc)
  clear hc
  go_enter Try.func54, Try.ntmps54
  go_wp2_with fail
  refine HSO.out.mono ?_
  rintro e w1 ⟨⟨r, rfl, hr⟩, hb1⟩
  have HB := Lib.hid hb1
  clear hr hb1
  go_wp2_with fail
  go_ret
  exact ⟨rfl, HB.out⟩
theorem smI2 {W : World} {g1 c1 g2 c2 : Nat} {l : List Int} (hl : l.length ≤ 1000) (h1 : OwnI W g1 c1 l) (h2 : OwnI W g2 c2 l) :
    Calls Try.prog 15 #[.slice (some ⟨g1, 0, none⟩) l.length c1, .slice (some ⟨g2, 0, none⟩) l.length c2] W fun e w' => e = .returned (.bool true) ∧ Below W.heap.size W w' :=
  (sameInts_any g1 0 l.length c1 g2 0 l.length c2 (iF l) (iF l) W (by omega) (by omega) (IC.of_own h1) (IC.of_own h2)).mono fun e w' ⟨q1, q2⟩ => ⟨by rw [q1, eqSl_same], below_dr q2 _⟩
/-- what the law keeps -/
structure FxM (w wr : World) (g cap : Nat) (ns : List (Int × ByteArray)) (g1 c1 : Nat) (xs : List (Int × ByteArray)) (g2 c2 : Nat) (js : List Int) (gt ct : Nat) (L : List ByteArray) : Prop where
  ns : OwnN wr g cap ns
  xs : OwnN wr g1 c1 xs
  js : OwnI wr g2 c2 js
  tx : OwnS wr gt ct L
  bl : Below w.heap.size w wr
theorem FxM.keep {w wr wa : World} {g cap : Nat} {ns : List (Int × ByteArray)} {g1 c1 : Nat} {xs : List (Int × ByteArray)} {g2 c2 : Nat} {js : List Int} {gt ct : Nat} {L : List ByteArray} (h : FxM w wr g cap ns g1 c1 xs g2 c2 js gt ct L) (hb : Below wr.heap.size wr wa) : FxM w wa g cap ns g1 c1 xs g2 c2 js gt ct L :=
  ⟨Own.below h.ns hb (Own.lt h.ns), Own.below h.xs hb (Own.lt h.xs), Own.below h.js hb (Own.lt h.js), Own.below h.tx hb (Own.lt h.tx), h.bl.trans (hb.mono h.bl.size)⟩
theorem NtC.take {w : World} {b off : Nat} {ns : List (Int × ByteArray)} (h : NtC w b off ns) (k : Nat) : NtC w b off (ns.take k) := fun i hi => by
  have hi2 : i < k ∧ i < ns.length := by rw [List.length_take] at hi; omega
  have q := h i hi2.2
  have e := nM_take (ns := ns) hi2.1
  rw [e.1, e.2]
  exact q
theorem NtC.drop {w : World} {b : Nat} {ns : List (Int × ByteArray)} (h : NtC w b 0 ns) (k : Nat) : NtC w b (k * 2) (ns.drop k) := fun i hi => by
  have hi2 : k + i < ns.length := by have : i < ns.length - k := by simpa using hi
                                     omega
  have q := h (k + i) hi2
  have e := nM_drop (ns := ns) (k := k) (j := i)
  rw [e.1, e.2]
  rw [show 0 + (k + i) * 2 = k * 2 + i * 2 by omega] at q
  exact q
theorem fy_l {W : World} {g cap k : Nat} {ns : List (Int × ByteArray)} {z : Int × ByteArray} (h : OwnN W g cap ns) (hk : k ≤ ns.length) : ∀ q, q < k * 2 → W.cell? ((⟨g, 0, none⟩ : Addr).add q) = some (mvF (nM (ns.take k ++ z :: ns.drop k)) (nL (ns.take k ++ z :: ns.drop k)) (0 * 2 + q)) := fun q hq =>
  nt_l (xa := ns.take k) (xb := z :: ns.drop k) (h.nt.take k) q (by rw [List.length_take]; omega)
theorem fy_r {W : World} {g cap k : Nat} {ns : List (Int × ByteArray)} {z : Int × ByteArray} (h : OwnN W g cap ns) (hk : k ≤ ns.length) : ∀ q, q < (ns.length - k) * 2 → W.cell? ((⟨g, k * 2, none⟩ : Addr).add q) = some (mvF (nM (ns.take k ++ z :: ns.drop k)) (nL (ns.take k ++ z :: ns.drop k)) ((k + 1) * 2 + q)) := fun q hq => by
  have r := nt_r (xa := ns.take k ++ [z]) (xb := ns.drop k) (h.nt.drop k) q (by simpa using hq)
  have e : (ns.take k ++ [z]).length = k + 1 := by simp; omega
  rw [e, List.append_assoc] at r
  exact r
theorem fy_m {k : Nat} {ns : List (Int × ByteArray)} {z : Int × ByteArray} (hk : k ≤ ns.length) : ∀ q, q < 2 → [Value.int .i64 z.1, .string z.2][q]? = some (mvF (nM (ns.take k ++ z :: ns.drop k)) (nL (ns.take k ++ z :: ns.drop k)) (k * 2 + q)) := fun q hq => by
  have m := (nM_mid (xs := ns.take k) (ys := ns.drop k) (z := z) k).2.1 (by simp; omega)
  match q, hq with
  | 0, _ => unfold mvF; rw [if_pos (by omega), show (k * 2 + 0) / 2 = k by omega, m.1]; rfl
  | 1, _ => unfold mvF; rw [if_neg (by omega), show (k * 2 + 1) / 2 = k by omega, m.2]; rfl
set_option maxRecDepth 100000 in
set_option maxHeartbeats 4000000 in
set_option linter.unusedSimpArgs false in
theorem lawRFix_any (ao : Option Addr) (n c : Nat) (w : World) (hB : BSl w ao n) (hnc : n ≤ c) (hn : n ≤ 9223372036854775807) :
    Calls Try.prog 10 #[.slice ao n c] w fun e w' => e = .returned (.bool true) ∧ Below w.heap.size w w' := by
  have HBS := Lib.hid hB
  clear hB
  by_cases hlong : 1048576 < n
  · go_enter Try.func10, Try.ntmps10
    go_wp2_with fail
    go_ret
    exact ⟨rfl, Below.refl _ _⟩
  go_enter Try.func10, Try.ntmps10
  go_wp2_with fail
  refine (drawRFix_any ao n c _ hnc hn HBS.out).mono ?_
  rintro e w1 ⟨⟨g, cap, ns, rfl, hoa, hgz, hla, _⟩, hb1⟩
  have HA : Hid (OwnN w1 g cap ns) := hoa
  have HB := Lib.hid hb1
  clear hoa hb1
  go_wp2_with fail
  refine (fix_any g 0 cap ns _ (by omega) (OwnN.nt HA.out)).mono ?_
  rintro e w2 ⟨⟨g1, c1, g2, c2, rfl, ho1, ho2, _, _, _⟩, hb2⟩
  have hb9 := hb2
  (try replace T1 := Lib.hid (Own.below T1.out hb9 (Own.lt T1.out)))
  (try replace T2 := Lib.hid (Own.below T2.out hb9 (Own.lt T2.out)))
  (try replace T3 := Lib.hid (Own.below T3.out hb9 (Own.lt T3.out)))
  (try replace T4 := Lib.hid (Own.below T4.out hb9 (Own.lt T4.out)))
  replace HA := Lib.hid (Own.below HA.out hb9 (Own.lt HA.out))
  replace HB := Lib.hid (HB.out.trans (Below.mono hb9 HB.out.size))
  clear hb9
  have T1 : Hid (OwnN w2 g1 c1 (fixN ns)) := ho1
  have T2 : Hid (OwnI w2 g2 c2 (fixI ns)) := ho2
  clear ho1 ho2 hb2
  go_wp2_with fail
  refine (specFix_any g 0 cap ns _ (by omega) (OwnN.nt HA.out)).mono ?_
  rintro e w3 ⟨⟨g3, c3, g4, c4, rfl, ho1, ho2, _, _, _⟩, hb2⟩
  have hb9 := hb2
  (try replace T1 := Lib.hid (Own.below T1.out hb9 (Own.lt T1.out)))
  (try replace T2 := Lib.hid (Own.below T2.out hb9 (Own.lt T2.out)))
  (try replace T3 := Lib.hid (Own.below T3.out hb9 (Own.lt T3.out)))
  (try replace T4 := Lib.hid (Own.below T4.out hb9 (Own.lt T4.out)))
  replace HA := Lib.hid (Own.below HA.out hb9 (Own.lt HA.out))
  replace HB := Lib.hid (HB.out.trans (Below.mono hb9 HB.out.size))
  clear hb9
  have T3 : Hid (OwnN w3 g3 c3 (fixN ns)) := ho1
  have T4 : Hid (OwnI w3 g4 c4 (fixI ns)) := ho2
  clear ho1 ho2 hb2
  have hfl : (fixN ns).length ≤ 210 := by
    unfold fixN
    split
    · rw [fxN_len]; exact repL_len _
    · exact Nat.zero_le _
  have hil : (fixI ns).length ≤ 210 := by
    unfold fixI
    split
    · rw [fxI_len]; exact repL_len _
    · exact Nat.zero_le _
  have HSM := fun (W : World) (h1 : OwnN W g1 c1 (fixN ns)) (h2 : OwnN W g3 c3 (fixN ns)) => smN (by omega) h1 h2
  have HSI := fun (W : World) (h1 : OwnI W g2 c2 (fixI ns)) (h2 : OwnI W g4 c4 (fixI ns)) => smI2 (by omega) h1 h2
  have HRT : Hid (∀ W, OwnN W g cap ns → Calls Try.prog 34 #[.slice (some ⟨g, 0, none⟩) ns.length cap] W fun e w' => e = .returned (.string (rtT ns)) ∧ Below W.heap.size W w') := fun W h => regText_any g 0 cap ns W (by omega) h.nt
  have HRV : Hid (∀ W, OwnN W g cap ns → Calls Try.prog 54 #[.slice (some ⟨g, 0, none⟩) ns.length cap] W fun e w' => e = .returned (.bool (rgV ns)) ∧ Below W.heap.size W w') := fun W h => regValid_any g 0 cap ns W (by omega) h.nt
  obtain ⟨t, ht⟩ : ∃ t, t = rtT ns := ⟨_, rfl⟩
  have htz : t.size ≤ 30 := by
    rw [ht]
    unfold rtT
    split
    · rename_i h; exact txN_size h
    · exact Nat.zero_le _
  have HRP : Hid (∀ W, Calls Try.prog 53 #[.string t] W (TxR (repL t) W)) := fun W => implRepair_any t W (by omega)
  have HT := Lib.hid ht
  rw [← ht] at HRT
  clear ht
  obtain ⟨xs, hxs⟩ : ∃ xs, xs = fixN ns := ⟨_, rfl⟩
  obtain ⟨js, hjs⟩ : ∃ js, js = fixI ns := ⟨_, rfl⟩
  have HXS := Lib.hid hxs
  have HJS := Lib.hid hjs
  rw [← hxs] at T1 T3 hfl HSM ⊢
  rw [← hjs] at T2 T4 hil HSI ⊢
  clear hxs hjs
  have hLL := repL_len t
  obtain ⟨L, hL⟩ : ∃ L, L = repL t := ⟨_, rfl⟩
  have HLE := Lib.hid hL
  rw [← hL] at HRP hLL
  clear hL
  go_wp2_with fail
  refine (HSM _ T1.out T3.out).mono ?_
  rintro e w4 ⟨rfl, hb4⟩
  have hb9 := hb4
  (try replace T1 := Lib.hid (Own.below T1.out hb9 (Own.lt T1.out)))
  (try replace T2 := Lib.hid (Own.below T2.out hb9 (Own.lt T2.out)))
  (try replace T3 := Lib.hid (Own.below T3.out hb9 (Own.lt T3.out)))
  (try replace T4 := Lib.hid (Own.below T4.out hb9 (Own.lt T4.out)))
  replace HA := Lib.hid (Own.below HA.out hb9 (Own.lt HA.out))
  replace HB := Lib.hid (HB.out.trans (Below.mono hb9 HB.out.size))
  clear hb9
  clear hb4
  go_wp2_with fail
  refine (HSI _ T2.out T4.out).mono ?_
  rintro e w5 ⟨rfl, hb4⟩
  have hb9 := hb4
  (try replace T1 := Lib.hid (Own.below T1.out hb9 (Own.lt T1.out)))
  (try replace T2 := Lib.hid (Own.below T2.out hb9 (Own.lt T2.out)))
  (try replace T3 := Lib.hid (Own.below T3.out hb9 (Own.lt T3.out)))
  (try replace T4 := Lib.hid (Own.below T4.out hb9 (Own.lt T4.out)))
  replace HA := Lib.hid (Own.below HA.out hb9 (Own.lt HA.out))
  replace HB := Lib.hid (HB.out.trans (Below.mono hb9 HB.out.size))
  clear hb9
  clear hb4
  go_wp2_with fail
  refine (HRT.out _ HA.out).mono ?_
  rintro e w6 ⟨rfl, hb4⟩
  have hb9 := hb4
  (try replace T1 := Lib.hid (Own.below T1.out hb9 (Own.lt T1.out)))
  (try replace T2 := Lib.hid (Own.below T2.out hb9 (Own.lt T2.out)))
  (try replace T3 := Lib.hid (Own.below T3.out hb9 (Own.lt T3.out)))
  (try replace T4 := Lib.hid (Own.below T4.out hb9 (Own.lt T4.out)))
  replace HA := Lib.hid (Own.below HA.out hb9 (Own.lt HA.out))
  replace HB := Lib.hid (HB.out.trans (Below.mono hb9 HB.out.size))
  clear hb9
  clear hb4
  clear T3 T4 HSM HSI
  go_wp2_with fail
  refine (HRP.out _).mono ?_
  rintro e w7 ⟨⟨gt, ct, rfl, _, htx⟩, hb4⟩
  have hb9 := hb4
  (try replace T1 := Lib.hid (Own.below T1.out hb9 (Own.lt T1.out)))
  (try replace T2 := Lib.hid (Own.below T2.out hb9 (Own.lt T2.out)))
  (try replace T3 := Lib.hid (Own.below T3.out hb9 (Own.lt T3.out)))
  (try replace T4 := Lib.hid (Own.below T4.out hb9 (Own.lt T4.out)))
  replace HA := Lib.hid (Own.below HA.out hb9 (Own.lt HA.out))
  replace HB := Lib.hid (HB.out.trans (Below.mono hb9 HB.out.size))
  clear hb9
  have T5 : Hid (OwnS w7 gt ct L) := htx
  clear hb4 htx
  go_wp2_with fail
  refine (HRV.out _ HA.out).mono ?_
  rintro e w8 ⟨rfl, hb4⟩
  have hb9 := hb4
  (try replace T1 := Lib.hid (Own.below T1.out hb9 (Own.lt T1.out)))
  (try replace T2 := Lib.hid (Own.below T2.out hb9 (Own.lt T2.out)))
  (try replace T3 := Lib.hid (Own.below T3.out hb9 (Own.lt T3.out)))
  (try replace T4 := Lib.hid (Own.below T4.out hb9 (Own.lt T4.out)))
  replace HA := Lib.hid (Own.below HA.out hb9 (Own.lt HA.out))
  replace HB := Lib.hid (HB.out.trans (Below.mono hb9 HB.out.size))
  clear hb9
  replace T5 := Lib.hid (Own.below T5.out hb4 (Own.lt T5.out))
  clear hb4
  cases hv : rgV ns
  · have hx0 : xs = [] := by rw [HXS.out]; unfold fixN; rw [hv]; rfl
    have hj0 : js = [] := by rw [HJS.out]; unfold fixI; rw [hv]; rfl
    subst hx0 hj0
    go_wp2_with fail
    go_ret
    exact ⟨rfl, HB.out⟩
  have htn : t = txN ns := by rw [HT.out]; exact if_pos hv
  have HXL : Hid (xs = fxN ns L) := by show _ = _; rw [HXS.out, HLE.out, htn]; exact if_pos hv
  have HJL : Hid (js = fxI ns L) := by show _ = _; rw [HJS.out, HLE.out, htn]; exact if_pos hv
  have hxl : xs.length = L.length := by rw [HXL.out, fxN_len]
  have hjl : js.length = L.length := by rw [HJL.out, fxI_len]
  have HOK : Hid (∀ x, x ∈ L → rgV (fxY ns x) = true ∧ txN (fxY ns x) = x ∧ sdV (fxY ns x) = true ∧ fxK (txN ns) x ≤ ns.length ∧ x.size = ns.length + 1 ∧ ns.length < 30) := fun x hx => fix_ok hv (by rw [← htn, ← HLE.out]; exact hx)
  have HM : Hid (FxM w w8 g cap ns g1 c1 xs g2 c2 js gt ct L) := ⟨HA.out, T1.out, T2.out, T5.out, HB.out⟩
  clear HA T1 T2 T5 HB HRP HRT HRV HXS HJS HT htn hv HLE
  go_wp2_with fail
  go_loopw [9, 10] (fun i _ wr => ∃ j : Nat, j ≤ L.length ∧ i = .int .i64 j ∧ Hid (FxM w wr g cap ns g1 c1 xs g2 c2 js gt ct L)) (fun i _ _ => L.length - (intOf i).toNat)
  case atStart => exact ⟨0, Nat.zero_le _, rfl, HM⟩
  case round =>
    obtain ⟨j, hj, rfl, HI⟩ := hrel
    by_cases hjt : j < L.length
    · have hxj : xs[j]? = some (fxZ ns (txN ns) (sF L j)) := by rw [HXL.out]; unfold fxN; rw [List.getElem?_map, List.getElem?_eq_getElem hjt, sF_at hjt]; rfl
      have hjj : js[j]? = some (fxK (txN ns) (sF L j) : Int) := by rw [HJL.out]; unfold fxI; rw [List.getElem?_map, List.getElem?_eq_getElem hjt, sF_at hjt]; rfl
      obtain ⟨q1, q2, q3, q4, q5, q6⟩ := HOK.out (sF L j) (by rw [sF_at hjt]; exact List.getElem_mem hjt)
      have hc0 := fun (W : World) (h : Below wr.heap.size wr W) => (HI.out.keep h).xs
      have HCC : Hid (∀ W, Below wr.heap.size wr W → (W.cell? ⟨g1, j * 2, none⟩ = some (.int .i64 (fxZ ns (txN ns) (sF L j)).1) ∧ W.cell? ⟨g1, j * 2 + 1, none⟩ = some (.string (fxZ ns (txN ns) (sF L j)).2)) ∧ W.cell? ⟨g2, j, none⟩ = some (.int .i64 (fxK (txN ns) (sF L j)))) := fun W h => by
        have hh := HI.out.keep h
        have m := Own.mv hh.xs (k := j) (by omega)
        have m2 := Own.cell1 hh.js (i := j) (by omega)
        unfold nM nL at m
        rw [hxj] at m
        unfold iF at m2
        rw [hjj] at m2
        exact ⟨m, m2⟩
      have HTC : Hid (∀ W, OwnS W gt ct L → W.cell? ⟨gt, j, none⟩ = some (.string (sF L j))) := fun W h => OwnS.cell h hjt
      have HY1 : Hid (sdV (fxY ns (sF L j)) = true ∧ rtT (fxY ns (sF L j)) = sF L j) := ⟨q3, by unfold rtT; rw [if_pos q1, q2]⟩
      unfold fxY at HY1
      clear hxj hjj q1 q2 q3 hc0
      generalize fxZ ns (txN ns) (sF L j) = z at *
      generalize fxK (txN ns) (sF L j) = k at *
      generalize sF L j = x at *
      obtain ⟨m, l⟩ := z
      have HFL : Hid (∀ W, OwnN W g cap ns → ∀ q, q < k * 2 → W.cell? ((⟨g, 0, none⟩ : Addr).add q) = some (mvF (nM (ns.take k ++ (m, l) :: ns.drop k)) (nL (ns.take k ++ (m, l) :: ns.drop k)) (0 * 2 + q))) := fun W h => fy_l h q4
      have HFR : Hid (∀ W, OwnN W g cap ns → ∀ q, q < (ns.length - k) * 2 → W.cell? ((⟨g, k * 2, none⟩ : Addr).add q) = some (mvF (nM (ns.take k ++ (m, l) :: ns.drop k)) (nL (ns.take k ++ (m, l) :: ns.drop k)) ((k + 1) * 2 + q))) := fun W h => fy_r h q4
      have HFR : Hid (∀ W, OwnN W g cap ns → ∀ q, q < (ns.length - k) * 2 → W.cell? ((if cap = k then (⟨g, 0, none⟩ : Addr) else ⟨g, k * 2, none⟩).add q) = some (mvF (nM (ns.take k ++ (m, l) :: ns.drop k)) (nL (ns.take k ++ (m, l) :: ns.drop k)) ((k + 1) * 2 + q))) := fun W h q hq => by
        have hc := h.1
        rw [if_neg (by omega)]
        exact HFR.out W h q hq
      have HFM : Hid (∀ q, q < 2 → [Value.int .i64 m, .string l][q]? = some (mvF (nM (ns.take k ++ (m, l) :: ns.drop k)) (nL (ns.take k ++ (m, l) :: ns.drop k)) (k * 2 + q))) := fy_m (z := (m, l)) q4
      have HYL : Hid (k + 1 + (ns.length - k) = (ns.take k ++ (m, l) :: ns.drop k).length) := by show _ = _; simp; omega
      generalize ns.take k ++ (m, l) :: ns.drop k = Y at *
      obtain ⟨⟨_, _⟩, hm2⟩ := HCC.out _ (below_all wr (.cells #[] 61))
      have hcap : ns.length ≤ cap := HI.out.ns.1
      have v0 : (j : Int) < (L.length : Int) := by omega
      have v1 : (k : Int) ≤ (cap : Int) := by omega
      have v2 : (k : Int) ≤ (ns.length : Int) := by omega
      have v3 : k ≤ cap := by omega
      go_wp2_with (at_builtin; refine wpList_app elMv rfl (.tmp 56) (.tmp 62) (by rfl) (own_empty wr 2 _ (mvF (nM Y) (nL Y))) (by rfl) ⟨g, 0, none⟩ k cap (by rfl) (HFL.out _ (HI.out.keep (below_all _ _)).ns) (fun _ _ => mvF_one _ _ _) (by unfold maxLen; omega) (by omega) ?_; intro gx cx wa hA hgr hd; rw [Nat.zero_add] at hA; have HX := Lib.hid hA; have HBa : Hid (Below wr.heap.size wr wa) := (below_all _ _).trans (below_of_grown hgr (Nat.le_refl _) (by simp)); have hdx : wr.heap.size ≤ gx := (by rw [World.size_alloc] at hd; omega); clear hA hgr hd)
      have hbs := HBa.out.size
      have HBd : Hid (Below wr.heap.size wr wa.drew) := HBa.out.drew
      have HX2 : Hid (Own wa.drew gx cx k 2 61 (mvF (nM Y) (nL Y))) := Own.below (B := wa.heap.size) HX.out (Below.refl _ _).drew (Own.lt HX.out)
      have v4 : (0 : Int) ≤ (k : Int) := by omega
      have v5 : ((k : Int)).toNat = k := by omega
      clear HX hm2
      refine wp_region_held_drew (S := fun W => (W.cell? ⟨g1, j * 2, none⟩ = some (.int .i64 m) ∧ W.cell? ⟨g1, j * 2 + 1, none⟩ = some (.string l)) ∧ W.cell? ⟨g2, j, none⟩ = some (.int .i64 k)) (by kernel_rfl) (HCC.out _ HBd.out) (fun hHeld => ?_)
      refine wpAnyH_take (i := 0) (oi := ?_) (v := ?_) ?_ (by kernel_rfl) (by kernel_rfl) (by kernel_rfl) ?_ ?_ (by assumption) ?_
      rotate_left 2
      · simp only [List.getElem?_toArray, List.getElem?_cons_succ, List.getElem?_cons_zero]; rfl
      · exact fun _ _ _ h => h
      · first
          | (refine Or.inr ⟨?_, ?_⟩ <;> rfl)
          | (refine Or.inl ⟨?_, ?_⟩; · rfl
             intro w hSw; (try dsimp only at hSw); go_simp; (try with_reducible rfl); done)
      try simp only [Act.put, List.setIfInBounds_toArray, List.set_cons_zero, List.set_cons_succ]
      refine wpAnyH_take (i := 1) (oi := ?_) (v := ?_) ?_ (by kernel_rfl) (by kernel_rfl) (by kernel_rfl) ?_ ?_ (by assumption) ?_
      rotate_left 2
      · simp only [List.getElem?_toArray, List.getElem?_cons_succ, List.getElem?_cons_zero]; rfl
      · exact fun _ _ _ h => h
      · first
          | (refine Or.inr ⟨?_, ?_⟩ <;> rfl)
          | (refine Or.inl ⟨?_, ?_⟩; · rfl
             intro w hSw; (try dsimp only at hSw); go_simp; (try with_reducible rfl); done)
      try simp only [Act.put, List.setIfInBounds_toArray, List.set_cons_zero, List.set_cons_succ]
      refine wpAnyH_take (i := 2) (oi := ?_) (v := ?_) ?_ (by kernel_rfl) (by kernel_rfl) (by kernel_rfl) ?_ ?_ (by assumption) ?_
      rotate_left 2
      · simp only [List.getElem?_toArray, List.getElem?_cons_succ, List.getElem?_cons_zero]; rfl
      · exact fun _ _ _ h => h
      · first
          | (refine Or.inr ⟨?_, ?_⟩ <;> rfl)
          | (refine Or.inl ⟨?_, ?_⟩; · rfl
             intro w hSw; (try dsimp only at hSw); go_simp; (try with_reducible rfl); done)
      try simp only [Act.put, List.setIfInBounds_toArray, List.set_cons_zero, List.set_cons_succ]
      refine wpAnyH_take (i := 3) (oi := ?_) (v := ?_) ?_ (by kernel_rfl) (by kernel_rfl) (by kernel_rfl) ?_ ?_ (by assumption) ?_
      rotate_left 2
      · simp only [List.getElem?_toArray, List.getElem?_cons_succ, List.getElem?_cons_zero]; rfl
      · exact fun _ _ _ h => h
      · first
          | (refine Or.inr ⟨?_, ?_⟩ <;> rfl)
          | (refine Or.inl ⟨?_, ?_⟩; · rfl
             intro w hSw; (try dsimp only at hSw); go_simp; (try with_reducible rfl); done)
      try simp only [Act.put, List.setIfInBounds_toArray, List.set_cons_zero, List.set_cons_succ]
      refine wpAnyH_take (i := 4) (oi := ?_) (v := ?_) ?_ (by kernel_rfl) (by kernel_rfl) (by kernel_rfl) ?_ ?_ (by assumption) ?_
      rotate_left 2
      · simp only [List.getElem?_toArray, List.getElem?_cons_succ, List.getElem?_cons_zero]; rfl
      · exact fun _ _ _ h => h
      · first
          | (refine Or.inr ⟨?_, ?_⟩ <;> rfl)
          | (refine Or.inl ⟨?_, ?_⟩; · rfl
             intro w hSw; (try dsimp only at hSw); go_simp; (try with_reducible rfl); done)
      try simp only [Act.put, List.setIfInBounds_toArray, List.set_cons_zero, List.set_cons_succ]
      refine wpAnyH_take (i := 7) (oi := ?_) (v := ?_) ?_ (by kernel_rfl) (by kernel_rfl) (by kernel_rfl) ?_ ?_ (by assumption) ?_
      rotate_left 2
      · simp only [List.getElem?_toArray, List.getElem?_cons_succ, List.getElem?_cons_zero]; rfl
      · exact fun _ _ _ h => h
      · first
          | (refine Or.inr ⟨?_, ?_⟩ <;> rfl)
          | (refine Or.inl ⟨?_, ?_⟩; · rfl
             intro w hSw; (try dsimp only at hSw); go_simp; (try with_reducible rfl); done)
      try simp only [Act.put, List.setIfInBounds_toArray, List.set_cons_zero, List.set_cons_succ]
      refine wpAnyH_take (i := 8) (oi := ?_) (v := ?_) ?_ (by kernel_rfl) (by kernel_rfl) (by kernel_rfl) ?_ ?_ (by assumption) ?_
      rotate_left 2
      · simp only [List.getElem?_toArray, List.getElem?_cons_succ, List.getElem?_cons_zero]; rfl
      · exact fun _ _ _ h => h
      · first
          | (refine Or.inr ⟨?_, ?_⟩ <;> rfl)
          | (refine Or.inl ⟨?_, ?_⟩; · rfl
             intro w hSw; (try dsimp only at hSw); go_simp; (try with_reducible rfl); done)
      try simp only [Act.put, List.setIfInBounds_toArray, List.set_cons_zero, List.set_cons_succ]
      refine wpAnyH_take (i := 9) (oi := ?_) (v := ?_) ?_ (by kernel_rfl) (by kernel_rfl) (by kernel_rfl) ?_ ?_ (by assumption) ?_
      rotate_left 2
      · simp only [List.getElem?_toArray, List.getElem?_cons_succ, List.getElem?_cons_zero]; rfl
      · exact fun _ _ _ h => h
      · first
          | (refine Or.inr ⟨?_, ?_⟩ <;> rfl)
          | (refine Or.inl ⟨?_, ?_⟩; · rfl
             intro w hSw; (try dsimp only at hSw); go_simp; (try with_reducible rfl); done)
      try simp only [Act.put, List.setIfInBounds_toArray, List.set_cons_zero, List.set_cons_succ]
      refine wpAnyH_take (i := 10) (oi := ?_) (v := ?_) ?_ (by kernel_rfl) (by kernel_rfl) (by kernel_rfl) ?_ ?_ (by assumption) ?_
      rotate_left 2
      · simp only [List.getElem?_toArray, List.getElem?_cons_succ, List.getElem?_cons_zero]; rfl
      · exact fun _ _ _ h => h
      · first
          | (refine Or.inr ⟨?_, ?_⟩ <;> rfl)
          | (refine Or.inl ⟨?_, ?_⟩; · rfl
             intro w hSw; (try dsimp only at hSw); go_simp; (try with_reducible rfl); done)
      try simp only [Act.put, List.setIfInBounds_toArray, List.set_cons_zero, List.set_cons_succ]
      refine wpAnyH_take (i := 11) (oi := ?_) (v := ?_) ?_ (by kernel_rfl) (by kernel_rfl) (by kernel_rfl) ?_ ?_ (by assumption) ?_
      rotate_left 2
      · simp only [List.getElem?_toArray, List.getElem?_cons_succ, List.getElem?_cons_zero]; rfl
      · exact fun _ _ _ h => h
      · first
          | (refine Or.inr ⟨?_, ?_⟩ <;> rfl)
          | (refine Or.inl ⟨?_, ?_⟩; · rfl
             intro w hSw; (try dsimp only at hSw); go_simp; (try with_reducible rfl); done)
      try simp only [Act.put, List.setIfInBounds_toArray, List.set_cons_zero, List.set_cons_succ]
      refine wpAnyH_take (i := 12) (oi := ?_) (v := ?_) ?_ (by kernel_rfl) (by kernel_rfl) (by kernel_rfl) ?_ ?_ (by assumption) ?_
      rotate_left 2
      · simp only [List.getElem?_toArray, List.getElem?_cons_succ, List.getElem?_cons_zero]; rfl
      · exact fun _ _ _ h => h
      · first
          | (refine Or.inr ⟨?_, ?_⟩ <;> rfl)
          | (refine Or.inl ⟨?_, ?_⟩; · rfl
             intro w hSw; (try dsimp only at hSw); go_simp; (try with_reducible rfl); done)
      try simp only [Act.put, List.setIfInBounds_toArray, List.set_cons_zero, List.set_cons_succ]
      refine wpAnyH_ready (rs := [5]) (by kernel_rfl) (by simp) ?_
      refine AllReadyH.cons (o := ?_) ?_ (fun K hK => ?_) AllReadyH.nil
      rotate_left 1
      · simp only [List.getElem?_toArray, List.getElem?_cons_succ, List.getElem?_cons_zero]; rfl
      go_simp
      skip
      refine hK.out _ _ ?_ (fun hHeld => ?_)
      · try dsimp only
        exact HCC.out _ (HBd.out.alloc hbs _)
      clear hK K
      try simp only [Act.put, List.setIfInBounds_toArray, List.set_cons_zero, List.set_cons_succ]
      refine wpAnyH_ready (rs := [6]) (by kernel_rfl) (by simp) ?_
      refine AllReadyH.cons (o := ?_) ?_ (fun K hK => ?_) AllReadyH.nil
      rotate_left 1
      · simp only [List.getElem?_toArray, List.getElem?_cons_succ, List.getElem?_cons_zero]; rfl
      refine step_pushS (w := wa.drew) elMv rfl (.tmp 64) (.tmp 69) rfl HX2.out rfl [.int .i64 m, .string l] rfl HFM.out (fun _ _ => mvF_one _ _ _) (by unfold maxLen; omega) (by omega) ?_
      intro gy cy wb HA hgr hd
      have HY := Lib.hid HA
      have HBb : Hid (Below wr.heap.size wr wb) := HBd.out.trans (below_of_grown hgr hdx HBd.out.size)
      have hdy : wr.heap.size ≤ gy := (by rcases hd with h | h
                                          · omega
                                          · have h2 : wa.heap.size < gy := h; omega)
      obtain ⟨⟨hm0, hm1⟩, hm2⟩ := HCC.out _ HBb.out
      clear HA hgr hd
      refine hK.out _ _ ?_ (fun hHeld => ?_)
      · try dsimp only
        go_keep
      clear hK K
      try simp only [Act.put, List.setIfInBounds_toArray, List.set_cons_zero, List.set_cons_succ]
      refine wpAnyH_ready (rs := [13]) (by kernel_rfl) (by simp) ?_
      refine AllReadyH.cons (o := ?_) ?_ (fun K hK => ?_) AllReadyH.nil
      rotate_left 1
      · simp only [List.getElem?_toArray, List.getElem?_cons_succ, List.getElem?_cons_zero]; rfl
      refine step_app elMv rfl (.tmp 70) (.tmp 76) rfl HY.out rfl (if cap = k then ⟨g, 0, none⟩ else ⟨g, k * 2, none⟩) (ns.length - k) (cap - k) (by show Value.slice _ _ _ = _; split <;> rfl) (HFR.out _ (HI.out.keep HBb.out).ns) (fun _ _ => mvF_one _ _ _) (by unfold maxLen; omega) (by omega) ?_
      intro gz cz wc HA hgr hd
      have HZ := Lib.hid HA
      have HBc : Hid (Below wr.heap.size wr wc) := HBb.out.trans (below_of_grown hgr hdy HBb.out.size)
      obtain ⟨⟨hm0, hm1⟩, hm2⟩ := HCC.out _ HBc.out
      clear HA hgr hd
      refine hK.out _ _ ?_ (fun hHeld => ?_)
      · try dsimp only
        go_keep
      clear hK K
      try simp only [Act.put, List.setIfInBounds_toArray, List.set_cons_zero, List.set_cons_succ]
      refine wpAnyH_take (i := 14) (oi := ?_) (v := ?_) ?_ (by kernel_rfl) (by kernel_rfl) (by kernel_rfl) ?_ ?_ (by assumption) ?_
      rotate_left 2
      · simp only [List.getElem?_toArray, List.getElem?_cons_succ, List.getElem?_cons_zero]; rfl
      · exact fun _ _ _ h => h
      · first
          | (refine Or.inr ⟨?_, ?_⟩ <;> rfl)
          | (refine Or.inl ⟨?_, ?_⟩; · rfl
             intro w hSw; (try dsimp only at hSw); go_simp; (try with_reducible rfl); done)
      try simp only [Act.put, List.setIfInBounds_toArray, List.set_cons_zero, List.set_cons_succ]
      refine wpAnyH_done (by kernel_rfl) ?_ _
      rw [HYL.out] at HZ ⊢
      generalize (if cap = k then some (⟨g, 0, none⟩ : Addr) else some ⟨g, k * 2, none⟩) = pp
      have hyl : Y.length ≤ 34 := by rw [← HYL.out]; omega
      have HSY : Hid (∀ W, OwnN W gz cz Y → Calls Try.prog 28 #[.slice (some ⟨gz, 0, none⟩) Y.length cz] W fun e w' => e = .returned (.bool true) ∧ Below W.heap.size W w') := fun W h => by
        have q := sound_any gz 0 cz Y W (by omega) h.nt
        rwa [HY1.out.1] at q
      have HTY : Hid (∀ W, OwnN W gz cz Y → Calls Try.prog 34 #[.slice (some ⟨gz, 0, none⟩) Y.length cz] W fun e w' => e = .returned (.string x) ∧ Below W.heap.size W w') := fun W h => by
        have q := regText_any gz 0 cz Y W (by omega) h.nt
        rwa [HY1.out.2] at q
      have HZ0 : Hid (OwnN wc gz cz Y) := HZ.out
      have HTC2 : Hid (∀ W, Below wr.heap.size wr W → W.cell? ⟨gt, j, none⟩ = some (.string x)) := fun W h => HTC.out W (HI.out.keep h).tx
      clear hm0 hm1 hm2 HZ HY HX2 HBd HBa HBb hHeld HCC HFL HFR HFM HYL HY1 hbs hdx hdy
      have hxx := tlx_eq (rfl : x = x)
      go_wp2_with fail
      refine wp_region_held_drew (S := fun W => W.cell? ⟨gt, j, none⟩ = some (.string x)) (by kernel_rfl) (HTC2.out _ HBc.out.drew) (fun hHeld => ?_)
      have HBd : Hid (Below wr.heap.size wr wc.drew) := HBc.out.drew
      have HZ1 : Hid (OwnN wc.drew gz cz Y) := Own.below (B := wc.heap.size) HZ0.out (Below.refl _ _).drew (Own.lt HZ0.out)
      refine wpAnyH_take (i := 0) (oi := ?_) (v := ?_) ?_ (by kernel_rfl) (by kernel_rfl) (by kernel_rfl) ?_ ?_ (by assumption) ?_
      rotate_left 2
      · simp only [List.getElem?_toArray, List.getElem?_cons_succ, List.getElem?_cons_zero]; rfl
      · exact fun _ _ _ h => h
      · first
          | (refine Or.inr ⟨?_, ?_⟩ <;> rfl)
          | (refine Or.inl ⟨?_, ?_⟩; · rfl
             intro w hSw; (try dsimp only at hSw); go_simp; (try with_reducible rfl); done)
      try simp only [Act.put, List.setIfInBounds_toArray, List.set_cons_zero, List.set_cons_succ]
      refine wpAnyH_ready (rs := [1]) (by kernel_rfl) (by simp) ?_
      refine AllReadyH.cons (o := ?_) ?_ (fun K hK => ?_) AllReadyH.nil
      rotate_left 1
      · simp only [List.getElem?_toArray, List.getElem?_cons_succ, List.getElem?_cons_zero]; rfl
      go_simp
      go_at_call 28
      go_must (refine Calls.mono (HSY.out _ HZ1.out) ?_)
      rintro e wd ⟨rfl, hbd⟩
      have HZ2 : Hid (OwnN wd gz cz Y) := Own.below HZ1.out hbd (Own.lt HZ1.out)
      have HBe : Hid (Below wr.heap.size wr wd) := HBd.out.trans (hbd.mono HBd.out.size)
      clear hbd
      refine hK.out _ _ ?_ (fun hHeld => ?_)
      · try dsimp only
        exact HTC2.out _ HBe.out
      clear hK K
      try simp only [Act.put, List.setIfInBounds_toArray, List.set_cons_zero, List.set_cons_succ]
      refine wpAnyH_take (i := 2) (oi := ?_) (v := ?_) ?_ (by kernel_rfl) (by kernel_rfl) (by kernel_rfl) ?_ ?_ (by assumption) ?_
      rotate_left 2
      · simp only [List.getElem?_toArray, List.getElem?_cons_succ, List.getElem?_cons_zero]; rfl
      · exact fun _ _ _ h => h
      · first
          | (refine Or.inr ⟨?_, ?_⟩ <;> rfl)
          | (refine Or.inl ⟨?_, ?_⟩; · rfl
             intro w hSw; (try dsimp only at hSw); go_simp; (try with_reducible rfl); done)
      try simp only [Act.put, List.setIfInBounds_toArray, List.set_cons_zero, List.set_cons_succ]
      refine wpAnyH_take (i := 3) (oi := ?_) (v := ?_) ?_ (by kernel_rfl) (by kernel_rfl) (by kernel_rfl) ?_ ?_ (by assumption) ?_
      rotate_left 2
      · simp only [List.getElem?_toArray, List.getElem?_cons_succ, List.getElem?_cons_zero]; rfl
      · exact fun _ _ _ h => h
      · first
          | (refine Or.inr ⟨?_, ?_⟩ <;> rfl)
          | (refine Or.inl ⟨?_, ?_⟩; · rfl
             intro w hSw; (try dsimp only at hSw); go_simp; (try with_reducible rfl); done)
      try simp only [Act.put, List.setIfInBounds_toArray, List.set_cons_zero, List.set_cons_succ]
      refine wpAnyH_take (i := 4) (oi := ?_) (v := ?_) ?_ (by kernel_rfl) (by kernel_rfl) (by kernel_rfl) ?_ ?_ (by assumption) ?_
      rotate_left 2
      · simp only [List.getElem?_toArray, List.getElem?_cons_succ, List.getElem?_cons_zero]; rfl
      · exact fun _ _ _ h => h
      · first
          | (refine Or.inr ⟨?_, ?_⟩ <;> rfl)
          | (refine Or.inl ⟨?_, ?_⟩; · rfl
             intro w hSw; (try dsimp only at hSw); go_simp; (try with_reducible rfl); done)
      try simp only [Act.put, List.setIfInBounds_toArray, List.set_cons_zero, List.set_cons_succ]
      refine wpAnyH_take (i := 6) (oi := ?_) (v := ?_) ?_ (by kernel_rfl) (by kernel_rfl) (by kernel_rfl) ?_ ?_ (by assumption) ?_
      rotate_left 2
      · simp only [List.getElem?_toArray, List.getElem?_cons_succ, List.getElem?_cons_zero]; rfl
      · exact fun _ _ _ h => h
      · first
          | (refine Or.inr ⟨?_, ?_⟩ <;> rfl)
          | (refine Or.inl ⟨?_, ?_⟩; · rfl
             intro w hSw; (try dsimp only at hSw); go_simp; (try with_reducible rfl); done)
      try simp only [Act.put, List.setIfInBounds_toArray, List.set_cons_zero, List.set_cons_succ]
      refine wpAnyH_take (i := 7) (oi := ?_) (v := ?_) ?_ (by kernel_rfl) (by kernel_rfl) (by kernel_rfl) ?_ ?_ (by assumption) ?_
      rotate_left 2
      · simp only [List.getElem?_toArray, List.getElem?_cons_succ, List.getElem?_cons_zero]; rfl
      · exact fun _ _ _ h => h
      · first
          | (refine Or.inr ⟨?_, ?_⟩ <;> rfl)
          | (refine Or.inl ⟨?_, ?_⟩; · rfl
             intro w hSw; (try dsimp only at hSw); go_simp; (try with_reducible rfl); done)
      try simp only [Act.put, List.setIfInBounds_toArray, List.set_cons_zero, List.set_cons_succ]
      refine wpAnyH_take (i := 8) (oi := ?_) (v := ?_) ?_ (by kernel_rfl) (by kernel_rfl) (by kernel_rfl) ?_ ?_ (by assumption) ?_
      rotate_left 2
      · simp only [List.getElem?_toArray, List.getElem?_cons_succ, List.getElem?_cons_zero]; rfl
      · exact fun _ _ _ h => h
      · first
          | (refine Or.inr ⟨?_, ?_⟩ <;> rfl)
          | (refine Or.inl ⟨?_, ?_⟩; · rfl
             intro w hSw; (try dsimp only at hSw); go_simp; (try with_reducible rfl); done)
      try simp only [Act.put, List.setIfInBounds_toArray, List.set_cons_zero, List.set_cons_succ]
      refine wpAnyH_take (i := 9) (oi := ?_) (v := ?_) ?_ (by kernel_rfl) (by kernel_rfl) (by kernel_rfl) ?_ ?_ (by assumption) ?_
      rotate_left 2
      · simp only [List.getElem?_toArray, List.getElem?_cons_succ, List.getElem?_cons_zero]; rfl
      · exact fun _ _ _ h => h
      · first
          | (refine Or.inr ⟨?_, ?_⟩ <;> rfl)
          | (refine Or.inl ⟨?_, ?_⟩; · rfl
             intro w hSw; (try dsimp only at hSw); go_simp; (try with_reducible rfl); done)
      try simp only [Act.put, List.setIfInBounds_toArray, List.set_cons_zero, List.set_cons_succ]
      refine wpAnyH_ready (rs := [5]) (by kernel_rfl) (by simp) ?_
      refine AllReadyH.cons (o := ?_) ?_ (fun K hK => ?_) AllReadyH.nil
      rotate_left 1
      · simp only [List.getElem?_toArray, List.getElem?_cons_succ, List.getElem?_cons_zero]; rfl
      go_simp
      go_at_call 34
      go_must (refine Calls.mono (HTY.out _ HZ2.out) ?_)
      rintro e we ⟨rfl, hbe⟩
      have HBf : Hid (Below wr.heap.size wr we) := HBe.out.trans (hbe.mono HBe.out.size)
      clear hbe
      refine hK.out _ _ ?_ (fun hHeld => ?_)
      · try dsimp only
        exact HTC2.out _ HBf.out
      clear hK K
      try simp only [Act.put, List.setIfInBounds_toArray, List.set_cons_zero, List.set_cons_succ]
      refine wpAnyH_take (i := 10) (oi := ?_) (v := ?_) ?_ (by kernel_rfl) (by kernel_rfl) (by kernel_rfl) ?_ ?_ (by assumption) ?_
      rotate_left 2
      · simp only [List.getElem?_toArray, List.getElem?_cons_succ, List.getElem?_cons_zero]; rfl
      · exact fun _ _ _ h => h
      · first
          | (refine Or.inr ⟨?_, ?_⟩ <;> rfl)
          | (refine Or.inl ⟨?_, ?_⟩; · rfl
             intro w hSw; (try dsimp only at hSw); go_simp; (try with_reducible rfl); done)
      try simp only [Act.put, List.setIfInBounds_toArray, List.set_cons_zero, List.set_cons_succ]
      refine wpAnyH_take (i := 11) (oi := ?_) (v := ?_) ?_ (by kernel_rfl) (by kernel_rfl) (by kernel_rfl) ?_ ?_ (by assumption) ?_
      rotate_left 2
      · simp only [List.getElem?_toArray, List.getElem?_cons_succ, List.getElem?_cons_zero]; rfl
      · exact fun _ _ _ h => h
      · first
          | (refine Or.inr ⟨?_, ?_⟩ <;> rfl)
          | (refine Or.inl ⟨?_, ?_⟩; · rfl
             intro w hSw; (try dsimp only at hSw); go_simp; (try with_reducible rfl); done)
      try simp only [Act.put, List.setIfInBounds_toArray, List.set_cons_zero, List.set_cons_succ]
      refine wpAnyH_done (by kernel_rfl) ?_ _
      go_wp2_with fail
      go_roundw
      case rel => exact ⟨j + 1, by omega, by go_num, HI.out.keep HBf.out⟩
      case measure => simp [intOf]; omega
    · obtain rfl : j = L.length := by omega
      go_wp2_with fail
      go_ret
      exact ⟨rfl, HI.out.bl⟩
end Go.Proofs.Ytokddeoliieofaa
