/-
  The law FnRegisterJoin.
-/
import Derived.Test.YtokddeoliieofaaKz
import Derived.Test.YtokddeoliieofaaLSd
namespace Go.Proofs.Ytokddeoliieofaa
open Go.RowKit

theorem txN_app (a b : List (Int × ByteArray)) : txN (a ++ b) = txN a ++ txN b := by
  apply ByteArray.ext
  rw [ByteArray.data_append]
  show (rgT (a ++ b)).toArray = (rgT a).toArray ++ (rgT b).toArray
  rw [rgT_app]
  simp
theorem txN_size {ns : List (Int × ByteArray)} (h : rgV ns = true) : (txN ns).size ≤ 30 := by
  show (rgT ns).toArray.size ≤ 30
  rw [List.size_toArray, rgT_size h]
  exact (rgV_true.1 h).1
theorem jn_sound {xa xb : List (Int × ByteArray)} (h : rgV (xa ++ xb) = true) (h0 : brJ 0 false false (txN xa) = 0) (hb : sdV xb = true) : sdV (xa ++ xb) = true := by
  have ha : rgV xa = true := by have := rgV_take h xa.length; rwa [List.take_left] at this
  unfold sdV at hb ⊢
  rw [Bool.and_eq_true] at hb ⊢
  refine ⟨h, lgB_true.2 ⟨txN_size h, ?_⟩⟩
  rw [brJ_yes (txN_size ha)] at h0
  have h1 := (lgB_true.1 hb.2).2
  show rnS 0 (rgT (xa ++ xb)).toArray.toList < 5
  have h2 : rnS 0 (rgT xa).toArray.toList = 0 := h0
  have h3 : rnS 0 (rgT xb).toArray.toList < 5 := h1
  rw [List.toList_toArray] at h2 h3 ⊢
  rw [rgT_app, rnS_app, h2]
  exact h3
theorem jn_left {xa xb : List (Int × ByteArray)} (h : sdV (xa ++ xb) = true) : sdV xa = true := by
  have := sdV_take h xa.length
  rwa [List.take_left] at this
set_option maxRecDepth 100000 in
set_option maxHeartbeats 4000000 in
set_option linter.unusedSimpArgs false in
theorem lawRJoin_any (ao : Option Addr) (n c : Nat) (w : World) (hB : BSl w ao n) (hnc : n ≤ c) (hn : n ≤ 9223372036854775807) :
    Calls Try.prog 6 #[.slice ao n c] w fun e w' => e = .returned (.bool true) ∧ Below w.heap.size w w' := by
  have HBS := Lib.hid hB
  clear hB
  by_cases hlong : 1048576 < n
  · go_enter Try.func6, Try.ntmps6
    go_wp2_with fail
    go_ret
    exact ⟨rfl, Below.refl _ _⟩
  go_enter Try.func6, Try.ntmps6
  go_wp2_with fail
  refine (drawJoin_any ao n c _ hnc hn HBS.out).mono ?_
  rintro e w1 ⟨g, cap, g2, cap2, xa, xb, rfl, hoa, hob, hla, hlb, hb1⟩
  have HA : Hid (Own w1 g cap xa.length 2 61 (mvF (nM xa) (nL xa))) := hoa
  have HC : Hid (Own w1 g2 cap2 xb.length 2 61 (mvF (nM xb) (nL xb))) := hob
  have HB := Lib.hid hb1
  clear hoa hob hb1
  go_wp2_with fail
  refine (join_any g 0 cap g2 0 cap2 xa xb _ (by omega) (by omega) (OwnN.nt HA.out) (OwnN.nt HC.out)).mono ?_
  rintro e w2 ⟨⟨g3, c3, rfl, ho3, _⟩, hb2⟩
  have hb9 := hb2
  (try replace T1 := Lib.hid (Own.below T1.out hb9 (Own.lt T1.out)))
  (try replace T2 := Lib.hid (Own.below T2.out hb9 (Own.lt T2.out)))
  replace HA := Lib.hid (Own.below HA.out hb9 (Own.lt HA.out))
  replace HC := Lib.hid (Own.below HC.out hb9 (Own.lt HC.out))
  replace HB := Lib.hid (HB.out.trans (Below.mono hb9 HB.out.size))
  clear hb9
  have T1 : Hid (OwnN w2 g3 c3 (jnL xa xb)) := ho3
  clear ho3 hb2
  go_wp2_with fail
  refine (specJoin_any g 0 cap g2 0 cap2 xa xb _ (by omega) (by omega) (OwnN.nt HA.out) (OwnN.nt HC.out)).mono ?_
  rintro e w3 ⟨⟨g4, c4, rfl, ho4, _⟩, hb3⟩
  have hb9 := hb3
  (try replace T1 := Lib.hid (Own.below T1.out hb9 (Own.lt T1.out)))
  (try replace T2 := Lib.hid (Own.below T2.out hb9 (Own.lt T2.out)))
  replace HA := Lib.hid (Own.below HA.out hb9 (Own.lt HA.out))
  replace HC := Lib.hid (Own.below HC.out hb9 (Own.lt HC.out))
  replace HB := Lib.hid (HB.out.trans (Below.mono hb9 HB.out.size))
  clear hb9
  have T2 : Hid (OwnN w3 g4 c4 (jnL xa xb)) := ho4
  clear ho4 hb3
  have hjl : (jnL xa xb).length ≤ 66 := by
    unfold jnL
    split
    · simp; omega
    · exact Nat.zero_le _
  have HSM := fun (W : World) (h1 : OwnN W g3 c3 (jnL xa xb)) (h2 : OwnN W g4 c4 (jnL xa xb)) => smN (by omega) h1 h2
  cases hv : jnV xa xb
  · generalize jnL xa xb = ns at *
    clear hv
    go_wp2_with fail
    refine (HSM _ T1.out T2.out).mono ?_
    rintro e w4 ⟨rfl, hb4⟩
    have hb9 := hb4
    (try replace T1 := Lib.hid (Own.below T1.out hb9 (Own.lt T1.out)))
    (try replace T2 := Lib.hid (Own.below T2.out hb9 (Own.lt T2.out)))
    replace HA := Lib.hid (Own.below HA.out hb9 (Own.lt HA.out))
    replace HC := Lib.hid (Own.below HC.out hb9 (Own.lt HC.out))
    replace HB := Lib.hid (HB.out.trans (Below.mono hb9 HB.out.size))
    clear hb9
    clear hb4
    go_wp2_with fail
    refine (HSM _ T1.out T2.out).mono ?_
    rintro e w5 ⟨rfl, hb5⟩
    have hb9 := hb5
    (try replace T1 := Lib.hid (Own.below T1.out hb9 (Own.lt T1.out)))
    (try replace T2 := Lib.hid (Own.below T2.out hb9 (Own.lt T2.out)))
    replace HA := Lib.hid (Own.below HA.out hb9 (Own.lt HA.out))
    replace HC := Lib.hid (Own.below HC.out hb9 (Own.lt HC.out))
    replace HB := Lib.hid (HB.out.trans (Below.mono hb9 HB.out.size))
    clear hb9
    clear hb5
    go_wp2_with fail
    go_ret
    exact ⟨rfl, HB.out⟩
  have hjn : jnL xa xb = xa ++ xb := if_pos hv
  have h3 : rgV xa = true ∧ rgV xb = true ∧ rgV (xa ++ xb) = true := by
    unfold jnV at hv
    simpa using hv
  rw [hjn] at T1 T2 hjl HSM ⊢
  clear hjn hv
  have hta := txN_size h3.1
  have htb := txN_size h3.2.1
  have HTX : Hid (∀ W, Own W g cap xa.length 2 61 (mvF (nM xa) (nL xa)) → Calls Try.prog 34 #[.slice (some ⟨g, 0, none⟩) xa.length cap] W fun e w' => e = .returned (.string (txN xa)) ∧ Below W.heap.size W w') := fun W h => by
    have q := regText_any g 0 cap xa W (by omega) (OwnN.nt h)
    rwa [show rtT xa = txN xa from if_pos h3.1] at q
  have HTY : Hid (∀ W, Own W g2 cap2 xb.length 2 61 (mvF (nM xb) (nL xb)) → Calls Try.prog 34 #[.slice (some ⟨g2, 0, none⟩) xb.length cap2] W fun e w' => e = .returned (.string (txN xb)) ∧ Below W.heap.size W w') := fun W h => by
    have q := regText_any g2 0 cap2 xb W (by omega) (OwnN.nt h)
    rwa [show rtT xb = txN xb from if_pos h3.2.1] at q
  have HTZ : Hid (∀ W, OwnN W g3 c3 (xa ++ xb) → Calls Try.prog 34 #[.slice (some ⟨g3, 0, none⟩) (xa ++ xb).length c3] W fun e w' => e = .returned (.string (txN xa ++ txN xb)) ∧ Below W.heap.size W w') := fun W h => by
    have q := regText_any g3 0 c3 (xa ++ xb) W (by omega) (OwnN.nt h)
    rwa [show rtT (xa ++ xb) = txN (xa ++ xb) from if_pos h3.2.2, txN_app] at q
  have HSA : Hid (∀ W, Own W g cap xa.length 2 61 (mvF (nM xa) (nL xa)) → Calls Try.prog 28 #[.slice (some ⟨g, 0, none⟩) xa.length cap] W fun e w' => e = .returned (.bool (sdV xa)) ∧ Below W.heap.size W w') := fun W h => sound_any g 0 cap xa W (by omega) (OwnN.nt h)
  have HSB : Hid (∀ W, Own W g2 cap2 xb.length 2 61 (mvF (nM xb) (nL xb)) → Calls Try.prog 28 #[.slice (some ⟨g2, 0, none⟩) xb.length cap2] W fun e w' => e = .returned (.bool (sdV xb)) ∧ Below W.heap.size W w') := fun W h => sound_any g2 0 cap2 xb W (by omega) (OwnN.nt h)
  have HSC : Hid (∀ W, OwnN W g3 c3 (xa ++ xb) → Calls Try.prog 28 #[.slice (some ⟨g3, 0, none⟩) (xa ++ xb).length c3] W fun e w' => e = .returned (.bool (sdV (xa ++ xb))) ∧ Below W.heap.size W w') := fun W h => sound_any g3 0 c3 (xa ++ xb) W (by omega) (OwnN.nt h)
  have HNO : Hid (∀ W, Calls Try.prog 40 #[.string (txN xa)] W fun e w' => e = .returned (.tuple #[.bool (decide (brJ 0 false false (txN xa) = 0)), .bool (decide (brJ 0 false false (txN xa) < 5))]) ∧ Below W.heap.size W w') := fun W => blkNormal_any _ W
  have hj1 : brJ 0 false false (txN xa) = 0 → sdV xb = true → sdV (xa ++ xb) = true := jn_sound h3.2.2
  have hj2 : sdV (xa ++ xb) = true → sdV xa = true := jn_left
  generalize brJ 0 false false (txN xa) = j at *
  generalize sdV (xa ++ xb) = sc at *
  generalize sdV xa = sa at *
  generalize sdV xb = sb at *
  generalize txN xa = ta at *
  generalize txN xb = tb at *
  generalize xa ++ xb = ns at *
  clear h3
  have HT1 : Hid (ta.size ≤ 30) := Lib.hid hta
  have HT2 : Hid (tb.size ≤ 30) := Lib.hid htb
  have hts : ta.size + tb.size ≤ 60 := by omega
  go_wp2_with fail
  refine (HSM _ T1.out T2.out).mono ?_
  rintro e w4 ⟨rfl, hb4⟩
  have hb9 := hb4
  (try replace T1 := Lib.hid (Own.below T1.out hb9 (Own.lt T1.out)))
  (try replace T2 := Lib.hid (Own.below T2.out hb9 (Own.lt T2.out)))
  replace HA := Lib.hid (Own.below HA.out hb9 (Own.lt HA.out))
  replace HC := Lib.hid (Own.below HC.out hb9 (Own.lt HC.out))
  replace HB := Lib.hid (HB.out.trans (Below.mono hb9 HB.out.size))
  clear hb9
  clear hb4
  go_wp2_with fail
  refine (HTX.out _ HA.out).mono ?_
  rintro e w5 ⟨rfl, hb5⟩
  have hb9 := hb5
  (try replace T1 := Lib.hid (Own.below T1.out hb9 (Own.lt T1.out)))
  (try replace T2 := Lib.hid (Own.below T2.out hb9 (Own.lt T2.out)))
  replace HA := Lib.hid (Own.below HA.out hb9 (Own.lt HA.out))
  replace HC := Lib.hid (Own.below HC.out hb9 (Own.lt HC.out))
  replace HB := Lib.hid (HB.out.trans (Below.mono hb9 HB.out.size))
  clear hb9
  clear hb5
  go_wp2_with fail
  refine (HNO.out _).mono ?_
  rintro e w6 ⟨rfl, hb6⟩
  have hb9 := hb6
  (try replace T1 := Lib.hid (Own.below T1.out hb9 (Own.lt T1.out)))
  (try replace T2 := Lib.hid (Own.below T2.out hb9 (Own.lt T2.out)))
  replace HA := Lib.hid (Own.below HA.out hb9 (Own.lt HA.out))
  replace HC := Lib.hid (Own.below HC.out hb9 (Own.lt HC.out))
  replace HB := Lib.hid (HB.out.trans (Below.mono hb9 HB.out.size))
  clear hb9
  clear hb6
  have HSND : Hid (decide (j = 0) = true → decide (j < 5) = true) := fun h => by
    have : j = 0 := of_decide_eq_true h
    exact decide_eq_true (by omega)
  have HJ1 : Hid (decide (j = 0) = true → sb = true → sc = true) := fun h1 h2 => hj1 (of_decide_eq_true h1) h2
  have HJ2 : Hid (sc = true → sa = true) := hj2
  clear hj1 hj2
  generalize decide (j = 0) = b0 at *
  generalize decide (j < 5) = b5 at *
  have htl : ((ta ++ tb).toList == (ta ++ tb).toList) = true := by simp
  cases b5
  · obtain rfl : b0 = false := by
      cases b0
      · rfl
      · cases HSND.out rfl
    clear HJ1
    go_wp2_with fail
    refine (HTZ.out _ T1.out).mono ?_
    rintro e w8 ⟨rfl, hb8⟩
    have hb9 := hb8
    (try replace T1 := Lib.hid (Own.below T1.out hb9 (Own.lt T1.out)))
    (try replace T2 := Lib.hid (Own.below T2.out hb9 (Own.lt T2.out)))
    replace HA := Lib.hid (Own.below HA.out hb9 (Own.lt HA.out))
    replace HC := Lib.hid (Own.below HC.out hb9 (Own.lt HC.out))
    replace HB := Lib.hid (HB.out.trans (Below.mono hb9 HB.out.size))
    clear hb9
    clear hb8
    go_wp2_with fail
    refine (HTX.out _ HA.out).mono ?_
    rintro e w9 ⟨rfl, hb9b⟩
    have hb9 := hb9b
    (try replace T1 := Lib.hid (Own.below T1.out hb9 (Own.lt T1.out)))
    (try replace T2 := Lib.hid (Own.below T2.out hb9 (Own.lt T2.out)))
    replace HA := Lib.hid (Own.below HA.out hb9 (Own.lt HA.out))
    replace HC := Lib.hid (Own.below HC.out hb9 (Own.lt HC.out))
    replace HB := Lib.hid (HB.out.trans (Below.mono hb9 HB.out.size))
    clear hb9
    clear hb9b
    go_wp2_with fail
    refine (HTY.out _ HC.out).mono ?_
    rintro e wa ⟨rfl, hba⟩
    have hb9 := hba
    (try replace T1 := Lib.hid (Own.below T1.out hb9 (Own.lt T1.out)))
    (try replace T2 := Lib.hid (Own.below T2.out hb9 (Own.lt T2.out)))
    replace HA := Lib.hid (Own.below HA.out hb9 (Own.lt HA.out))
    replace HC := Lib.hid (Own.below HC.out hb9 (Own.lt HC.out))
    replace HB := Lib.hid (HB.out.trans (Below.mono hb9 HB.out.size))
    clear hb9
    clear hba
    go_wp2_with fail
    refine (HSC.out _ T1.out).mono ?_
    rintro e wc ⟨rfl, hbc⟩
    have hb9 := hbc
    (try replace T1 := Lib.hid (Own.below T1.out hb9 (Own.lt T1.out)))
    (try replace T2 := Lib.hid (Own.below T2.out hb9 (Own.lt T2.out)))
    replace HA := Lib.hid (Own.below HA.out hb9 (Own.lt HA.out))
    replace HC := Lib.hid (Own.below HC.out hb9 (Own.lt HC.out))
    replace HB := Lib.hid (HB.out.trans (Below.mono hb9 HB.out.size))
    clear hb9
    clear hbc
    cases sc
    · clear HJ2
      go_wp2_with fail
      go_ret
      exact ⟨rfl, HB.out⟩
    · obtain rfl : sa = true := by simpa using HJ2.out
      go_wp2_with fail
      refine (HSA.out _ HA.out).mono ?_
      rintro e wd ⟨rfl, hbd⟩
      have hb9 := hbd
      (try replace T1 := Lib.hid (Own.below T1.out hb9 (Own.lt T1.out)))
      (try replace T2 := Lib.hid (Own.below T2.out hb9 (Own.lt T2.out)))
      replace HA := Lib.hid (Own.below HA.out hb9 (Own.lt HA.out))
      replace HC := Lib.hid (Own.below HC.out hb9 (Own.lt HC.out))
      replace HB := Lib.hid (HB.out.trans (Below.mono hb9 HB.out.size))
      clear hb9
      clear hbd
      go_wp2_with fail
      go_ret
      exact ⟨rfl, HB.out⟩
  · cases b0
    · clear HJ1
      go_wp2_with fail
      refine (HTZ.out _ T1.out).mono ?_
      rintro e w8 ⟨rfl, hb8⟩
      have hb9 := hb8
      (try replace T1 := Lib.hid (Own.below T1.out hb9 (Own.lt T1.out)))
      (try replace T2 := Lib.hid (Own.below T2.out hb9 (Own.lt T2.out)))
      replace HA := Lib.hid (Own.below HA.out hb9 (Own.lt HA.out))
      replace HC := Lib.hid (Own.below HC.out hb9 (Own.lt HC.out))
      replace HB := Lib.hid (HB.out.trans (Below.mono hb9 HB.out.size))
      clear hb9
      clear hb8
      go_wp2_with fail
      refine (HTX.out _ HA.out).mono ?_
      rintro e w9 ⟨rfl, hb9b⟩
      have hb9 := hb9b
      (try replace T1 := Lib.hid (Own.below T1.out hb9 (Own.lt T1.out)))
      (try replace T2 := Lib.hid (Own.below T2.out hb9 (Own.lt T2.out)))
      replace HA := Lib.hid (Own.below HA.out hb9 (Own.lt HA.out))
      replace HC := Lib.hid (Own.below HC.out hb9 (Own.lt HC.out))
      replace HB := Lib.hid (HB.out.trans (Below.mono hb9 HB.out.size))
      clear hb9
      clear hb9b
      go_wp2_with fail
      refine (HTY.out _ HC.out).mono ?_
      rintro e wa ⟨rfl, hba⟩
      have hb9 := hba
      (try replace T1 := Lib.hid (Own.below T1.out hb9 (Own.lt T1.out)))
      (try replace T2 := Lib.hid (Own.below T2.out hb9 (Own.lt T2.out)))
      replace HA := Lib.hid (Own.below HA.out hb9 (Own.lt HA.out))
      replace HC := Lib.hid (Own.below HC.out hb9 (Own.lt HC.out))
      replace HB := Lib.hid (HB.out.trans (Below.mono hb9 HB.out.size))
      clear hb9
      clear hba
      go_wp2_with fail
      refine (HSC.out _ T1.out).mono ?_
      rintro e wc ⟨rfl, hbc⟩
      have hb9 := hbc
      (try replace T1 := Lib.hid (Own.below T1.out hb9 (Own.lt T1.out)))
      (try replace T2 := Lib.hid (Own.below T2.out hb9 (Own.lt T2.out)))
      replace HA := Lib.hid (Own.below HA.out hb9 (Own.lt HA.out))
      replace HC := Lib.hid (Own.below HC.out hb9 (Own.lt HC.out))
      replace HB := Lib.hid (HB.out.trans (Below.mono hb9 HB.out.size))
      clear hb9
      clear hbc
      cases sc
      · clear HJ2
        go_wp2_with fail
        go_ret
        exact ⟨rfl, HB.out⟩
      · obtain rfl : sa = true := by simpa using HJ2.out
        go_wp2_with fail
        refine (HSA.out _ HA.out).mono ?_
        rintro e wd ⟨rfl, hbd⟩
        have hb9 := hbd
        (try replace T1 := Lib.hid (Own.below T1.out hb9 (Own.lt T1.out)))
        (try replace T2 := Lib.hid (Own.below T2.out hb9 (Own.lt T2.out)))
        replace HA := Lib.hid (Own.below HA.out hb9 (Own.lt HA.out))
        replace HC := Lib.hid (Own.below HC.out hb9 (Own.lt HC.out))
        replace HB := Lib.hid (HB.out.trans (Below.mono hb9 HB.out.size))
        clear hb9
        clear hbd
        go_wp2_with fail
        go_ret
        exact ⟨rfl, HB.out⟩
    · go_wp2_with fail
      refine (HSB.out _ HC.out).mono ?_
      rintro e w7 ⟨rfl, hb7⟩
      have hb9 := hb7
      (try replace T1 := Lib.hid (Own.below T1.out hb9 (Own.lt T1.out)))
      (try replace T2 := Lib.hid (Own.below T2.out hb9 (Own.lt T2.out)))
      replace HA := Lib.hid (Own.below HA.out hb9 (Own.lt HA.out))
      replace HC := Lib.hid (Own.below HC.out hb9 (Own.lt HC.out))
      replace HB := Lib.hid (HB.out.trans (Below.mono hb9 HB.out.size))
      clear hb9
      clear hb7
      cases sb
      · go_wp2_with fail
        refine (HTZ.out _ T1.out).mono ?_
        rintro e w8 ⟨rfl, hb8⟩
        have hb9 := hb8
        (try replace T1 := Lib.hid (Own.below T1.out hb9 (Own.lt T1.out)))
        (try replace T2 := Lib.hid (Own.below T2.out hb9 (Own.lt T2.out)))
        replace HA := Lib.hid (Own.below HA.out hb9 (Own.lt HA.out))
        replace HC := Lib.hid (Own.below HC.out hb9 (Own.lt HC.out))
        replace HB := Lib.hid (HB.out.trans (Below.mono hb9 HB.out.size))
        clear hb9
        clear hb8
        go_wp2_with fail
        refine (HTX.out _ HA.out).mono ?_
        rintro e w9 ⟨rfl, hb9b⟩
        have hb9 := hb9b
        (try replace T1 := Lib.hid (Own.below T1.out hb9 (Own.lt T1.out)))
        (try replace T2 := Lib.hid (Own.below T2.out hb9 (Own.lt T2.out)))
        replace HA := Lib.hid (Own.below HA.out hb9 (Own.lt HA.out))
        replace HC := Lib.hid (Own.below HC.out hb9 (Own.lt HC.out))
        replace HB := Lib.hid (HB.out.trans (Below.mono hb9 HB.out.size))
        clear hb9
        clear hb9b
        go_wp2_with fail
        refine (HTY.out _ HC.out).mono ?_
        rintro e wa ⟨rfl, hba⟩
        have hb9 := hba
        (try replace T1 := Lib.hid (Own.below T1.out hb9 (Own.lt T1.out)))
        (try replace T2 := Lib.hid (Own.below T2.out hb9 (Own.lt T2.out)))
        replace HA := Lib.hid (Own.below HA.out hb9 (Own.lt HA.out))
        replace HC := Lib.hid (Own.below HC.out hb9 (Own.lt HC.out))
        replace HB := Lib.hid (HB.out.trans (Below.mono hb9 HB.out.size))
        clear hb9
        clear hba
        go_wp2_with fail
        refine (HSC.out _ T1.out).mono ?_
        rintro e wc ⟨rfl, hbc⟩
        have hb9 := hbc
        (try replace T1 := Lib.hid (Own.below T1.out hb9 (Own.lt T1.out)))
        (try replace T2 := Lib.hid (Own.below T2.out hb9 (Own.lt T2.out)))
        replace HA := Lib.hid (Own.below HA.out hb9 (Own.lt HA.out))
        replace HC := Lib.hid (Own.below HC.out hb9 (Own.lt HC.out))
        replace HB := Lib.hid (HB.out.trans (Below.mono hb9 HB.out.size))
        clear hb9
        clear hbc
        cases sc
        · clear HJ2
          go_wp2_with fail
          go_ret
          exact ⟨rfl, HB.out⟩
        · obtain rfl : sa = true := by simpa using HJ2.out
          go_wp2_with fail
          refine (HSA.out _ HA.out).mono ?_
          rintro e wd ⟨rfl, hbd⟩
          have hb9 := hbd
          (try replace T1 := Lib.hid (Own.below T1.out hb9 (Own.lt T1.out)))
          (try replace T2 := Lib.hid (Own.below T2.out hb9 (Own.lt T2.out)))
          replace HA := Lib.hid (Own.below HA.out hb9 (Own.lt HA.out))
          replace HC := Lib.hid (Own.below HC.out hb9 (Own.lt HC.out))
          replace HB := Lib.hid (HB.out.trans (Below.mono hb9 HB.out.size))
          clear hb9
          clear hbd
          go_wp2_with fail
          go_ret
          exact ⟨rfl, HB.out⟩
      · obtain rfl : sc = true := by simpa using HJ1.out
        obtain rfl : sa = true := by simpa using HJ2.out
        go_wp2_with fail
        refine (HTZ.out _ T1.out).mono ?_
        rintro e w8 ⟨rfl, hb8⟩
        have hb9 := hb8
        (try replace T1 := Lib.hid (Own.below T1.out hb9 (Own.lt T1.out)))
        (try replace T2 := Lib.hid (Own.below T2.out hb9 (Own.lt T2.out)))
        replace HA := Lib.hid (Own.below HA.out hb9 (Own.lt HA.out))
        replace HC := Lib.hid (Own.below HC.out hb9 (Own.lt HC.out))
        replace HB := Lib.hid (HB.out.trans (Below.mono hb9 HB.out.size))
        clear hb9
        clear hb8
        go_wp2_with fail
        refine (HTX.out _ HA.out).mono ?_
        rintro e w9 ⟨rfl, hb9b⟩
        have hb9 := hb9b
        (try replace T1 := Lib.hid (Own.below T1.out hb9 (Own.lt T1.out)))
        (try replace T2 := Lib.hid (Own.below T2.out hb9 (Own.lt T2.out)))
        replace HA := Lib.hid (Own.below HA.out hb9 (Own.lt HA.out))
        replace HC := Lib.hid (Own.below HC.out hb9 (Own.lt HC.out))
        replace HB := Lib.hid (HB.out.trans (Below.mono hb9 HB.out.size))
        clear hb9
        clear hb9b
        go_wp2_with fail
        refine (HTY.out _ HC.out).mono ?_
        rintro e wa ⟨rfl, hba⟩
        have hb9 := hba
        (try replace T1 := Lib.hid (Own.below T1.out hb9 (Own.lt T1.out)))
        (try replace T2 := Lib.hid (Own.below T2.out hb9 (Own.lt T2.out)))
        replace HA := Lib.hid (Own.below HA.out hb9 (Own.lt HA.out))
        replace HC := Lib.hid (Own.below HC.out hb9 (Own.lt HC.out))
        replace HB := Lib.hid (HB.out.trans (Below.mono hb9 HB.out.size))
        clear hb9
        clear hba
        go_wp2_with fail
        refine (HSC.out _ T1.out).mono ?_
        rintro e wb ⟨rfl, hbb⟩
        have hb9 := hbb
        (try replace T1 := Lib.hid (Own.below T1.out hb9 (Own.lt T1.out)))
        (try replace T2 := Lib.hid (Own.below T2.out hb9 (Own.lt T2.out)))
        replace HA := Lib.hid (Own.below HA.out hb9 (Own.lt HA.out))
        replace HC := Lib.hid (Own.below HC.out hb9 (Own.lt HC.out))
        replace HB := Lib.hid (HB.out.trans (Below.mono hb9 HB.out.size))
        clear hb9
        clear hbb
        go_wp2_with fail
        refine (HSC.out _ T1.out).mono ?_
        rintro e wc ⟨rfl, hbc⟩
        have hb9 := hbc
        (try replace T1 := Lib.hid (Own.below T1.out hb9 (Own.lt T1.out)))
        (try replace T2 := Lib.hid (Own.below T2.out hb9 (Own.lt T2.out)))
        replace HA := Lib.hid (Own.below HA.out hb9 (Own.lt HA.out))
        replace HC := Lib.hid (Own.below HC.out hb9 (Own.lt HC.out))
        replace HB := Lib.hid (HB.out.trans (Below.mono hb9 HB.out.size))
        clear hb9
        clear hbc
        go_wp2_with fail
        refine (HSA.out _ HA.out).mono ?_
        rintro e wd ⟨rfl, hbd⟩
        have hb9 := hbd
        (try replace T1 := Lib.hid (Own.below T1.out hb9 (Own.lt T1.out)))
        (try replace T2 := Lib.hid (Own.below T2.out hb9 (Own.lt T2.out)))
        replace HA := Lib.hid (Own.below HA.out hb9 (Own.lt HA.out))
        replace HC := Lib.hid (Own.below HC.out hb9 (Own.lt HC.out))
        replace HB := Lib.hid (HB.out.trans (Below.mono hb9 HB.out.size))
        clear hb9
        clear hbd
        go_wp2_with fail
        go_ret
        exact ⟨rfl, HB.out⟩
end Go.Proofs.Ytokddeoliieofaa
