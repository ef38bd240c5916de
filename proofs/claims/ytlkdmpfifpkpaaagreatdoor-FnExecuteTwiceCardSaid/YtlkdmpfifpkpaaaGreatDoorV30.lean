/-
  Parts of the proof: Zi Zj Zk Yl. No condition.
-/
import Derived.Test.YtlkdmpfifpkpaaaGreatDoorV29
namespace Go.Proofs.YtlkdmpfifpkpaaaGreatDoor
open Go.RowKit
set_option linter.unusedSimpArgs false in
set_option maxRecDepth 100000 in
set_option maxHeartbeats 2000000 in
theorem dec_small (n : Int) (w : World) (h0 : 0 ≤ n) (hn : n < 10) : Calls Tryz.prog 32 #[.int .i64 n] w fun e w' => e = .returned (.string (itT n)) ∧ Below w.heap.size w w' := by
 have hw : IntKind.i64.wrap (48 + n) = 48 + n := IntWalk.i64_in _ (by omega)
 have hw2 : IntKind.u8.wrap (48 + n) = 48 + n := IntWalk.u8_in _ (by omega)
 have hcv := conv1 (d := 48 + n) (k := 48 + n.toNat) (by omega) (by omega) (itT_small h0 hn)
 go_enter Tryz.func32, Tryz.ntmps32
 go_wp2_with fail
 go_ret
 exact ⟨rfl, below_all _ _⟩
set_option linter.unusedSimpArgs false in
set_option maxRecDepth 100000 in
set_option maxHeartbeats 2000000 in
theorem dec_any : ∀ (k : Nat) (n : Int) (w : World), n.toNat ≤ k → 0 ≤ n → n ≤ 1000000 → Calls Tryz.prog 32 #[.int .i64 n] w fun e w' => e = .returned (.string (itT n)) ∧ Below w.heap.size w w' := by
 intro k
 induction k with
 | zero =>
  intro n w hk h0 h1
  exact dec_small n w h0 (by omega)
 | succ k ih =>
  intro n w hk h0 h1
  by_cases hn : n < 10
  ·exact dec_small n w h0 hn
  ·have hn2 : ¬ n < 10 := hn
   have hq : n.tdiv 10 = n / 10 := by rw [Int.tdiv_eq_ediv_of_nonneg h0]
   have hm : n.tmod 10 = n % 10 := by rw [Int.tmod_eq_emod_of_nonneg h0]
   have hw0 : IntKind.i64.wrap (n / 10) = n / 10 := IntWalk.i64_in _ (by omega)
   have hw : IntKind.i64.wrap (48 + n % 10) = 48 + n % 10 := IntWalk.i64_in _ (by omega)
   have hw2 : IntKind.u8.wrap (48 + n % 10) = 48 + n % 10 := IntWalk.u8_in _ (by omega)
   have HBd : Hid (Below w.heap.size w w.drew) := (Below.refl _ _).drew
   have hsz : ¬ 9223372036854775807 < (itT (n / 10)).size + (dg1 n).size := by
    have := itT_size (n / 10) (by omega) (by omega)
    have h1 : (dg1 n).size = 1 := rfl
    omega
   have HIH : Hid (∀ W, Calls Tryz.prog 32 #[.int .i64 (n / 10)] W fun e w' => e = .returned (.string (itT (n / 10))) ∧ Below W.heap.size W w') := fun W => ih (n / 10) W (by omega) (by omega) (by omega)
   go_enter Tryz.func32, Tryz.ntmps32
   go_wp2_with fail
   refine wp_region_held_drew (S := fun W => w.heap.size ≤ W.heap.size) (by kernel_rfl) HBd.out.size (fun hHeld => ?_)
   refine tkR 0 ?_
   refine tkR 1 ?_
   refine tkR 3 ?_
   refine tkR 4 ?_
   refine tkR 5 ?_
   refine tkR 6 ?_
   refine wpAnyH_ready (rs := [2, 7]) (by kernel_rfl) (by simp) ?_
   refine c1R (fun K hK => ?_) ?_
   ·go_simp
    go_at_call 32
    go_must (refine Calls.mono (HIH.out _) ?_)
    rintro e w1 ⟨rfl, hb1⟩
    have HB1 : Hid (Below w.heap.size w w1) := HBd.out.trans (hb1.mono HBd.out.size)
    refine oR hK ?_ (fun hHeld => ?_)
    ·try dsimp only
     exact HB1.out.size
    clear hK K
    refine r1R 7 (fun K hK => ?_)
    go_simp
    skip
    refine oR hK ?_ (fun hHeld => ?_)
    ·try dsimp only
     exact (HB1.out.alloc HB1.out.size _).size
    clear hK K
    have hcv1 := conv1 (d := 48 + n % 10) (k := 48 + n.toNat % 10) (tx := dg1 n) (by omega) (by omega) rfl w1
    refine r1R 8 (fun K hK => ?_)
    go_simp
    skip
    refine oR hK ?_ (fun hHeld => ?_)
    ·try dsimp only
     exact (HB1.out.alloc HB1.out.size _).size
    clear hK K
    clear hcv1
    refine tkR 9 ?_
    refine tkR 10 ?_
    refine wpAnyH_done (by kernel_rfl) ?_ _
    clear hHeld
    go_wp2_with fail
    go_ret
    exact ⟨by rw [itT_big (n := n) (by omega)]; rfl, HB1.out.alloc HB1.out.size _⟩
   ·refine c1R (fun K hK => ?_) ?_
    ·have HBA : Hid (Below w.heap.size w (w.drew.alloc (.cells #[.int .u8 (48 + n % 10)] 5))) := HBd.out.alloc HBd.out.size _
     have HXA : Hid (Bx (w.drew.alloc (.cells #[.int .u8 (48 + n % 10)] 5)) w.heap.size 5 #[.int .u8 (48 + n % 10)]) := Bx.newAt rfl
     go_simp
     skip
     refine oR hK ?_ (fun hHeld => ?_)
     ·try dsimp only
      exact HBA.out.size
     clear hK K
     refine wpAnyH_ready (rs := [2, 8]) (by kernel_rfl) (by simp) ?_
     refine c1R (fun K hK => ?_) ?_
     ·go_simp
      go_at_call 32
      go_must (refine Calls.mono (HIH.out _) ?_)
      rintro e w1 ⟨rfl, hb1⟩
      have HB1 : Hid (Below w.heap.size w w1) := HBA.out.trans (hb1.mono HBA.out.size)
      have hcv1 := conv2 (d := 48 + n % 10) (k := 48 + n.toNat % 10) (tx := dg1 n) (b := w.heap.size) (by omega) (by omega) rfl w1 ((HXA.out.below hb1 HXA.out.lt).cell 0)
      refine oR hK ?_ (fun hHeld => ?_)
      ·try dsimp only
       exact HB1.out.size
      clear hK K
      refine r1R 8 (fun K hK => ?_)
      go_simp
      skip
      refine oR hK ?_ (fun hHeld => ?_)
      ·try dsimp only
       exact HB1.out.size
      clear hK K
      clear hcv1
      refine tkR 9 ?_
      refine tkR 10 ?_
      refine wpAnyH_done (by kernel_rfl) ?_ _
      clear hHeld
      go_wp2_with fail
      go_ret
      exact ⟨by rw [itT_big (n := n) (by omega)]; rfl, HB1.out⟩
     ·refine c1R (fun K hK => ?_) ?_
      ·have hcv1 : (convert 22 9 (.slice (some ⟨w.heap.size, 0, none⟩) 1 1)).run Tryz.prog (w.alloc (.cells #[.int .u8 (48 + n % 10)] 5)).drew = .ok (.string (dg1 n)) (w.alloc (.cells #[.int .u8 (48 + n % 10)] 5)).drew := conv2 (d := 48 + n % 10) (k := 48 + n.toNat % 10) (tx := dg1 n) (b := w.heap.size) (by omega) (by omega) rfl _ (HXA.out.cell 0)
       go_simp
       skip
       refine oR hK ?_ (fun hHeld => ?_)
       ·try dsimp only
        exact HBA.out.size
       clear hK K
       clear hcv1
       refine r1R 2 (fun K hK => ?_)
       go_simp
       go_at_call 32
       go_must (refine Calls.mono (HIH.out _) ?_)
       rintro e w1 ⟨rfl, hb1⟩
       have HB1 : Hid (Below w.heap.size w w1) := HBA.out.trans (hb1.mono HBA.out.size)
       refine oR hK ?_ (fun hHeld => ?_)
       ·try dsimp only
        exact HB1.out.size
       clear hK K
       refine tkR 9 ?_
       refine tkR 10 ?_
       refine wpAnyH_done (by kernel_rfl) ?_ _
       clear hHeld
       go_wp2_with fail
       go_ret
       exact ⟨by rw [itT_big (n := n) (by omega)]; rfl, HB1.out⟩
      ·exact AllReadyH.nil
    ·exact AllReadyH.nil
theorem dec_val (n : Int) (w : World) (h0 : 0 ≤ n) (h1 : n ≤ 1000000) : Calls Tryz.prog 32 #[.int .i64 n] w fun e w' => e = .returned (.string (itT n)) ∧ Below w.heap.size w w' := dec_any n.toNat n w (Nat.le_refl _) h0 h1
set_option linter.unusedSimpArgs false in
set_option maxRecDepth 100000 in
set_option maxHeartbeats 4000000 in
theorem l9Words_any (g c n : Nat) (tx : Nat → ByteArray) (w : World) (hn : n ≤ 1000) (hB : ∀ i, i < n → (tx i).size ≤ 1000) (h : OwT w g c n tx) :
    Calls Tryz.prog 86 #[.slice (some ⟨g, 0, none⟩) n c] w fun e w' => e = .returned (.string (jnT tx n)) ∧ w = w' := by
  have HB := Lib.hid hB
  have HC : Hid (∀ i, i < n → w.cell? ⟨g, i, none⟩ = some (.string (tx i))) := fun i hi => Own.cell1 h hi
  clear hB h
  go_enter Tryz.func86, Tryz.ntmps86
  go_wp2_with fail
  go_loopw [3, 4] (fun o i wr => ∃ j : Nat, j ≤ n ∧ i = .int .i64 j ∧ o = .string (jnT tx j) ∧ w = wr) (fun _ i _ => n - (intOf i).toNat)
  case atStart => exact ⟨0, Nat.zero_le _, rfl, rfl, rfl⟩
  case round =>
   obtain ⟨j, hj, rfl, rfl, rfl⟩ := hrel
   by_cases hlt : j < n
   ·have hji : (j : Int) < (n : Int) := by omega
    have hck := HC.out j hlt
    have hss : (jnT tx j).size ≤ 1001000 := by
     have h1 := jn_size (tx := tx) (n := j) (B := 1000) (fun i hi => HB.out i (by omega))
     have h2 : j * (1000 + 1) ≤ 1000 * 1001 := Nat.mul_le_mul_right _ (by omega)
     omega
    have hts := HB.out j hlt
    have HN1 : Hid (0 < j → jnT tx (j + 1) = jnT tx j ++ ⟨#[32]⟩ ++ tx j) := fun h => jn_next tx h
    have HN0 : Hid (¬ 0 < j → jnT tx (j + 1) = jnT tx j ++ tx j) := fun h => jn_first tx h
    generalize tx j = tt at *
    generalize hsj : jnT tx j = ss at *
    clear hsj
    by_cases h0 : 0 < j
    ·have h0i : (0 : Int) < (j : Int) := by omega
     have HNN := Lib.hid (HN1.out h0)
     go_wp2_with fail
     go_roundw
     case rel => exact ⟨j + 1, by omega, by go_num, by rw [HNN.out], trivial⟩
     case measure => simp [intOf]; omega
    ·have h0i : ¬ (0 : Int) < (j : Int) := by omega
     have HNN := Lib.hid (HN0.out h0)
     go_wp2_with fail
     go_roundw
     case rel => exact ⟨j + 1, by omega, by go_num, by rw [HNN.out], trivial⟩
     case measure => simp [intOf]; omega
   ·obtain rfl : j = n := by omega
    go_wp2_with fail
    go_ret
    exact ⟨rfl, rfl⟩
set_option linter.unusedSimpArgs false in
set_option maxRecDepth 100000 in
set_option maxHeartbeats 4000000 in
theorem l9List_any (b n c : Nat) (f : Nat → Int) (w : World) (hn : n ≤ 1000) (hf : ∀ k, k < n → 0 ≤ f k ∧ f k ≤ 1000000) (h : IC w b 0 n f) :
    Calls Tryz.prog 63 #[.slice (some ⟨b, 0, none⟩) n c] w fun e w' => e = .returned (.string (spT f n ++ ⟨#[10]⟩)) ∧ Below w.heap.size w w' := by
  have HF := Lib.hid hf
  have HC := Lib.hid h
  have HI0 : Hid (TdI w (w.alloc (.cells #[] 9)) w.heap.size 0 0 (fun i => itT (f i))) := ⟨own_empty _ _ _ _, Nat.le_refl _, below_all _ _⟩
  clear hf h
  go_enter Tryz.func63, Tryz.ntmps63
  go_wp2_with fail
  go_loopw [3, 4] (fun o i wr => ∃ j g cap : Nat, j ≤ n ∧ i = .int .i64 j ∧ o = .slice (some ⟨g, 0, none⟩) j cap ∧ Hid (TdI w wr g cap j (fun i => itT (f i)))) (fun _ i _ => n - (intOf i).toNat)
  case atStart => exact ⟨0, w.heap.size, 0, Nat.zero_le _, rfl, rfl, HI0⟩
  case round =>
   obtain ⟨j, g, cap, hj, rfl, rfl, HI⟩ := hrel
   by_cases hlt : j < n
   ·have hji : (j : Int) < (n : Int) := by omega
    have hck := (HC.out.keep HI.out.bl).at j hlt
    rw [Nat.zero_add] at hck
    have HFJ := Lib.hid (HF.out j hlt)
    generalize hfj : f j = fj at *
    go_wp2_with fail
    refine (dec_val fj _ HFJ.out.1 HFJ.out.2).mono ?_
    rintro e w2 ⟨rfl, hb2⟩
    have HI2 := Lib.hid (HI.out.keep hb2)
    clear hb2 hck
    go_wp2_with (at_builtin; refine wpList_pushV elStr rfl (.tmp 12) (.tmp 18) (by rfl) (f := fun i => .string (itT (f i))) HI2.out.ow (by rfl) (by rfl) (by rw [hfj]) rfl (by omega) (by omega) ?_; intro g' c' wa HA hgr hd; have HI3 := Lib.hid (HI2.out.push HA hgr (hd.imp And.left Nat.le_of_lt)); clear HA hgr hd)
    go_roundw
    case rel => exact ⟨j + 1, g', c', by omega, by go_num, by simp, HI3⟩
    case measure => simp [intOf]; omega
   ·obtain rfl : j = n := by omega
    have hB : ∀ i, i < j → (itT (f i)).size ≤ 21 := fun i hi => by have := HF.out i hi; exact itT_size (f i) (by omega) (by omega)
    have hsz := jn_size hB
    have HJ := Lib.hid (l9Words_any g cap j (fun i => itT (f i)) wr (by omega) (fun i hi => by have := hB i hi; omega) HI.out.ow)
    have HS : Hid (jnT (fun i => itT (f i)) j = spT f j) := rfl
    generalize jnT (fun i => itT (f i)) j = ss at *
    clear hB
    go_wp2_with fail
    refine HJ.out.mono ?_
    rintro e w3 ⟨rfl, rfl⟩
    go_wp2_with fail
    go_ret
    exact ⟨by rw [← HS.out]; rfl, HI.out.bl⟩
set_option linter.unusedSimpArgs false in
set_option maxRecDepth 100000 in
set_option maxHeartbeats 2000000 in
theorem l9Number_any (t : ByteArray) (w : World) :
    Calls Tryz.prog 78 #[.string t] w fun e w' => e = .returned (.int .i64 (nmF t)) ∧ w = w' := by
  have HSZ : Hid (t.data.toList.length = t.size) := by show _ = _; simp
  by_cases h0 : 1 ≤ t.size ∧ t.size ≤ 4
  ·have hib : inB (t.size : Int) 1 4 = true := by unfold inB; simp; omega
   go_enter Tryz.func78, Tryz.ntmps78
   go_wp2_with fail
   refine (l6In_any _ _ _ _).mono ?_
   rintro e w1 ⟨rfl, rfl⟩
   rw [hib]
   go_wp2_with fail
   go_loopw [3, 4] (fun n i wr => ∃ k : Nat, k ≤ t.size ∧ i = .int .i64 k ∧ n = .int .i64 (dgV (t.data.toList.take k)) ∧ w = wr ∧ Hid ((t.data.toList.take k).all dgB = true)) (fun _ i _ => t.size - (intOf i).toNat)
   case atStart => exact ⟨0, Nat.zero_le _, rfl, rfl, rfl, rfl⟩
   case round =>
    obtain ⟨k, hk, rfl, rfl, rfl, HA⟩ := hrel
    by_cases hlt : k < t.size
    ·have hbt := bt_at hlt
     have hbl : bt t k = ((t.data.toList[k]'(by simpa using hlt)).toNat : Int) := by
      unfold bt
      rw [dif_pos hlt]
      rfl
     have HNX : Hid ((t.data.toList.take (k + 1)).all dgB = dgB (t.data.toList[k]'(by simpa using hlt))) := by show _ = _; rw [all_take (by simpa using hlt), HA.out, Bool.true_and]
     have HVX : Hid (dgV (t.data.toList.take (k + 1)) = 10 * dgV (t.data.toList.take k) + (bt t k - 48)) := by
      show _ = _
      rw [List.take_succ_eq_append_getElem (by simpa using hlt), dgV_snoc, hbl]
     have HST : Hid (dgB (t.data.toList[k]'(by simpa using hlt)) = false → nmF t = 9999) := fun h => if_neg (fun q => by rw [all_stop (by simpa using hlt) h] at q; cases q.2.2)
     have HDB : Hid (dgB (t.data.toList[k]'(by simpa using hlt)) = true ↔ 48 ≤ bt t k ∧ bt t k ≤ 57) := by
      show _ ↔ _
      rw [dgB_true, hbl]
      omega
     have hbd := dgV_bd 4 (t.data.toList.take k) (by simp; omega) HA.out
     have hki : (k : Int) < (t.size : Int) := by omega
     have hb0 : 0 ≤ bt t k ∧ bt t k < 256 := by
      have := (t.data.toList[k]'(by simpa using hlt)).toNat_lt
      omega
     clear hbl
     generalize dgB (t.data.toList[k]'(by simpa using hlt)) = d at *
     generalize bt t k = c at *
     generalize dgV (t.data.toList.take k) = n at *
     by_cases hc1 : c < 48
     ·have HV : Hid (nmF t = 9999) := HST.out (by
       cases d
       ·rfl
       ·have := HDB.out.1 rfl; omega)
      go_wp2_with fail
      go_ret
      exact ⟨by rw [HV.out]; rfl, rfl⟩
     by_cases hc2 : 57 < c
     ·have HV : Hid (nmF t = 9999) := HST.out (by
       cases d
       ·rfl
       ·have := HDB.out.1 rfl; omega)
      go_wp2_with fail
      go_ret
      exact ⟨by rw [HV.out]; rfl, rfl⟩
     have HA2 : Hid ((t.data.toList.take (k + 1)).all dgB = true) := by show _ = _; rw [HNX.out]; exact HDB.out.2 (by omega)
     have hw1 : IntKind.u8.wrap (c - 48) = c - 48 := IntWalk.u8_in _ (by omega)
     have hw2 : IntKind.i64.wrap (10 * n) = 10 * n := IntWalk.i64_in _ (by omega)
     have hw3 : IntKind.i64.wrap (c - 48) = c - 48 := IntWalk.i64_in _ (by omega)
     have hw4 : IntKind.i64.wrap (10 * n + (c - 48)) = 10 * n + (c - 48) := IntWalk.i64_in _ (by omega)
     go_wp2_with fail
     go_roundw
     case rel => exact ⟨k + 1, by omega, by go_num, by rw [HVX.out], trivial, HA2.out⟩
     case measure => simp [intOf]; omega
    ·obtain rfl : k = t.size := by omega
     have HV : Hid (nmF t = dgV (t.data.toList.take t.size)) := by
      show _ = _
      have e : t.data.toList.take t.size = t.data.toList := List.take_of_length_le (by simp)
      have ha := HA.out
      rw [e] at ha ⊢
      exact if_pos ⟨by have := HSZ.out; omega, by have := HSZ.out; omega, ha⟩
     go_wp2_with fail
     go_ret
     exact ⟨by rw [HV.out]; rfl, rfl⟩
  ·have hib : inB (t.size : Int) 1 4 = false := by unfold inB; simp; omega
   have HV : Hid (nmF t = 9999) := if_neg (fun h => by have := HSZ.out; omega)
   go_enter Tryz.func78, Tryz.ntmps78
   go_wp2_with fail
   refine (l6In_any _ _ _ _).mono ?_
   rintro e w1 ⟨rfl, rfl⟩
   rw [hib]
   go_wp2_with fail
   go_ret
   exact ⟨by rw [HV.out]; rfl, rfl⟩
set_option linter.unusedSimpArgs false in
set_option maxRecDepth 100000 in
set_option maxHeartbeats 2000000 in
theorem l9Numbers_any (b c n : Nat) (tx : Nat → ByteArray) (w : World) (hn : n < 1000000) (h : ∀ i, i < n + 1 → w.cell? ⟨b, i, none⟩ = some (.string (tx i))) :
    Calls Tryz.prog 59 #[.slice (some ⟨b, 0, none⟩) (n + 1) c] w fun e w' => (∃ g cap, e = .returned (.slice (some ⟨g, 0, none⟩) n cap) ∧ IC w' g 0 n (fun i => nmF (tx (i + 1))) ∧ w.heap.size ≤ g ∧ g < w'.heap.size ∧ n ≤ cap) ∧ Below w.heap.size w w' := by
  have HC : Hid (∀ W, Below w.heap.size w W → ∀ i, i < n + 1 → W.cell? ⟨b, i, none⟩ = some (.string (tx i))) := fun W hb i hi => by
   have h1 := h i hi
   have hlt : b < w.heap.size := World.block_lt_of_cell? w ⟨b, i, none⟩ h1
   rw [hb.cell (p := ⟨b, i, none⟩) hlt]
   exact h1
  have HI0 : Hid (RnI w (w.alloc (.cells #[] 3)) w.heap.size 0 0 (fun i => nmF (tx (i + 1)))) := ⟨own_empty _ _ _ _, Nat.le_refl _, below_all _ _⟩
  clear h
  go_enter Tryz.func59, Tryz.ntmps59
  go_wp2_with fail
  go_loopw [3, 4] (fun o i wr => ∃ j g cap : Nat, j ≤ n ∧ i = .int .i64 ((j + 1 : Nat) : Int) ∧ o = .slice (some ⟨g, 0, none⟩) j cap ∧ Hid (RnI w wr g cap j (fun i => nmF (tx (i + 1))))) (fun _ i _ => n + 1 - (intOf i).toNat)
  case atStart => exact ⟨0, w.heap.size, 0, Nat.zero_le _, rfl, rfl, HI0⟩
  case round =>
   obtain ⟨j, g, cap, hj, rfl, rfl, HI⟩ := hrel
   by_cases hlt : j < n
   ·have hji : ((j : Int) + 1) < (n : Int) + 1 := by omega
    have hck := HC.out _ HI.out.bl (j + 1) (by omega)
    go_wp2_with fail
    refine (l9Number_any (tx (j + 1)) _).mono ?_
    rintro e w2 ⟨rfl, rfl⟩
    go_wp2_with (at_builtin; refine wpList_pushI elInt rfl (.tmp 12) (.tmp 18) (by rfl) (f := fun i => nmF (tx (i + 1))) HI.out.ow (by rfl) (by rfl) rfl (by omega) ?_; intro g' c' wa HA hgr hd; have HI3 := Lib.hid (HI.out.push HA hgr hd); clear HA hgr hd)
    go_roundw
    case rel => exact ⟨j + 1, g', c', by omega, by go_num, by simp, HI3⟩
    case measure => simp [intOf]; omega
   ·obtain rfl : j = n := by omega
    go_wp2_with fail
    go_ret
    exact ⟨⟨g, cap, rfl, IC.of_own HI.out.ow, HI.out.gz, HI.out.ow.lt, HI.out.ow.1⟩, HI.out.bl⟩
theorem spB_snoc (c b : UInt8) : ∀ l, ∃ xs y, spB c l = xs ++ [y] ∧ spB c (l ++ [b]) = if b = c then xs ++ [y, []] else xs ++ [y ++ [b]]
  | [] => ⟨[], [], rfl, by by_cases h : b = c <;> simp [spB, h]⟩
  | a :: l => by
   obtain ⟨xs, y, h1, h2⟩ := spB_snoc c b l
   by_cases hac : a = c
   ·refine ⟨[] :: xs, y, by simp [spB, hac, h1], ?_⟩
    have e : spB c ((a :: l) ++ [b]) = [] :: spB c (l ++ [b]) := by simp [spB, hac]
    rw [e, h2]
    by_cases h : b = c <;> simp [h]
   ·cases xs with
    | nil =>
     refine ⟨[], a :: y, by simp [spB, hac, h1], ?_⟩
     by_cases h : b = c
     ·subst h; simp [spB, hac, h2]
     ·simp [spB, hac, h2, h]
    | cons x r =>
     refine ⟨(a :: x) :: r, y, by simp [spB, hac, h1], ?_⟩
     by_cases h : b = c
     ·subst h; simp [spB, hac, h2]
     ·simp [spB, hac, h2, h]
theorem spB_snoc_at {c b : UInt8} {l : List UInt8} {xs : List (List UInt8)} {y : List UInt8} (h : spB c l = xs ++ [y]) : spB c (l ++ [b]) = if b = c then xs ++ [y, []] else xs ++ [y ++ [b]] := by
 obtain ⟨xs', y', h1, h2⟩ := spB_snoc c b l
 obtain ⟨e1, e2⟩ := List.append_inj' (h.symm.trans h1) rfl
 cases e2
 rw [e1]
 exact h2
def tF (l : List ByteArray) (i : Nat) : ByteArray := (l[i]?).getD ⟨#[]⟩
theorem tF_old {l : List ByteArray} {z : ByteArray} {i : Nat} (h : i < l.length) : tF (l ++ [z]) i = tF l i := by
 unfold tF
 rw [List.getElem?_append_left h]
theorem tF_new {l : List ByteArray} {z : ByteArray} : tF (l ++ [z]) l.length = z := by
 unfold tF
 simp
structure CuI (w wr : World) (g cap : Nat) (xs : List ByteArray) : Prop where
  ow : Own wr g cap xs.length 1 9 (fun i => .string (tF xs i))
  gz : w.heap.size ≤ g
  bl : Below w.heap.size w wr
theorem CuI.ext {w wr : World} {g cap : Nat} {xs : List ByteArray} (h : CuI w wr g cap xs) (z : ByteArray) : Own wr g cap xs.length 1 9 (fun i => .string (tF (xs ++ [z]) i)) :=
 h.ow.congr (fun i hi => by rw [tF_old (by omega)])
theorem CuI.push {w wr wa : World} {g cap g' c' : Nat} {xs : List ByteArray} {z : ByteArray} (h : CuI w wr g cap xs) (HA : Own wa g' c' (xs.length + 1) 1 9 (fun i => .string (tF (xs ++ [z]) i))) (hgr : wr.grownBy wa (some g)) (hd : g' = g ∨ wr.heap.size ≤ g') : CuI w wa g' c' (xs ++ [z]) := by
 have hgz := h.gz
 have hbs := h.bl.size
 refine ⟨?_, ?_, h.bl.trans (below_of_grown hgr hgz hbs)⟩
 ·rw [List.length_append]
  exact HA
 ·rcases hd with q | q <;> omega
structure CuP (c : UInt8) (t : ByteArray) (xs : List ByteArray) (f j : Nat) : Prop where
  fj : f ≤ j
  sp : spB c (t.data.toList.take j) = xs.map (·.data.toList) ++ [(t.extract f j).data.toList]
theorem CuP.len {c : UInt8} {t : ByteArray} {xs : List ByteArray} {f j : Nat} (h : CuP c t xs f j) : xs.length ≤ j := by
 have h1 : ∀ l : List UInt8, (spB c l).length ≤ l.length + 1 := by
  intro l
  induction l with
  | nil => simp [spB]
  | cons a l ih =>
   unfold spB
   split
   ·simp only [List.length_cons]; omega
   ·split
    ·simp
    ·rename_i e
     rw [e] at ih
     simp only [List.length_cons] at ih ⊢
     omega
 have h2 := h1 (t.data.toList.take j)
 rw [h.sp, List.length_append, List.length_map, List.length_take] at h2
 simp only [List.length_cons, List.length_nil] at h2
 omega
theorem CuP.next {c : UInt8} {t : ByteArray} {xs : List ByteArray} {f j : Nat} (h : CuP c t xs f j) (hj : j < t.size) : if t[j] = c then CuP c t (xs ++ [t.extract f j]) (j + 1) (j + 1) else CuP c t xs f (j + 1) := by
 have hl : j < t.data.toList.length := by simpa using hj
 have hs := spB_snoc_at (b := t[j]) h.sp
 have hfj := h.fj
 have e : t.data.toList.take j ++ [t[j]] = t.data.toList.take (j + 1) := (List.take_succ_eq_append_getElem hl).symm
 rw [e] at hs
 split
 ·rename_i hc
  rw [if_pos hc] at hs
  refine ⟨Nat.le_refl _, ?_⟩
  rw [hs, List.map_append]
  have : (t.extract (j + 1) (j + 1)).data.toList = [] := by rw [ext_list]; simp
  rw [this]
  simp
 ·rename_i hc
  rw [if_neg hc] at hs
  refine ⟨by omega, ?_⟩
  rw [hs]
  have : (t.extract f (j + 1)).data.toList = (t.extract f j).data.toList ++ [t[j]] := by
   rw [ext_list, ext_list, ← e, List.drop_append_of_le_length (by rw [List.length_take]; omega)]
  rw [this]
set_option linter.unusedSimpArgs false in
set_option maxRecDepth 100000 in
set_option maxHeartbeats 4000000 in
theorem l9Cut_any (c : UInt8) (t : ByteArray) (L : List ByteArray) (w : World) (hn : t.size ≤ 1000000) (hL : L.map (·.data.toList) = spB c t.data.toList) :
    Calls Tryz.prog 40 #[.string t, .int .u8 (c.toNat : Int)] w fun e w' => (∃ g cap, e = .returned (.slice (some ⟨g, 0, none⟩) L.length cap) ∧ Own w' g cap L.length 1 9 (fun i => .string (tF L i)) ∧ w.heap.size ≤ g) ∧ Below w.heap.size w w' := by
  have HL := Lib.hid hL
  have HI0 : Hid (CuI w (w.alloc (.cells #[] 9)) w.heap.size 0 []) := ⟨own_empty _ _ _ _, Nat.le_refl _, below_all _ _⟩
  have HP0 : Hid (CuP c t [] 0 0) := ⟨Nat.le_refl _, by rw [ext_list]; simp [spB]⟩
  clear hL
  go_enter Tryz.func40, Tryz.ntmps40
  go_wp2_with fail
  go_loopw [5, 6, 7] (fun o from_ i wr => ∃ (j f g cap : Nat) (xs : List ByteArray), j ≤ t.size ∧ i = .int .i64 j ∧ from_ = .int .i64 f ∧ o = .slice (some ⟨g, 0, none⟩) xs.length cap ∧ Hid (CuI w wr g cap xs) ∧ Hid (CuP c t xs f j)) (fun _ _ i _ => t.size - (intOf i).toNat)
  case atStart => exact ⟨0, 0, w.heap.size, 0, [], Nat.zero_le _, rfl, rfl, rfl, HI0, HP0⟩
  case round =>
   obtain ⟨j, f, g, cap, xs, hj, rfl, rfl, rfl, HI, HP⟩ := hrel
   have hfj := HP.out.fj
   have hxl := HP.out.len
   by_cases hlt : j < t.size
   ·have hji : (j : Int) < (t.size : Int) := by omega
    have hnx := HP.out.next hlt
    by_cases he : t[j] = c
    ·have hb : ((t[j].toNat : Int) == (c.toNat : Int)) = true := by rw [he]; exact beq_iff_eq.2 rfl
     rw [if_pos he] at hnx
     have HN := Lib.hid hnx
     clear hnx he
     go_wp2_with (at_builtin; refine wpList_pushV elStr rfl (.tmp 20) (.tmp 25) (by rfl) (f := fun i => .string (tF (xs ++ [t.extract f j]) i)) (HI.out.ext _) (by rfl) (by rfl) (by rw [tF_new]) rfl (by omega) (by omega) ?_; intro g' c' wa HA hgr hd; have HI3 := Lib.hid (HI.out.push HA hgr (hd.imp And.left Nat.le_of_lt)); clear HA hgr hd)
     go_roundw
     case rel => exact ⟨j + 1, j + 1, g', c', xs ++ [t.extract f j], by omega, by go_num, by go_num, by simp, HI3, HN⟩
     case measure => simp [intOf]; omega
    ·have hb : ((t[j].toNat : Int) == (c.toNat : Int)) = false := beq_eq_false_iff_ne.2 (fun e => he (UInt8.toNat_inj.1 (by omega)))
     rw [if_neg he] at hnx
     have HN := Lib.hid hnx
     clear hnx he
     go_wp2_with fail
     go_roundw
     case rel => exact ⟨j + 1, f, g, cap, xs, by omega, by go_num, rfl, rfl, HI, HN⟩
     case measure => simp [intOf]; omega
   ·obtain rfl : j = t.size := by omega
    have HLX : Hid (xs ++ [t.extract f t.size] = L) := by
     refine map_ba_inj ?_
     rw [HL.out, List.map_append]
     have := HP.out.sp
     rw [List.take_of_length_le (by simp)] at this
     exact this.symm
    go_wp2_with (at_builtin; refine wpList_pushV elStr rfl (.tmp 29) (.tmp 33) (by rfl) (f := fun i => .string (tF (xs ++ [t.extract f t.size]) i)) (HI.out.ext _) (by rfl) (by rfl) (by rw [tF_new]) rfl (by omega) (by omega) ?_; intro g' c' wa HA hgr hd; have HI3 := Lib.hid (HI.out.push HA hgr (hd.imp And.left Nat.le_of_lt)); clear HA hgr hd)
    go_ret
    have hlen : L.length = xs.length + 1 := by rw [← HLX.out]; simp
    have h3 := HI3.out.ow
    rw [HLX.out] at h3
    exact ⟨⟨g', c', by rw [hlen]; rfl, h3, HI3.out.gz⟩, HI3.out.bl⟩
theorem ansP_line {st : Ses} {ps : List Pt} {t : ByteArray} {y : Ln} (ht : t.size ≤ 1000) (hc : cmdK (wd0 t) (wdL t).length = 0) (hl : (wdL t).length = 3) (hn : nwO (nmF (wdI t 1)) (nmF (wdI t 2)) = some y) : AnsP st ps t { x := y, tm := 0, ms := [], ts := [] } [] okT :=
 AnsP.of_new fun pa pc => by
  have h := ans_line (st := { st with pa := pa, pn := ps.length, pc := pc }) ht hc hl
  have e1 : lwS { st with pa := pa, pn := ps.length, pc := pc } (wdI t 1) (wdI t 2) = { x := y, tm := 0, ms := [], ts := [] } := by unfold lwS; rw [hn]
  have e2 : lwO (wdI t 1) (wdI t 2) = okT := by unfold lwO; rw [hn]
  rw [e1, e2] at h
  exact h
theorem ansP_lineNo {st : Ses} {ps : List Pt} {t : ByteArray} (ht : t.size ≤ 1000) (hc : cmdK (wd0 t) (wdL t).length = 0) (hl : (wdL t).length = 3) (hn : nwO (nmF (wdI t 1)) (nmF (wdI t 2)) = none) : AnsP st ps t st ps noT :=
 AnsP.of_ans fun pa pc => by
  have h := ans_line (st := { st with pa := pa, pn := ps.length, pc := pc }) ht hc hl
  have e1 : lwS { st with pa := pa, pn := ps.length, pc := pc } (wdI t 1) (wdI t 2) = { st with pa := pa, pn := ps.length, pc := pc } := by unfold lwS; rw [hn]
  have e2 : lwO (wdI t 1) (wdI t 2) = noT := by unfold lwO; rw [hn]
  rw [e1, e2] at h
  exact h
end Go.Proofs.YtlkdmpfifpkpaaaGreatDoor

