/-
  Registers: the reference's RegisterValid, l5Text, RegisterSound; the program's registerOf, soundOf.
-/
import Derived.Test.YtokddeoliieofaaKb
import Derived.Test.YtokddeoliieofaaKd
namespace Go.Proofs.Ytokddeoliieofaa
open Go.RowKit

/-- a row of notes -/
def NtC (w : World) (b off : Nat) (ns : List (Int × ByteArray)) : Prop :=
  ∀ k, k < ns.length → w.cell? ⟨b, off + k * 2, none⟩ = some (.int .i64 (nM ns k)) ∧ w.cell? ⟨b, off + k * 2 + 1, none⟩ = some (.string (nL ns k))
theorem NtC.keep {w w' : World} {b off : Nat} {ns : List (Int × ByteArray)} (h : NtC w b off ns) (hb : Below w.heap.size w w') : NtC w' b off ns := fun k hk => by
  obtain ⟨h1, h2⟩ := h k hk
  have hlt : b < w.heap.size := World.block_lt_of_cell? w ⟨b, off + k * 2, none⟩ h1
  exact ⟨by rw [hb.cell (p := ⟨b, off + k * 2, none⟩) hlt]; exact h1, by rw [hb.cell (p := ⟨b, off + k * 2 + 1, none⟩) hlt]; exact h2⟩
theorem tl_ne {l : ByteArray} {c : UInt8} (h : ¬ l = chN c) : (l.toList == [c]) = false ∧ ([c] == l.toList) = false := by
  rw [ByteArray.toList_eq]
  have key : ¬ l.data.toList = [c] := fun e => by
    apply h
    cases l with
    | mk d =>
      have : d = #[c] := by
        apply Array.ext'
        simpa using e
      rw [this]
      rfl
  simp only [beq_eq_false_iff_ne, ne_eq]
  exact ⟨key, fun e => key e.symm⟩
theorem tl_eq (c : UInt8) : ((chN c).toList == [c]) = true ∧ ([c] == (chN c).toList) = true := by
  rw [ByteArray.toList_eq]
  simp [chN]
theorem evB_of {c : UInt8} (h : c ∈ evL) : evB (chN c) = true := by
  show evL.contains c = true
  rw [List.contains_iff_mem]
  exact h
theorem evB_not {l : ByteArray} (h : ∀ c, c ∈ evL → ¬ l = chN c) : evB l = false := by
  cases e : evB l
  · rfl
  · exfalso
    obtain ⟨c, rfl⟩ := chN_of (evB_size e)
    have h2 : evL.contains c = true := e
    rw [List.contains_iff_mem] at h2
    exact h c h2 rfl
theorem specLetter_any (l : ByteArray) (w : World) :
    Calls Try.prog 96 #[.string l] w fun e w' => e = .returned (.bool (evB l)) ∧ w = w' := by
  go_enter Try.func96, Try.ntmps96
  go_wp2_with fail
  go_loop [4] (fun i => ∃ m : Nat, m ≤ 7 ∧ i = .int .i64 m ∧ Hid (∀ c, c ∈ evL.take m → ¬ l = chN c)) (fun i => 7 - (intOf i).toNat)
  case atStart => exact ⟨0, by omega, rfl, fun c hc => by simp at hc⟩
  case round =>
    obtain ⟨m, hm, rfl, HA⟩ := hrel
    obtain rfl | rfl | rfl | rfl | rfl | rfl | rfl | rfl : m = 0 ∨ m = 1 ∨ m = 2 ∨ m = 3 ∨ m = 4 ∨ m = 5 ∨ m = 6 ∨ m = 7 := by omega
    · have hex : ((⟨#[97, 99, 101, 102, 108, 111, 114]⟩ : ByteArray).extract 0 1).toList = [97] := by rw [ByteArray.toList_eq]; rfl
      by_cases h1 : l = chN 97
      · have HV : Hid (evB l = true) := by show _ = _; rw [h1]; exact evB_of (by decide)
        have ht := tl_eq 97
        rw [← h1] at ht
        have ht3 : (((⟨#[97, 99, 101, 102, 108, 111, 114]⟩ : ByteArray).extract 0 1).toList == l.toList) = true := by rw [hex]; exact ht.2
        clear h1 ht hex
        go_wp2_with fail
        go_ret
        exact ⟨by rw [HV.out]; rfl, rfl⟩
      · have ht3 : (((⟨#[97, 99, 101, 102, 108, 111, 114]⟩ : ByteArray).extract 0 1).toList == l.toList) = false := by rw [hex]; exact (tl_ne h1).2
        clear hex
        have HN := Lib.hid h1
        clear h1
        go_wp2_with fail
        go_round
        case rel => exact ⟨0 + 1, by omega, by go_num, fun c hc => by
          rcases List.mem_append.1 (show c ∈ evL.take 0 ++ [97] from hc) with h | h
          · exact HA.out c h
          · rw [List.mem_singleton.1 h]; exact HN.out⟩
        case measure => decide
    · have hex : ((⟨#[97, 99, 101, 102, 108, 111, 114]⟩ : ByteArray).extract 1 2).toList = [99] := by rw [ByteArray.toList_eq]; rfl
      by_cases h1 : l = chN 99
      · have HV : Hid (evB l = true) := by show _ = _; rw [h1]; exact evB_of (by decide)
        have ht := tl_eq 99
        rw [← h1] at ht
        have ht3 : (((⟨#[97, 99, 101, 102, 108, 111, 114]⟩ : ByteArray).extract 1 2).toList == l.toList) = true := by rw [hex]; exact ht.2
        clear h1 ht hex
        go_wp2_with fail
        go_ret
        exact ⟨by rw [HV.out]; rfl, rfl⟩
      · have ht3 : (((⟨#[97, 99, 101, 102, 108, 111, 114]⟩ : ByteArray).extract 1 2).toList == l.toList) = false := by rw [hex]; exact (tl_ne h1).2
        clear hex
        have HN := Lib.hid h1
        clear h1
        go_wp2_with fail
        go_round
        case rel => exact ⟨1 + 1, by omega, by go_num, fun c hc => by
          rcases List.mem_append.1 (show c ∈ evL.take 1 ++ [99] from hc) with h | h
          · exact HA.out c h
          · rw [List.mem_singleton.1 h]; exact HN.out⟩
        case measure => decide
    · have hex : ((⟨#[97, 99, 101, 102, 108, 111, 114]⟩ : ByteArray).extract 2 3).toList = [101] := by rw [ByteArray.toList_eq]; rfl
      by_cases h1 : l = chN 101
      · have HV : Hid (evB l = true) := by show _ = _; rw [h1]; exact evB_of (by decide)
        have ht := tl_eq 101
        rw [← h1] at ht
        have ht3 : (((⟨#[97, 99, 101, 102, 108, 111, 114]⟩ : ByteArray).extract 2 3).toList == l.toList) = true := by rw [hex]; exact ht.2
        clear h1 ht hex
        go_wp2_with fail
        go_ret
        exact ⟨by rw [HV.out]; rfl, rfl⟩
      · have ht3 : (((⟨#[97, 99, 101, 102, 108, 111, 114]⟩ : ByteArray).extract 2 3).toList == l.toList) = false := by rw [hex]; exact (tl_ne h1).2
        clear hex
        have HN := Lib.hid h1
        clear h1
        go_wp2_with fail
        go_round
        case rel => exact ⟨2 + 1, by omega, by go_num, fun c hc => by
          rcases List.mem_append.1 (show c ∈ evL.take 2 ++ [101] from hc) with h | h
          · exact HA.out c h
          · rw [List.mem_singleton.1 h]; exact HN.out⟩
        case measure => decide
    · have hex : ((⟨#[97, 99, 101, 102, 108, 111, 114]⟩ : ByteArray).extract 3 4).toList = [102] := by rw [ByteArray.toList_eq]; rfl
      by_cases h1 : l = chN 102
      · have HV : Hid (evB l = true) := by show _ = _; rw [h1]; exact evB_of (by decide)
        have ht := tl_eq 102
        rw [← h1] at ht
        have ht3 : (((⟨#[97, 99, 101, 102, 108, 111, 114]⟩ : ByteArray).extract 3 4).toList == l.toList) = true := by rw [hex]; exact ht.2
        clear h1 ht hex
        go_wp2_with fail
        go_ret
        exact ⟨by rw [HV.out]; rfl, rfl⟩
      · have ht3 : (((⟨#[97, 99, 101, 102, 108, 111, 114]⟩ : ByteArray).extract 3 4).toList == l.toList) = false := by rw [hex]; exact (tl_ne h1).2
        clear hex
        have HN := Lib.hid h1
        clear h1
        go_wp2_with fail
        go_round
        case rel => exact ⟨3 + 1, by omega, by go_num, fun c hc => by
          rcases List.mem_append.1 (show c ∈ evL.take 3 ++ [102] from hc) with h | h
          · exact HA.out c h
          · rw [List.mem_singleton.1 h]; exact HN.out⟩
        case measure => decide
    · have hex : ((⟨#[97, 99, 101, 102, 108, 111, 114]⟩ : ByteArray).extract 4 5).toList = [108] := by rw [ByteArray.toList_eq]; rfl
      by_cases h1 : l = chN 108
      · have HV : Hid (evB l = true) := by show _ = _; rw [h1]; exact evB_of (by decide)
        have ht := tl_eq 108
        rw [← h1] at ht
        have ht3 : (((⟨#[97, 99, 101, 102, 108, 111, 114]⟩ : ByteArray).extract 4 5).toList == l.toList) = true := by rw [hex]; exact ht.2
        clear h1 ht hex
        go_wp2_with fail
        go_ret
        exact ⟨by rw [HV.out]; rfl, rfl⟩
      · have ht3 : (((⟨#[97, 99, 101, 102, 108, 111, 114]⟩ : ByteArray).extract 4 5).toList == l.toList) = false := by rw [hex]; exact (tl_ne h1).2
        clear hex
        have HN := Lib.hid h1
        clear h1
        go_wp2_with fail
        go_round
        case rel => exact ⟨4 + 1, by omega, by go_num, fun c hc => by
          rcases List.mem_append.1 (show c ∈ evL.take 4 ++ [108] from hc) with h | h
          · exact HA.out c h
          · rw [List.mem_singleton.1 h]; exact HN.out⟩
        case measure => decide
    · have hex : ((⟨#[97, 99, 101, 102, 108, 111, 114]⟩ : ByteArray).extract 5 6).toList = [111] := by rw [ByteArray.toList_eq]; rfl
      by_cases h1 : l = chN 111
      · have HV : Hid (evB l = true) := by show _ = _; rw [h1]; exact evB_of (by decide)
        have ht := tl_eq 111
        rw [← h1] at ht
        have ht3 : (((⟨#[97, 99, 101, 102, 108, 111, 114]⟩ : ByteArray).extract 5 6).toList == l.toList) = true := by rw [hex]; exact ht.2
        clear h1 ht hex
        go_wp2_with fail
        go_ret
        exact ⟨by rw [HV.out]; rfl, rfl⟩
      · have ht3 : (((⟨#[97, 99, 101, 102, 108, 111, 114]⟩ : ByteArray).extract 5 6).toList == l.toList) = false := by rw [hex]; exact (tl_ne h1).2
        clear hex
        have HN := Lib.hid h1
        clear h1
        go_wp2_with fail
        go_round
        case rel => exact ⟨5 + 1, by omega, by go_num, fun c hc => by
          rcases List.mem_append.1 (show c ∈ evL.take 5 ++ [111] from hc) with h | h
          · exact HA.out c h
          · rw [List.mem_singleton.1 h]; exact HN.out⟩
        case measure => decide
    · have hex : ((⟨#[97, 99, 101, 102, 108, 111, 114]⟩ : ByteArray).extract 6 7).toList = [114] := by rw [ByteArray.toList_eq]; rfl
      by_cases h1 : l = chN 114
      · have HV : Hid (evB l = true) := by show _ = _; rw [h1]; exact evB_of (by decide)
        have ht := tl_eq 114
        rw [← h1] at ht
        have ht3 : (((⟨#[97, 99, 101, 102, 108, 111, 114]⟩ : ByteArray).extract 6 7).toList == l.toList) = true := by rw [hex]; exact ht.2
        clear h1 ht hex
        go_wp2_with fail
        go_ret
        exact ⟨by rw [HV.out]; rfl, rfl⟩
      · have ht3 : (((⟨#[97, 99, 101, 102, 108, 111, 114]⟩ : ByteArray).extract 6 7).toList == l.toList) = false := by rw [hex]; exact (tl_ne h1).2
        clear hex
        have HN := Lib.hid h1
        clear h1
        go_wp2_with fail
        go_round
        case rel => exact ⟨6 + 1, by omega, by go_num, fun c hc => by
          rcases List.mem_append.1 (show c ∈ evL.take 6 ++ [114] from hc) with h | h
          · exact HA.out c h
          · rw [List.mem_singleton.1 h]; exact HN.out⟩
        case measure => decide
    · have HV : Hid (evB l = false) := evB_not HA.out
      go_wp2_with fail
      go_ret
      exact ⟨by rw [HV.out]; rfl, rfl⟩
set_option linter.unusedSimpArgs false in
set_option maxHeartbeats 1000000 in
theorem specValid_any (b off c : Nat) (ns : List (Int × ByteArray)) (w : World) (hn : ns.length ≤ 1000000000000) (hc : NtC w b off ns) :
    Calls Try.prog 67 #[.slice (some ⟨b, off, none⟩) ns.length c] w fun e w' => e = .returned (.bool (rgV ns)) ∧ w = w' := by
  have HC := Lib.hid hc
  clear hc
  go_enter Try.func67, Try.ntmps67
  go_wp2_with fail
  go_loop [3, 4] (fun a i => ∃ k : Nat, k ≤ ns.length ∧ i = .int .i64 k ∧ a = .int .i64 (prM ns k) ∧ Hid (∀ j, j < k → okN ns j = true)) (fun _ i => ns.length - (intOf i).toNat)
  case atStart => exact ⟨0, Nat.zero_le _, rfl, rfl, fun j hj => by omega⟩
  case round =>
    obtain ⟨k, hk, rfl, rfl, HA⟩ := hrel
    by_cases hlt : k < ns.length
    · obtain ⟨c0, c1⟩ := HC.out k hlt
      have HPS := Lib.hid (prM_succ ns k)
      have HOK := Lib.hid (okN_true (ns := ns) (i := k))
      have HIB : Hid (inB (nM ns k) (prM ns k) 2000 = true ↔ prM ns k ≤ nM ns k ∧ nM ns k ≤ 2000) := inB_true
      have HRN : Hid (okN ns k = false → rgV ns = false) := fun h => rgV_not hlt h
      have HOV : Hid (okN ns k = (inB (nM ns k) (prM ns k) 2000 && evB (nL ns k))) := rfl
      generalize nM ns k = m at *
      generalize nL ns k = l at *
      cases hib : inB m (prM ns k) 2000
      · have HF : Hid (rgV ns = false) := HRN.out (by rw [HOV.out, hib]; rfl)
        have HI := Lib.hid hib
        clear hib
        go_wp2_with fail
        refine (l6In_any _ _ _ _).mono ?_
        rintro e w' ⟨rfl, rfl⟩
        rw [HI.out]
        go_wp2_with fail
        go_ret
        exact ⟨by rw [HF.out]; rfl, rfl⟩
      cases hev : evB l
      · have HF : Hid (rgV ns = false) := HRN.out (by rw [HOV.out, hev]; simp)
        have HI := Lib.hid hib
        have HEV := Lib.hid hev
        clear hib hev
        go_wp2_with fail
        refine (l6In_any _ _ _ _).mono ?_
        rintro e w' ⟨rfl, rfl⟩
        rw [HI.out]
        go_wp2_with fail
        refine (specLetter_any l _).mono ?_
        rintro e w' ⟨rfl, rfl⟩
        rw [HEV.out]
        go_wp2_with fail
        go_ret
        exact ⟨by rw [HF.out]; rfl, rfl⟩
      · have HOKI : Hid (okN ns k = true) := by show _ = _; rw [HOV.out, hib, hev]; rfl
        have HI := Lib.hid hib
        have HEV := Lib.hid hev
        clear hib hev
        go_wp2_with fail
        refine (l6In_any _ _ _ _).mono ?_
        rintro e w' ⟨rfl, rfl⟩
        rw [HI.out]
        go_wp2_with fail
        refine (specLetter_any l _).mono ?_
        rintro e w' ⟨rfl, rfl⟩
        rw [HEV.out]
        go_wp2_with fail
        go_round
        case rel => exact ⟨k + 1, by omega, by go_num, by rw [HPS.out], fun j hj => by
          rcases Nat.lt_or_ge j k with h | h
          · exact HA.out j h
          · obtain rfl : j = k := by omega
            exact HOKI.out⟩
        case measure => simp [intOf]; omega
    · obtain rfl : k = ns.length := by omega
      have HV : Hid (rgV ns = decide ((ns.length : Int) ≤ 30)) := by
        show _ = _
        unfold rgV
        rw [allB_of HA.out, Bool.and_true]
        rw [Bool.eq_iff_iff, decide_eq_true_eq, decide_eq_true_eq]
        omega
      go_wp2_with fail
      go_ret
      exact ⟨by rw [HV.out]; rfl, rfl⟩
theorem ba_app (a : List UInt8) (l : ByteArray) : (⟨a.toArray⟩ : ByteArray) ++ l = ⟨(a ++ l.data.toList).toArray⟩ := by
  apply ByteArray.ext
  rw [ByteArray.data_append]
  simp
theorem specText_any (b off c : Nat) (ns : List (Int × ByteArray)) (w : World) (hn : ns.length ≤ 1000) (hz : ∀ z, z ∈ ns → z.2.size ≤ 1000) (hc : NtC w b off ns) :
    Calls Try.prog 76 #[.slice (some ⟨b, off, none⟩) ns.length c] w fun e w' => e = .returned (.string ⟨(rgT ns).toArray⟩) ∧ w = w' := by
  have HC := Lib.hid hc
  have HZ := Lib.hid hz
  clear hc hz
  go_enter Try.func76, Try.ntmps76
  go_wp2_with fail
  go_loop [3, 4] (fun s i => ∃ k : Nat, k ≤ ns.length ∧ i = .int .i64 k ∧ ∃ t : ByteArray, s = .string t ∧ Hid (t = ⟨(rgT (ns.take k)).toArray⟩)) (fun _ i => ns.length - (intOf i).toNat)
  case atStart => exact ⟨0, Nat.zero_le _, rfl, _, rfl, Lib.hid rfl⟩
  case round =>
    obtain ⟨k, hk, rfl, t, rfl, HT⟩ := hrel
    by_cases hlt : k < ns.length
    · obtain ⟨c0, c1⟩ := HC.out k hlt
      have HTK : Hid (ns.take (k + 1) = ns.take k ++ [ns[k]]) := List.take_succ_eq_append_getElem hlt
      have HLE : Hid (nL ns k = (ns[k]).2) := nL_at hlt
      have HS : Hid (t ++ nL ns k = ⟨(rgT (ns.take (k + 1))).toArray⟩) := by show _ = _; rw [HT.out, ba_app, HTK.out, rgT_snoc, HLE.out]
      have hls : (nL ns k).size ≤ 1000 := by rw [HLE.out]; exact HZ.out _ (List.getElem_mem hlt)
      have hts : t.size ≤ 1000 * 1000 := by
        have h := rgT_len (ns.take k) (fun z hz => HZ.out z (List.mem_of_mem_take hz))
        have h2 : (ns.take k).length ≤ 1000 := by simp; omega
        rw [HT.out]
        show (rgT (ns.take k)).toArray.size ≤ _
        simp only [List.size_toArray]
        exact Nat.le_trans h (Nat.mul_le_mul_right _ h2)
      clear HLE
      generalize nL ns k = l at *
      have hsm : t.size + l.size ≤ maxLen := by unfold maxLen; omega
      have hsn : ¬ maxLen < t.size + l.size := by omega
      go_wp2_with fail
      go_round
      case rel => exact ⟨k + 1, by omega, by go_num, _, rfl, HS⟩
      case measure => simp [intOf]; omega
    · obtain rfl : k = ns.length := by omega
      have HE : Hid (t = ⟨(rgT ns).toArray⟩) := by show _ = _; rw [HT.out, List.take_length]
      go_wp2_with fail
      go_ret
      exact ⟨by rw [← HE.out]; rfl, rfl⟩
end Go.Proofs.Ytokddeoliieofaa
