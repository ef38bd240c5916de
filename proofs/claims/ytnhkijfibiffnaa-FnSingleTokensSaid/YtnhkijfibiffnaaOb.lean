/-
  Walks over all orders of a single line: l8All, orders with a visitor.
-/
import Derived.Test.YtnhkijfibiffnaaQ
namespace Go.Proofs.Ytnhkijfibiffnaa
open Go.RowKit

theorem elStr : Elem Try.prog 66 9 (.string ⟨#[]⟩) 1 16 := ⟨Try.underlying66, by kernel_rfl, rfl, by decide⟩
/-- the k-th order of a trains U and b trains D, as a value -/
def ordV (a b k : Nat) : Value := .string (strOf (nthL (a + b) a b k))
theorem ordV_D {a b k : Nat} (hb : 0 < b) (h : k < pasc a (b - 1)) : Value.string (⟨#[68]⟩ ++ strOf (nthL (a + (b - 1)) a (b - 1) k)) = ordV a b k := by
  unfold ordV
  obtain ⟨n, hn⟩ : ∃ n, a + b = n + 1 := ⟨a + b - 1, by omega⟩
  rw [hn, nthL_D (by rw [fstN_lt hb]; exact h), show a + (b - 1) = n from by omega]
  congr 1
theorem ordV_U {a b k : Nat} (ha : 0 < a) : Value.string (⟨#[85]⟩ ++ strOf (nthL (a - 1 + b) (a - 1) b k)) = ordV a b (fstN a b + k) := by
  unfold ordV
  obtain ⟨n, hn⟩ : ∃ n, a + b = n + 1 := ⟨a + b - 1, by omega⟩
  rw [hn, nthL_U (by omega), show a - 1 + b = n from by omega, show fstN a b + k - fstN a b = k from by omega]
  congr 1
theorem strOf_len (n a b k : Nat) : (strOf (nthL n a b k)).size = n := by rw [strOf_size, nthL_length]

set_option maxRecDepth 100000 in
set_option maxHeartbeats 4000000 in
theorem l8All_any (n : Nat) : ∀ (a b : Nat) (w : World), n = a + b → a + b ≤ 12 →
    Calls Try.prog 75 #[.int .i64 a, .int .i64 b] w fun e w' => ∃ g c, e = .returned (.slice (some ⟨g, 0, none⟩) (pasc a b) c) ∧ w.heap.size ≤ g ∧ Own w' g c (pasc a b) 1 9 (ordV a b) ∧ Below w.heap.size w w' := by
  induction n with
  | zero =>
    intro a b w hn h12
    obtain rfl : a = 0 := by omega
    obtain rfl : b = 0 := by omega
    clear hn h12
    show Calls Try.prog 75 #[.int .i64 0, .int .i64 0] w _
    have HO : Hid (Own (w.alloc (.cells #[.string ⟨#[]⟩] 9)) w.heap.size 1 1 1 9 (ordV 0 0)) := own_lit w [.string ⟨#[]⟩] 1 1 9 _ rfl (by unfold maxLen; omega) (fun i hi => by
      obtain rfl : i = 0 := by omega
      rfl)
    have HP : Hid (pasc 0 0 = 1) := rfl
    rw [HP.out]
    clear HP
    go_enter Try.func75, Try.ntmps75
    go_wp2_with fail
    go_ret
    exact ⟨_, _, rfl, Nat.le_refl _, HO.out, (Below.refl _ _).alloc (Nat.le_refl _) _⟩
  | succ n ih =>
    intro a b w hn h12
    have H0 : Hid (∀ f, Own (w.alloc (.cells #[] 9)) w.heap.size 0 0 1 9 f) := fun f => own_empty w 1 9 f
    have HB0 : Hid (Below w.heap.size w (w.alloc (.cells #[] 9))) := (Below.refl _ _).alloc (Nat.le_refl _) _
    have IH := Lib.hid ih
    clear ih
    by_cases hb : 0 < b
    · obtain ⟨b, rfl⟩ : ∃ b', b = b' + 1 := ⟨b - 1, by omega⟩
      have hp1 := pasc_le a b (by omega)
      have hb0 : ((b : Int) + 1 == 0) = false := by simp; omega
      have HF := Lib.hid (H0.out (ordV a (b + 1)))
      by_cases ha : 0 < a
      · obtain ⟨a, rfl⟩ : ∃ a', a = a' + 1 := ⟨a - 1, by omega⟩
        have ha0 : ((a : Int) + 1 == 0) = false := by simp; omega
        have hp2 := pasc_le a (b + 1) (by omega)
        have hps : pasc (a + 1) (b + 1) = pasc (a + 1) b + pasc a (b + 1) := by have := pasc_step a b; omega
        rw [hps]
        clear hps
        go_enter Try.func75, Try.ntmps75
        go_wp2_with fail
        refine (IH.out (a + 1) b _ (by omega) (by omega)).mono ?_
        rintro e w1 ⟨g1, c1, rfl, hg1, ho1, hb1⟩
        have HS1 := Lib.hid ho1
        have HO1 := Lib.hid (HF.out.below hb1 HF.out.lt)
        have HB1 := Lib.hid (HB0.out.trans (hb1.mono HB0.out.size))
        have hlt1 := ho1.lt
        have hlO1 := HF.out.lt
        have hzz1 := hb1.size
        have hz1 := HB0.out.size
        clear ho1 hb1
        go_wp2_with fail
        go_loopw [5, 7] (fun out si wr => ∃ k g c : Nat, k ≤ pasc (a + 1) b ∧ si = .int .i64 k ∧ out = .slice (some ⟨g, 0, none⟩) (0 + k) c ∧ w.heap.size ≤ g ∧ g ≠ g1 ∧ Own wr g c (0 + k) 1 9 (ordV (a + 1) (b + 1)) ∧ Own wr g1 c1 (pasc (a + 1) b) 1 9 (ordV (a + 1) b) ∧ Below w.heap.size w wr) (fun _ si _ => pasc (a + 1) b - (intOf si).toNat)
        case atStart => exact ⟨0, w.heap.size, _, Nat.zero_le _, rfl, rfl, by omega, by (try simp at hg1) <;> omega, HO1.out, HS1.out, HB1.out⟩
        case round =>
          obtain ⟨k, g, c, hk, rfl, rfl, hg, hne, ho, hs, hb⟩ := hrel
          have HO := Lib.hid ho
          have HS := Lib.hid hs
          have HB := Lib.hid hb
          clear ho hs hb
          by_cases hlt : k < pasc (a + 1) b
          · have hck : wr.cell? ⟨g1, k, none⟩ = some (.string (strOf (nthL ((a + 1) + b) (a + 1) b k))) := HS.out.cell1 hlt
            have hsz := strOf_len ((a + 1) + b) (a + 1) b k
            have hsz2 : (strOf (nthL ((a + 1) + b) (a + 1) b k)).size ≤ 12 := by omega
            have hv : Hid (Value.string (⟨#[68]⟩ ++ strOf (nthL ((a + 1) + b) (a + 1) b k)) = ordV (a + 1) (b + 1) (0 + k)) := (by show _ = ordV _ _ (0 + k); rw [Nat.zero_add]; exact ordV_D (a := a + 1) (b := b + 1) (by omega) hlt)
            clear hsz
            go_wp2_with (at_builtin; refine wpList_pushV elStr rfl (.tmp 30) (.tmp 36) (by rfl) HO.out (by rfl) (by rfl) hv.out rfl (by omega) (by omega) ?_; intro g' c' wa HA hgr hd)
            have z0 := HB.out.size
            have l0 := HS.out.lt
            go_roundw
            case rel => exact ⟨k + 1, g', c', by omega, by go_num, by first | rfl | simp, by omega, by omega, HA, HS.out.kept hgr (by simp; omega), HB.out.trans (below_of_grown hgr hg z0)⟩
            case measure => simp [intOf]; omega
          · obtain rfl : k = pasc (a + 1) b := by omega
            clear hlt hk
            have HX : Hid (Own wr g c (pasc (a + 1) b) 1 9 (ordV (a + 1) (b + 1))) := by
              have := HO.out
              rw [Nat.zero_add] at this
              exact this
            have hBz := HB.out.size
            go_wp2_with fail
            refine (IH.out a (b + 1) _ (by omega) (by omega)).mono ?_
            rintro e w2 ⟨g2, c2, rfl, hg2, ho2, hb2⟩
            have HS2 := Lib.hid ho2
            have HO2 := Lib.hid (HX.out.below hb2 HX.out.lt)
            have HB2 := Lib.hid (HB.out.trans (hb2.mono HB.out.size))
            have hlt2 := ho2.lt
            have hlO2 := HX.out.lt
            have hzz2 := hb2.size
            have hz2 := HB.out.size
            clear ho2 hb2
            go_wp2_with fail
            go_loopw [5, 9] (fun out si wr => ∃ k g c : Nat, k ≤ pasc a (b + 1) ∧ si = .int .i64 k ∧ out = .slice (some ⟨g, 0, none⟩) (pasc (a + 1) b + k) c ∧ w.heap.size ≤ g ∧ g ≠ g2 ∧ Own wr g c (pasc (a + 1) b + k) 1 9 (ordV (a + 1) (b + 1)) ∧ Own wr g2 c2 (pasc a (b + 1)) 1 9 (ordV a (b + 1)) ∧ Below w.heap.size w wr) (fun _ si _ => pasc a (b + 1) - (intOf si).toNat)
            case atStart => exact ⟨0, g, _, Nat.zero_le _, rfl, rfl, by omega, by (try simp at hg2) <;> omega, HO2.out, HS2.out, HB2.out⟩
            case round =>
              obtain ⟨k, g, c, hk, rfl, rfl, hg, hne, ho, hs, hb⟩ := hrel
              have HO := Lib.hid ho
              have HS := Lib.hid hs
              have HB := Lib.hid hb
              clear ho hs hb
              by_cases hlt : k < pasc a (b + 1)
              · have hck : wr.cell? ⟨g2, k, none⟩ = some (.string (strOf (nthL (a + (b + 1)) a (b + 1) k))) := HS.out.cell1 hlt
                have hsz := strOf_len (a + (b + 1)) a (b + 1) k
                have hsz2 : (strOf (nthL (a + (b + 1)) a (b + 1) k)).size ≤ 12 := by omega
                have hv : Hid (Value.string (⟨#[85]⟩ ++ strOf (nthL (a + (b + 1)) a (b + 1) k)) = ordV (a + 1) (b + 1) (pasc (a + 1) b + k)) := (by show _ = ordV _ _ (fstN (a + 1) (b + 1) + k); exact ordV_U (a := a + 1) (b := b + 1) (by omega))
                clear hsz
                go_wp2_with (at_builtin; refine wpList_pushV elStr rfl (.tmp 50) (.tmp 56) (by rfl) HO.out (by rfl) (by rfl) hv.out rfl (by omega) (by omega) ?_; intro g' c' wa HA hgr hd)
                have z0 := HB.out.size
                have l0 := HS.out.lt
                go_roundw
                case rel => exact ⟨k + 1, g', c', by omega, by go_num, by first | rfl | simp, by omega, by omega, HA, HS.out.kept hgr (by simp; omega), HB.out.trans (below_of_grown hgr hg z0)⟩
                case measure => simp [intOf]; omega
              · obtain rfl : k = pasc a (b + 1) := by omega
                go_wp2_with fail
                go_ret
                exact ⟨g, c, rfl, hg, HO.out, HB.out⟩
      · have ha0 : ((a : Int) == 0) = true := by simp; omega
        have hps : pasc a (b + 1) = pasc a b := by
          obtain rfl : a = 0 := by omega
          rw [pasc_left, pasc_left]
        rw [hps]
        clear hps
        go_enter Try.func75, Try.ntmps75
        go_wp2_with fail
        refine (IH.out a b _ (by omega) (by omega)).mono ?_
        rintro e w1 ⟨g1, c1, rfl, hg1, ho1, hb1⟩
        have HS1 := Lib.hid ho1
        have HO1 := Lib.hid (HF.out.below hb1 HF.out.lt)
        have HB1 := Lib.hid (HB0.out.trans (hb1.mono HB0.out.size))
        have hlt1 := ho1.lt
        have hlO1 := HF.out.lt
        have hzz1 := hb1.size
        have hz1 := HB0.out.size
        clear ho1 hb1
        go_wp2_with fail
        go_loopw [5, 7] (fun out si wr => ∃ k g c : Nat, k ≤ pasc a b ∧ si = .int .i64 k ∧ out = .slice (some ⟨g, 0, none⟩) (0 + k) c ∧ w.heap.size ≤ g ∧ g ≠ g1 ∧ Own wr g c (0 + k) 1 9 (ordV a (b + 1)) ∧ Own wr g1 c1 (pasc a b) 1 9 (ordV a b) ∧ Below w.heap.size w wr) (fun _ si _ => pasc a b - (intOf si).toNat)
        case atStart => exact ⟨0, w.heap.size, _, Nat.zero_le _, rfl, rfl, by omega, by (try simp at hg1) <;> omega, HO1.out, HS1.out, HB1.out⟩
        case round =>
          obtain ⟨k, g, c, hk, rfl, rfl, hg, hne, ho, hs, hb⟩ := hrel
          have HO := Lib.hid ho
          have HS := Lib.hid hs
          have HB := Lib.hid hb
          clear ho hs hb
          by_cases hlt : k < pasc a b
          · have hck : wr.cell? ⟨g1, k, none⟩ = some (.string (strOf (nthL (a + b) a b k))) := HS.out.cell1 hlt
            have hsz := strOf_len (a + b) a b k
            have hsz2 : (strOf (nthL (a + b) a b k)).size ≤ 12 := by omega
            have hv : Hid (Value.string (⟨#[68]⟩ ++ strOf (nthL (a + b) a b k)) = ordV a (b + 1) (0 + k)) := (by show _ = ordV _ _ (0 + k); rw [Nat.zero_add]; exact ordV_D (a := a) (b := b + 1) (by omega) hlt)
            clear hsz
            go_wp2_with (at_builtin; refine wpList_pushV elStr rfl (.tmp 30) (.tmp 36) (by rfl) HO.out (by rfl) (by rfl) hv.out rfl (by omega) (by omega) ?_; intro g' c' wa HA hgr hd)
            have z0 := HB.out.size
            have l0 := HS.out.lt
            go_roundw
            case rel => exact ⟨k + 1, g', c', by omega, by go_num, by first | rfl | simp, by omega, by omega, HA, HS.out.kept hgr (by simp; omega), HB.out.trans (below_of_grown hgr hg z0)⟩
            case measure => simp [intOf]; omega
          · obtain rfl : k = pasc a b := by omega
            go_wp2_with fail
            go_ret
            exact ⟨g, c, by first | rfl | simp, hg, by have := HO.out; rw [Nat.zero_add] at this; exact this, HB.out⟩
    · have hb0 : ((b : Int) == 0) = true := by simp; omega
      obtain ⟨a, rfl⟩ : ∃ a', a = a' + 1 := ⟨a - 1, by omega⟩
      have ha0 : ((a : Int) + 1 == 0) = false := by simp; omega
      have hp2 := pasc_le a b (by omega)
      have HF := Lib.hid (H0.out (ordV (a + 1) b))
      have hps : pasc (a + 1) b = pasc a b := by
        obtain rfl : b = 0 := by omega
        rw [pasc_right, pasc_right]
      have HU : Hid (∀ k, Value.string (⟨#[85]⟩ ++ strOf (nthL (a + b) a b k)) = ordV (a + 1) b (0 + k)) := fun k => by
        obtain rfl : b = 0 := by omega
        exact ordV_U (a := a + 1) (b := 0) (by omega)
      rw [hps]
      clear hps
      go_enter Try.func75, Try.ntmps75
      go_wp2_with fail
      refine (IH.out a b _ (by omega) (by omega)).mono ?_
      rintro e w2 ⟨g2, c2, rfl, hg2, ho2, hb2⟩
      have HS2 := Lib.hid ho2
      have HO2 := Lib.hid (HF.out.below hb2 HF.out.lt)
      have HB2 := Lib.hid (HB0.out.trans (hb2.mono HB0.out.size))
      have hlt2 := ho2.lt
      have hlO2 := HF.out.lt
      have hzz2 := hb2.size
      have hz2 := HB0.out.size
      clear ho2 hb2
      go_wp2_with fail
      go_loopw [5, 9] (fun out si wr => ∃ k g c : Nat, k ≤ pasc a b ∧ si = .int .i64 k ∧ out = .slice (some ⟨g, 0, none⟩) (0 + k) c ∧ w.heap.size ≤ g ∧ g ≠ g2 ∧ Own wr g c (0 + k) 1 9 (ordV (a + 1) b) ∧ Own wr g2 c2 (pasc a b) 1 9 (ordV a b) ∧ Below w.heap.size w wr) (fun _ si _ => pasc a b - (intOf si).toNat)
      case atStart => exact ⟨0, w.heap.size, _, Nat.zero_le _, rfl, rfl, by omega, by (try simp at hg2) <;> omega, HO2.out, HS2.out, HB2.out⟩
      case round =>
        obtain ⟨k, g, c, hk, rfl, rfl, hg, hne, ho, hs, hb⟩ := hrel
        have HO := Lib.hid ho
        have HS := Lib.hid hs
        have HB := Lib.hid hb
        clear ho hs hb
        by_cases hlt : k < pasc a b
        · have hck : wr.cell? ⟨g2, k, none⟩ = some (.string (strOf (nthL (a + b) a b k))) := HS.out.cell1 hlt
          have hsz := strOf_len (a + b) a b k
          have hsz2 : (strOf (nthL (a + b) a b k)).size ≤ 12 := by omega
          have hv : Hid (Value.string (⟨#[85]⟩ ++ strOf (nthL (a + b) a b k)) = ordV (a + 1) b (0 + k)) := (HU.out k)
          clear hsz
          go_wp2_with (at_builtin; refine wpList_pushV elStr rfl (.tmp 50) (.tmp 56) (by rfl) HO.out (by rfl) (by rfl) hv.out rfl (by omega) (by omega) ?_; intro g' c' wa HA hgr hd)
          have z0 := HB.out.size
          have l0 := HS.out.lt
          go_roundw
          case rel => exact ⟨k + 1, g', c', by omega, by go_num, by first | rfl | simp, by omega, by omega, HA, HS.out.kept hgr (by simp; omega), HB.out.trans (below_of_grown hgr hg z0)⟩
          case measure => simp [intOf]; omega
        · obtain rfl : k = pasc a b := by omega
          go_wp2_with fail
          go_ret
          exact ⟨g, c, by first | rfl | simp, hg, by have := HO.out; rw [Nat.zero_add] at this; exact this, HB.out⟩
end Go.Proofs.Ytnhkijfibiffnaa
