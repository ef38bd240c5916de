/-
  Walks: orders with a visitor; SingleBest and SingleSoon of the program.
-/
import Derived.Test.YtnhkijfibiffnaaOc
import Derived.Test.YtnhkijfibiffnaaBx
namespace Go.Proofs.Ytnhkijfibiffnaa
open Go.RowKit

theorem nth_D {a b r : Nat} (h : r < pasc a b) : nthL (a + (b + 1)) a (b + 1) r = 68 :: nthL (a + b) a b r := by
  rw [← Nat.add_assoc, nthL_D (by rw [fstN_succ]; exact h)]
  rfl
theorem nth_U {a b r : Nat} : nthL (a + 1 + b) (a + 1) b (fstN (a + 1) b + r) = 85 :: nthL (a + b) a b r := by
  rw [show a + 1 + b = (a + b) + 1 from by omega, nthL_U (by omega), show fstN (a + 1) b + r - fstN (a + 1) b = r from by omega]
  rfl

set_option maxRecDepth 100000 in
set_option maxHeartbeats 2000000 in
theorem ordersB_any (S L Bb : Nat) (F : Nat → List UInt8) (N : Nat) (Inv : Nat → World → Prop)
    (hv : ∀ k w, k < N → Inv k w → Calls Try.prog 67 #[.string (strOf (F k)), .pointer (some ⟨S, 0, none⟩), .pointer (some ⟨L, 0, none⟩), .pointer (some ⟨Bb, 0, none⟩)] w fun e w' => e = .returned (.tuple #[]) ∧ Inv (k + 1) w') (n : Nat) :
    ∀ (a b : Nat) (pre : List UInt8) (k0 : Nat) (w : World), n = a + b → a + b ≤ 12 → pre.length + (a + b) ≤ 12 → k0 + pasc a b ≤ N → (∀ r, r < pasc a b → F (k0 + r) = pre ++ nthL (a + b) a b r) → Inv k0 w →
      Calls Try.prog 66 #[.string (strOf pre), .int .i64 a, .int .i64 b, .func (.func 67) #[] #[.pointer (some ⟨S, 0, none⟩), .pointer (some ⟨L, 0, none⟩), .pointer (some ⟨Bb, 0, none⟩)]] w fun e w' => e = .returned (.tuple #[]) ∧ Inv (k0 + pasc a b) w' := by
  have HV := Lib.hid hv
  clear hv
  induction n with
  | zero =>
    intro a b pre k0 w hn h12 hpre hN hF hinv
    have e0 : pasc a b = 1 := by
      obtain rfl : a = 0 := by omega
      rw [pasc_left]
    have eF : F k0 = pre := by
      have := hF 0 (by omega)
      obtain rfl : a = 0 := by omega
      obtain rfl : b = 0 := by omega
      simpa [nthL] using this
    rw [e0]
    have HC := Lib.hid (HV.out k0 w (by omega) hinv)
    rw [eF] at HC
    have ha0 : ((a : Int) == 0) = true := by simp; omega
    have hb0 : ((b : Int) == 0) = true := by simp; omega
    clear hF hinv eF e0 hn hN
    go_enter Try.func66, Try.ntmps66
    go_wp2_with fail
    refine (HC.out).mono ?_
    rintro e w1 ⟨rfl, hi⟩
    have HI := Lib.hid hi
    clear hi
    go_wp2_with fail
    exact bodyPost_ret (v := .tuple #[]) (results_none rfl _ _ _) rfl ⟨rfl, HI.out⟩
  | succ n ih =>
    intro a b pre k0 w hn h12 hpre hN hF hinv
    have IH := Lib.hid ih
    have HF := Lib.hid hF
    have HI := Lib.hid hinv
    clear ih hF hinv
    have hsz : (strOf pre).size ≤ 12 := by rw [strOf_size]; omega
    by_cases hb : 0 < b
    · obtain ⟨b, rfl⟩ : ∃ b', b = b' + 1 := ⟨b - 1, by omega⟩
      have hb0 : ((b : Int) + 1 == 0) = false := by simp; omega
      by_cases ha : 0 < a
      · obtain ⟨a, rfl⟩ : ∃ a', a = a' + 1 := ⟨a - 1, by omega⟩
        have ha0 : ((a : Int) + 1 == 0) = false := by simp; omega
        have hps : pasc (a + 1) (b + 1) = pasc (a + 1) b + pasc a (b + 1) := by have := pasc_step a b; omega
        rw [hps] at hN ⊢
        have HC1 : Hid (∀ r, r < pasc (a + 1) b → F (k0 + r) = (pre ++ [68]) ++ nthL (a + 1 + b) (a + 1) b r) := fun r hr => by
          rw [HF.out r (by omega), nth_D hr]
          simp
        have HC2 : Hid (∀ r, r < pasc a (b + 1) → F (k0 + pasc (a + 1) b + r) = (pre ++ [85]) ++ nthL (a + (b + 1)) a (b + 1) r) := fun r hr => by
          rw [Nat.add_assoc, HF.out (pasc (a + 1) b + r) (by omega)]
          rw [show pasc (a + 1) b = fstN (a + 1) (b + 1) from rfl, nth_U]
          simp
        have HNN := Lib.hid hN
        have HNE := Lib.hid hn
        clear hps hN hn
        go_enter Try.func66, Try.ntmps66
        go_wp2_with fail
        rw [strOf_snoc]
        refine (IH.out (a + 1) b (pre ++ [68]) k0 _ (by have := HNE.out; omega) (by omega) (by simp; omega) (by have := HNN.out; omega) HC1.out HI.out).mono ?_
        rintro e w1 ⟨rfl, hi1⟩
        have HI1 := Lib.hid hi1
        clear hi1
        go_wp2_with fail
        rw [strOf_snoc]
        refine (IH.out a (b + 1) (pre ++ [85]) (k0 + pasc (a + 1) b) _ (by have := HNE.out; omega) (by omega) (by simp; omega) (by have := HNN.out; omega) HC2.out HI1.out).mono ?_
        rintro e w2 ⟨rfl, hi2⟩
        have HI2 := Lib.hid hi2
        clear hi2
        go_wp2_with fail
        go_end0
        exact ⟨rfl, by rw [← Nat.add_assoc]; exact HI2.out⟩
      · have ha0 : ((a : Int) == 0) = true := by simp; omega
        have hps : pasc a (b + 1) = pasc a b := by
          obtain rfl : a = 0 := by omega
          rw [pasc_left, pasc_left]
        rw [hps] at hN ⊢
        have HC1 : Hid (∀ r, r < pasc a b → F (k0 + r) = (pre ++ [68]) ++ nthL (a + b) a b r) := fun r hr => by
          rw [HF.out r (by omega), nth_D hr]
          simp
        have HNN := Lib.hid hN
        have HNE := Lib.hid hn
        clear hps hN hn
        go_enter Try.func66, Try.ntmps66
        go_wp2_with fail
        rw [strOf_snoc]
        refine (IH.out a b (pre ++ [68]) k0 _ (by have := HNE.out; omega) (by omega) (by simp; omega) (by have := HNN.out; omega) HC1.out HI.out).mono ?_
        rintro e w1 ⟨rfl, hi1⟩
        have HI1 := Lib.hid hi1
        clear hi1
        go_wp2_with fail
        go_end0
        exact ⟨rfl, HI1.out⟩
    · have hb0 : ((b : Int) == 0) = true := by simp; omega
      obtain ⟨a, rfl⟩ : ∃ a', a = a' + 1 := ⟨a - 1, by omega⟩
      have ha0 : ((a : Int) + 1 == 0) = false := by simp; omega
      have hps : pasc (a + 1) b = pasc a b := by
        obtain rfl : b = 0 := by omega
        rw [pasc_right, pasc_right]
      rw [hps] at hN ⊢
      have HC2 : Hid (∀ r, r < pasc a b → F (k0 + r) = (pre ++ [85]) ++ nthL (a + b) a b r) := fun r hr => by
        rw [HF.out r (by omega)]
        obtain rfl : b = 0 := by omega
        have := nth_U (a := a) (b := 0) (r := r)
        rw [fstN_zero, Nat.zero_add] at this
        rw [this]
        simp
      have HNN := Lib.hid hN
      have HNE := Lib.hid hn
      clear hps hN hn
      go_enter Try.func66, Try.ntmps66
      go_wp2_with fail
      rw [strOf_snoc]
      refine (IH.out a b (pre ++ [85]) k0 _ (by have := HNE.out; omega) (by omega) (by simp; omega) (by have := HNN.out; omega) HC2.out HI.out).mono ?_
      rintro e w1 ⟨rfl, hi1⟩
      have HI1 := Lib.hid hi1
      clear hi1
      go_wp2_with fail
      go_end0
      exact ⟨rfl, HI1.out⟩

set_option maxRecDepth 100000 in
set_option maxHeartbeats 2000000 in
theorem ordersS_any (S L : Nat) (F : Nat → List UInt8) (N : Nat) (Inv : Nat → World → Prop)
    (hv : ∀ k w, k < N → Inv k w → Calls Try.prog 69 #[.string (strOf (F k)), .pointer (some ⟨S, 0, none⟩), .pointer (some ⟨L, 0, none⟩)] w fun e w' => e = .returned (.tuple #[]) ∧ Inv (k + 1) w') (n : Nat) :
    ∀ (a b : Nat) (pre : List UInt8) (k0 : Nat) (w : World), n = a + b → a + b ≤ 12 → pre.length + (a + b) ≤ 12 → k0 + pasc a b ≤ N → (∀ r, r < pasc a b → F (k0 + r) = pre ++ nthL (a + b) a b r) → Inv k0 w →
      Calls Try.prog 66 #[.string (strOf pre), .int .i64 a, .int .i64 b, .func (.func 69) #[] #[.pointer (some ⟨S, 0, none⟩), .pointer (some ⟨L, 0, none⟩)]] w fun e w' => e = .returned (.tuple #[]) ∧ Inv (k0 + pasc a b) w' := by
  have HV := Lib.hid hv
  clear hv
  induction n with
  | zero =>
    intro a b pre k0 w hn h12 hpre hN hF hinv
    have e0 : pasc a b = 1 := by
      obtain rfl : a = 0 := by omega
      rw [pasc_left]
    have eF : F k0 = pre := by
      have := hF 0 (by omega)
      obtain rfl : a = 0 := by omega
      obtain rfl : b = 0 := by omega
      simpa [nthL] using this
    rw [e0]
    have HC := Lib.hid (HV.out k0 w (by omega) hinv)
    rw [eF] at HC
    have ha0 : ((a : Int) == 0) = true := by simp; omega
    have hb0 : ((b : Int) == 0) = true := by simp; omega
    clear hF hinv eF e0 hn hN
    go_enter Try.func66, Try.ntmps66
    go_wp2_with fail
    refine (HC.out).mono ?_
    rintro e w1 ⟨rfl, hi⟩
    have HI := Lib.hid hi
    clear hi
    go_wp2_with fail
    exact bodyPost_ret (v := .tuple #[]) (results_none rfl _ _ _) rfl ⟨rfl, HI.out⟩
  | succ n ih =>
    intro a b pre k0 w hn h12 hpre hN hF hinv
    have IH := Lib.hid ih
    have HF := Lib.hid hF
    have HI := Lib.hid hinv
    clear ih hF hinv
    have hsz : (strOf pre).size ≤ 12 := by rw [strOf_size]; omega
    by_cases hb : 0 < b
    · obtain ⟨b, rfl⟩ : ∃ b', b = b' + 1 := ⟨b - 1, by omega⟩
      have hb0 : ((b : Int) + 1 == 0) = false := by simp; omega
      by_cases ha : 0 < a
      · obtain ⟨a, rfl⟩ : ∃ a', a = a' + 1 := ⟨a - 1, by omega⟩
        have ha0 : ((a : Int) + 1 == 0) = false := by simp; omega
        have hps : pasc (a + 1) (b + 1) = pasc (a + 1) b + pasc a (b + 1) := by have := pasc_step a b; omega
        rw [hps] at hN ⊢
        have HC1 : Hid (∀ r, r < pasc (a + 1) b → F (k0 + r) = (pre ++ [68]) ++ nthL (a + 1 + b) (a + 1) b r) := fun r hr => by
          rw [HF.out r (by omega), nth_D hr]
          simp
        have HC2 : Hid (∀ r, r < pasc a (b + 1) → F (k0 + pasc (a + 1) b + r) = (pre ++ [85]) ++ nthL (a + (b + 1)) a (b + 1) r) := fun r hr => by
          rw [Nat.add_assoc, HF.out (pasc (a + 1) b + r) (by omega)]
          rw [show pasc (a + 1) b = fstN (a + 1) (b + 1) from rfl, nth_U]
          simp
        have HNN := Lib.hid hN
        have HNE := Lib.hid hn
        clear hps hN hn
        go_enter Try.func66, Try.ntmps66
        go_wp2_with fail
        rw [strOf_snoc]
        refine (IH.out (a + 1) b (pre ++ [68]) k0 _ (by have := HNE.out; omega) (by omega) (by simp; omega) (by have := HNN.out; omega) HC1.out HI.out).mono ?_
        rintro e w1 ⟨rfl, hi1⟩
        have HI1 := Lib.hid hi1
        clear hi1
        go_wp2_with fail
        rw [strOf_snoc]
        refine (IH.out a (b + 1) (pre ++ [85]) (k0 + pasc (a + 1) b) _ (by have := HNE.out; omega) (by omega) (by simp; omega) (by have := HNN.out; omega) HC2.out HI1.out).mono ?_
        rintro e w2 ⟨rfl, hi2⟩
        have HI2 := Lib.hid hi2
        clear hi2
        go_wp2_with fail
        go_end0
        exact ⟨rfl, by rw [← Nat.add_assoc]; exact HI2.out⟩
      · have ha0 : ((a : Int) == 0) = true := by simp; omega
        have hps : pasc a (b + 1) = pasc a b := by
          obtain rfl : a = 0 := by omega
          rw [pasc_left, pasc_left]
        rw [hps] at hN ⊢
        have HC1 : Hid (∀ r, r < pasc a b → F (k0 + r) = (pre ++ [68]) ++ nthL (a + b) a b r) := fun r hr => by
          rw [HF.out r (by omega), nth_D hr]
          simp
        have HNN := Lib.hid hN
        have HNE := Lib.hid hn
        clear hps hN hn
        go_enter Try.func66, Try.ntmps66
        go_wp2_with fail
        rw [strOf_snoc]
        refine (IH.out a b (pre ++ [68]) k0 _ (by have := HNE.out; omega) (by omega) (by simp; omega) (by have := HNN.out; omega) HC1.out HI.out).mono ?_
        rintro e w1 ⟨rfl, hi1⟩
        have HI1 := Lib.hid hi1
        clear hi1
        go_wp2_with fail
        go_end0
        exact ⟨rfl, HI1.out⟩
    · have hb0 : ((b : Int) == 0) = true := by simp; omega
      obtain ⟨a, rfl⟩ : ∃ a', a = a' + 1 := ⟨a - 1, by omega⟩
      have ha0 : ((a : Int) + 1 == 0) = false := by simp; omega
      have hps : pasc (a + 1) b = pasc a b := by
        obtain rfl : b = 0 := by omega
        rw [pasc_right, pasc_right]
      rw [hps] at hN ⊢
      have HC2 : Hid (∀ r, r < pasc a b → F (k0 + r) = (pre ++ [85]) ++ nthL (a + b) a b r) := fun r hr => by
        rw [HF.out r (by omega)]
        obtain rfl : b = 0 := by omega
        have := nth_U (a := a) (b := 0) (r := r)
        rw [fstN_zero, Nat.zero_add] at this
        rw [this]
        simp
      have HNN := Lib.hid hN
      have HNE := Lib.hid hn
      clear hps hN hn
      go_enter Try.func66, Try.ntmps66
      go_wp2_with fail
      rw [strOf_snoc]
      refine (IH.out a b (pre ++ [85]) k0 _ (by have := HNE.out; omega) (by omega) (by simp; omega) (by have := HNN.out; omega) HC2.out HI.out).mono ?_
      rintro e w1 ⟨rfl, hi1⟩
      have HI1 := Lib.hid hi1
      clear hi1
      go_wp2_with fail
      go_end0
      exact ⟨rfl, HI1.out⟩

theorem sumTo_mono {f g : Nat → Int} : ∀ k, (∀ j, j < k → f j ≤ g j) → sumTo f k ≤ sumTo g k
  | 0, _ => Int.le_refl _
  | k + 1, h => by
    have h1 := sumTo_mono k (fun j hj => h j (by omega))
    have h2 := h k (by omega)
    simp only [sumTo]
    omega
theorem rd_le_st (x : Sg) (c : Nat → Int) : ∀ k, rdT x c k ≤ stT x c k
  | 0 => Int.le_refl _
  | k + 1 => by simp only [stT]; omega
theorem ordS_ok {x : Sg} {k : Nat} (hs : sgOk x = true) (hk : k < pasc x.na x.nb) : stOk x (ordS x k) = true := by
  refine stOk_yes hs ?_
  have := nthFull_ord (x := x) (r := k) hk
  unfold nthFull at this
  rw [Int.toNat_natCast] at this
  exact this
theorem fW_pos {x : Sg} {k : Nat} (hs : sgOk x = true) (hk : k < pasc x.na x.nb) : 0 ≤ fW x k := by
  unfold fW
  rw [waitV_yes (ordS_ok hs hk)]
  have := sumTo_mono (f := rdT x (bt (ordS x k))) (g := stT x (bt (ordS x k))) (ordS x k).size (fun j _ => rd_le_st _ _ j)
  omega
theorem fE_pos {x : Sg} {k : Nat} (hs : sgOk x = true) (hk : k < pasc x.na x.nb) : 0 ≤ fE x k := by
  unfold fE
  have ho := ordS_ok hs hk
  by_cases h0 : (ordS x k).size = 0
  · rw [endV_zero ho h0]; omega
  · rw [endV_pos ho h0]
    have hp := stOk_parts ho
    have := stT_bd hp.1 hp.2 ((ordS x k).size - 1) (by omega)
    have := hp.1.run
    omega

def lstW (f : Nat → Int) (k : Nat) : Int := if k = 0 then -1 else f (minI f k)
theorem lst_zero (f : Nat → Int) : lstW f 0 = -1 := rfl
theorem lst_pos {f : Nat → Int} {k : Nat} (h : 0 < k) : lstW f k = f (minI f k) := if_neg (by omega)
def bstW (x : Sg) (k : Nat) : ByteArray := if k = 0 then ⟨#[]⟩ else ordS x (minI (fW x) k)
theorem bst_pos {x : Sg} {k : Nat} (h : 0 < k) : bstW x k = ordS x (minI (fW x) k) := if_neg (by omega)

/-- what SingleBest's visitor keeps -/
structure InvB (w0 : World) (x : Sg) (va vb : Value) (S L Bb k : Nat) (w : World) : Prop where
  bx : Bx w S 25 #[va, vb, .int .i64 x.run, .int .i64 x.head]
  bl : Bx w L 3 #[.int .i64 (lstW (fW x) k)]
  bb : Bx w Bb 9 #[.string (bstW x k)]
  be : Below w0.heap.size w0 w

set_option maxRecDepth 100000 in
theorem clB_any (w0 : World) (x : Sg) (va vb : Value) (S L Bb k : Nat) (w : World) (hSL : S ≠ L) (hSB : S ≠ Bb) (hLB : L ≠ Bb) (h1 : w0.heap.size ≤ L) (h2 : w0.heap.size ≤ Bb) (hs : sgOk x = true) (hk : k < pasc x.na x.nb)
    (hv : SgV w0 (.agg #[va, vb, .int .i64 x.run, .int .i64 x.head]) x) (hi : InvB w0 x va vb S L Bb k w) :
    Calls Try.prog 67 #[.string (ordS x k), .pointer (some ⟨S, 0, none⟩), .pointer (some ⟨L, 0, none⟩), .pointer (some ⟨Bb, 0, none⟩)] w fun e w' => e = .returned (.tuple #[]) ∧ InvB w0 x va vb S L Bb (k + 1) w' := by
  have hle := sgOk_le hs
  obtain ⟨hl1, hl2⟩ := hle
  have hxc := hi.bx.cell
  have hbe := hi.be.size
  have lS := hi.bx.lt
  have lL := hi.bl.lt
  have lB := hi.bb.lt
  have HI := Lib.hid hi
  have HV := Lib.hid hv
  have hwp := fW_pos hs hk
  have HS := Lib.hid hs
  clear hi hv hs
  go_enter Try.func67, Try.ntmps67
  go_wp2_with fail
  refine (implWait_any _ x _ (ordS x k) (by rw [ordS_size]; omega) (HV.out.keep HI.out.be) (by omega) (by omega)).mono ?_
  rintro e w1 ⟨rfl, hb1⟩
  have HX1 := Lib.hid (HI.out.bx.below hb1 lS)
  have HL1 := Lib.hid (HI.out.bl.below hb1 lL)
  have HB1 := Lib.hid (HI.out.bb.below hb1 lB)
  have HE1 := Lib.hid (HI.out.be.trans (hb1.mono hbe))
  have hlf := HL1.out.free
  have hbf := HB1.out.free
  have hbc := HB1.out.cell
  clear hb1 hxc
  have hwe : Hid (waitV x (ordS x k) = fW x k) := rfl
  rw [hwe.out]
  by_cases hk0 : k = 0
  · have HK0 := Lib.hid hk0
    have hlc : w1.cell? ⟨L, 0, none⟩ = some (.int .i64 (-1)) := by rw [HL1.out.cell, hk0]; rfl
    have HN : Hid (lstW (fW x) (k + 1) = fW x k ∧ bstW x (k + 1) = ordS x k) := by
      have : minI (fW x) (k + 1) = k := by rw [hk0]; rfl
      exact ⟨by rw [lst_pos (by omega), this], by rw [bst_pos (by omega), this]⟩
    clear hk0
    go_wp2_with fail
    go_end0
    exact ⟨rfl, ⟨by exact (HX1.out.setOther (by dsimp only; omega) _).setOther (by dsimp only; omega) _, by rw [HN.out.1]; exact (HL1.out.setOther (by dsimp only; omega) _).set 0 _, by rw [HN.out.2]; exact (HB1.out.set 0 _).setOther (by dsimp only; omega) _, (HE1.out.setCell (by dsimp only; omega) _).setCell (by dsimp only; omega) _⟩⟩
  · have hmk := minI_lt (f := fW x) (k := k) (by omega)
    have hpm := fW_pos HS.out (k := minI (fW x) k) (by omega)
    have hlc : w1.cell? ⟨L, 0, none⟩ = some (.int .i64 (fW x (minI (fW x) k))) := by rw [HL1.out.cell, lst_pos (by omega)]; rfl
    by_cases hc : fW x k < fW x (minI (fW x) k)
    · have HN : Hid (lstW (fW x) (k + 1) = fW x k ∧ bstW x (k + 1) = ordS x k) := by
        have := minI_yes hc
        exact ⟨by rw [lst_pos (by omega), this], by rw [bst_pos (by omega), this]⟩
      clear hk0
      go_wp2_with fail
      go_end0
      exact ⟨rfl, ⟨by exact (HX1.out.setOther (by dsimp only; omega) _).setOther (by dsimp only; omega) _, by rw [HN.out.1]; exact (HL1.out.setOther (by dsimp only; omega) _).set 0 _, by rw [HN.out.2]; exact (HB1.out.set 0 _).setOther (by dsimp only; omega) _, (HE1.out.setCell (by dsimp only; omega) _).setCell (by dsimp only; omega) _⟩⟩
    · have HN : Hid (lstW (fW x) (k + 1) = lstW (fW x) k ∧ bstW x (k + 1) = bstW x k) := by
        have := minI_no hc
        exact ⟨by rw [lst_pos (by omega), this, lst_pos (by omega)], by rw [bst_pos (by omega), this, bst_pos (by omega)]⟩
      clear hk0
      go_wp2_with fail
      go_end0
      exact ⟨rfl, ⟨HX1.out, by rw [HN.out.1]; exact HL1.out, by rw [HN.out.2]; exact HB1.out, HE1.out⟩⟩

/-- what SingleSoon's visitor keeps -/
structure InvS (w0 : World) (x : Sg) (va vb : Value) (S L k : Nat) (w : World) : Prop where
  bx : Bx w S 25 #[va, vb, .int .i64 x.run, .int .i64 x.head]
  bl : Bx w L 3 #[.int .i64 (lstW (fE x) k)]
  be : Below w0.heap.size w0 w

set_option maxRecDepth 100000 in
theorem clS_any (w0 : World) (x : Sg) (va vb : Value) (S L k : Nat) (w : World) (hSL : S ≠ L) (h1 : w0.heap.size ≤ L) (hs : sgOk x = true) (hk : k < pasc x.na x.nb)
    (hv : SgV w0 (.agg #[va, vb, .int .i64 x.run, .int .i64 x.head]) x) (hi : InvS w0 x va vb S L k w) :
    Calls Try.prog 69 #[.string (ordS x k), .pointer (some ⟨S, 0, none⟩), .pointer (some ⟨L, 0, none⟩)] w fun e w' => e = .returned (.tuple #[]) ∧ InvS w0 x va vb S L (k + 1) w' := by
  have hle := sgOk_le hs
  obtain ⟨hl1, hl2⟩ := hle
  have hxc := hi.bx.cell
  have hbe := hi.be.size
  have lS := hi.bx.lt
  have lL := hi.bl.lt
  have HI := Lib.hid hi
  have HV := Lib.hid hv
  have hwp := fE_pos hs hk
  have HS := Lib.hid hs
  clear hi hv hs
  go_enter Try.func69, Try.ntmps69
  go_wp2_with fail
  refine (implEnd_any _ x _ (ordS x k) (by rw [ordS_size]; omega) (HV.out.keep HI.out.be) (by omega) (by omega)).mono ?_
  rintro e w1 ⟨rfl, hb1⟩
  have HX1 := Lib.hid (HI.out.bx.below hb1 lS)
  have HL1 := Lib.hid (HI.out.bl.below hb1 lL)
  have HE1 := Lib.hid (HI.out.be.trans (hb1.mono hbe))
  have hlf := HL1.out.free
  clear hb1 hxc
  have hwe : Hid (endV x (ordS x k) = fE x k) := rfl
  rw [hwe.out]
  by_cases hk0 : k = 0
  · have hlc : w1.cell? ⟨L, 0, none⟩ = some (.int .i64 (-1)) := by rw [HL1.out.cell, hk0]; rfl
    have HN : Hid (lstW (fE x) (k + 1) = fE x k) := by
      have : minI (fE x) (k + 1) = k := by rw [hk0]; rfl
      show _ = _
      rw [lst_pos (by omega), this]
    clear hk0
    go_wp2_with fail
    go_end0
    exact ⟨rfl, ⟨by exact HX1.out.setOther (by dsimp only; omega) _, by rw [HN.out]; exact HL1.out.set 0 _, HE1.out.setCell (by dsimp only; omega) _⟩⟩
  · have hmk := minI_lt (f := fE x) (k := k) (by omega)
    have hpm := fE_pos HS.out (k := minI (fE x) k) (by omega)
    have hlc : w1.cell? ⟨L, 0, none⟩ = some (.int .i64 (fE x (minI (fE x) k))) := by rw [HL1.out.cell, lst_pos (by omega)]; rfl
    by_cases hc : fE x k < fE x (minI (fE x) k)
    · have HN : Hid (lstW (fE x) (k + 1) = fE x k) := by
        have := minI_yes hc
        show _ = _
        rw [lst_pos (by omega), this]
      clear hk0
      go_wp2_with fail
      go_end0
      exact ⟨rfl, ⟨by exact HX1.out.setOther (by dsimp only; omega) _, by rw [HN.out]; exact HL1.out.set 0 _, HE1.out.setCell (by dsimp only; omega) _⟩⟩
    · have HN : Hid (lstW (fE x) (k + 1) = lstW (fE x) k) := by
        have := minI_no hc
        show _ = _
        rw [lst_pos (by omega), this, lst_pos (by omega)]
      clear hk0
      go_wp2_with fail
      go_end0
      exact ⟨rfl, ⟨HX1.out, by rw [HN.out]; exact HL1.out, HE1.out⟩⟩

set_option maxRecDepth 100000 in
set_option maxHeartbeats 2000000 in
theorem implBest_any (v : Value) (x : Sg) (w : World) (hv : SgV w v x) (ha : x.na ≤ 1000000000000000) (hb : x.nb ≤ 1000000000000000) :
    Calls Try.prog 26 #[v] w fun e w' => e = .returned (.tuple #[.string (bestS x), .bool (sgOk x)]) ∧ Below w.heap.size w w' := by
  have hmf : ∀ (fn : Fn) (first cap : Array Value) (w : World), (Instr.makeFunc fn first cap).run Try.prog w = .ok (.func fn first cap) w := fun _ _ _ _ => rfl
  have hbb : ∀ a, Below w.heap.size w (w.alloc a) := fun a => (Below.refl _ _).alloc (Nat.le_refl _) _
  have hv0 := hv
  obtain ⟨ba, oa, ca, bb, ob, cb, rfl, hca, hcb⟩ := hv
  clear hca hcb
  have HV := Lib.hid hv0
  clear hv0
  go_enter Try.func26, Try.ntmps26
  go_wp2_with fail
  refine (implValid_any _ x _ (HV.out.keep (hbb _)) (by omega) (by omega)).mono ?_
  rintro e w1 ⟨rfl, hb1⟩
  rw [World.size_alloc] at hb1
  have hbox := box_cells hb1 (by omega)
  have hz1 : w.heap.size + 1 ≤ w1.heap.size := by have := hb1.size; simpa using this
  have HB1 := Lib.hid hb1
  clear hb1
  cases hs : sgOk x
  · have HS := Lib.hid hs
    clear hs
    go_wp2_with fail
    go_ret2; exact ⟨retPair (bestS_no HS.out).symm HS.out.symm, (hbb _).trans (HB1.out.mono (by omega))⟩
  have hle := sgOk_le hs
  have HS := Lib.hid hs
  obtain ⟨hl1, hl2⟩ := hle
  clear hs
  have HXX : Hid (Bx w1 w.heap.size 25 #[.slice (some ⟨ba, oa, none⟩) x.na ca, .slice (some ⟨bb, ob, none⟩) x.nb cb, .int .i64 x.run, .int .i64 x.head]) := (Bx.new w _ _).below HB1.out (by omega)
  have hP := pasc_pos x.na x.nb
  have hzl : w.heap.size < w1.heap.size := by omega
  have HI0 : Hid (InvB w x (.slice (some ⟨ba, oa, none⟩) x.na ca) (.slice (some ⟨bb, ob, none⟩) x.nb cb) w.heap.size (w1.heap.size + 1) w1.heap.size 0 ((w1.alloc (.cells #[.string ⟨#[]⟩] 9)).alloc (.cells #[.int .i64 (-1)] 3))) :=
    ⟨(HXX.out.alloc _).alloc _, Bx.newAt (by simp), (Bx.new _ _ _).alloc _, ((((hbb _).trans (HB1.out.mono (by omega))).alloc (by omega) _).alloc (by simp; omega) _)⟩
  go_wp2_with fail
  refine (ordersB_any w.heap.size (w1.heap.size + 1) w1.heap.size (fun k => nthL (x.na + x.nb) x.na x.nb k) (pasc x.na x.nb) (InvB w x (.slice (some ⟨ba, oa, none⟩) x.na ca) (.slice (some ⟨bb, ob, none⟩) x.nb cb) w.heap.size (w1.heap.size + 1) w1.heap.size)
    (fun k wk hk hi => clB_any w x _ _ w.heap.size (w1.heap.size + 1) w1.heap.size k wk (by omega) (by omega) (by omega) (by omega) (by omega) HS.out hk HV.out hi) (x.na + x.nb) x.na x.nb [] 0 _ rfl (by omega) (by simp; omega) (by omega) (fun r _ => by rw [Nat.zero_add]; rfl) HI0.out).mono ?_
  rintro e w2 ⟨rfl, hi⟩
  have hbc := hi.bb.cell
  have HE := Lib.hid hi.be
  have HBS : Hid (bstW x (0 + pasc x.na x.nb) = bestS x) := by
    show _ = _
    rw [Nat.zero_add, bst_pos (by omega), bestS_yes HS.out]
    rfl
  rw [HBS.out] at hbc
  clear hi hbox
  go_wp2_with fail
  go_ret2
  exact ⟨retPair rfl HS.out.symm, HE.out⟩

set_option maxRecDepth 100000 in
set_option maxHeartbeats 2000000 in
theorem implSoon_any (v : Value) (x : Sg) (w : World) (hv : SgV w v x) (ha : x.na ≤ 1000000000000000) (hb : x.nb ≤ 1000000000000000) :
    Calls Try.prog 29 #[v] w fun e w' => e = .returned (.int .i64 (soonV x)) ∧ Below w.heap.size w w' := by
  have hmf : ∀ (fn : Fn) (first cap : Array Value) (w : World), (Instr.makeFunc fn first cap).run Try.prog w = .ok (.func fn first cap) w := fun _ _ _ _ => rfl
  have hbb : ∀ a, Below w.heap.size w (w.alloc a) := fun a => (Below.refl _ _).alloc (Nat.le_refl _) _
  have hv0 := hv
  obtain ⟨ba, oa, ca, bb, ob, cb, rfl, hca, hcb⟩ := hv
  clear hca hcb
  have HV := Lib.hid hv0
  clear hv0
  go_enter Try.func29, Try.ntmps29
  go_wp2_with fail
  refine (implValid_any _ x _ (HV.out.keep (hbb _)) (by omega) (by omega)).mono ?_
  rintro e w1 ⟨rfl, hb1⟩
  rw [World.size_alloc] at hb1
  have hbox := box_cells hb1 (by omega)
  have hz1 : w.heap.size + 1 ≤ w1.heap.size := by have := hb1.size; simpa using this
  have HB1 := Lib.hid hb1
  clear hb1
  cases hs : sgOk x
  · have HS := Lib.hid hs
    clear hs
    go_wp2_with fail
    go_ret; exact ⟨retI (soonV_no HS.out).symm, (hbb _).trans (HB1.out.mono (by omega))⟩
  have hle := sgOk_le hs
  have HS := Lib.hid hs
  obtain ⟨hl1, hl2⟩ := hle
  clear hs
  have HXX : Hid (Bx w1 w.heap.size 25 #[.slice (some ⟨ba, oa, none⟩) x.na ca, .slice (some ⟨bb, ob, none⟩) x.nb cb, .int .i64 x.run, .int .i64 x.head]) := (Bx.new w _ _).below HB1.out (by omega)
  have hP := pasc_pos x.na x.nb
  have hzl : w.heap.size < w1.heap.size := by omega
  have HI0 : Hid (InvS w x (.slice (some ⟨ba, oa, none⟩) x.na ca) (.slice (some ⟨bb, ob, none⟩) x.nb cb) w.heap.size w1.heap.size 0 (w1.alloc (.cells #[.int .i64 (-1)] 3))) :=
    ⟨HXX.out.alloc _, Bx.new _ _ _, ((hbb _).trans (HB1.out.mono (by omega))).alloc (by omega) _⟩
  go_wp2_with fail
  refine (ordersS_any w.heap.size w1.heap.size (fun k => nthL (x.na + x.nb) x.na x.nb k) (pasc x.na x.nb) (InvS w x (.slice (some ⟨ba, oa, none⟩) x.na ca) (.slice (some ⟨bb, ob, none⟩) x.nb cb) w.heap.size w1.heap.size)
    (fun k wk hk hi => clS_any w x _ _ w.heap.size w1.heap.size k wk (by omega) (by omega) HS.out hk HV.out hi) (x.na + x.nb) x.na x.nb [] 0 _ rfl (by omega) (by simp; omega) (by omega) (fun r _ => by rw [Nat.zero_add]; rfl) HI0.out).mono ?_
  rintro e w2 ⟨rfl, hi⟩
  have hbc := hi.bl.cell
  have HE := Lib.hid hi.be
  have HBS : Hid (lstW (fE x) (0 + pasc x.na x.nb) = soonV x) := by
    show _ = _
    rw [Nat.zero_add, lst_pos (by omega), soonV_yes HS.out]
  rw [HBS.out] at hbc
  clear hi hbox
  go_wp2_with fail
  go_ret
  exact ⟨retI rfl, HE.out⟩
end Go.Proofs.Ytnhkijfibiffnaa
