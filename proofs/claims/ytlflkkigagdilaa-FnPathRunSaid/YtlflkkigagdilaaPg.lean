/-
  Walks of the draws of runs.
-/
import Derived.Test.YtlflkkigagdilaaPd
namespace Go.Proofs.Ytlflkkigagdilaa
open Go.RowKit
attribute [local go_sem ↓] Go.wp_at_zero Go.wp_at_succ

def th3 (a b c : Int) (y : Nat) : Int := if y = 0 then a else if y = 1 then b else c
theorem th3_at {a b c : Int} {y : Nat} (h : y < 3) : (#[Value.int .i64 a, .int .i64 b, .int .i64 c] : Array Value)[y]? = some (.int .i64 (th3 a b c y)) := by
  have : y = 0 ∨ y = 1 ∨ y = 2 := by omega
  rcases this with rfl | rfl | rfl <;> rfl
theorem th3_bd {a b c : Int} (y : Nat) : th3 a b c y = a ∨ th3 a b c y = b ∨ th3 a b c y = c := by
  unfold th3
  split
  · exact .inl rfl
  · split
    · exact .inr (.inl rfl)
    · exact .inr (.inr rfl)
/-- drawn runs -/
def DRn (R M n : Nat) (w : World) (e : Ending) (w' : World) : Prop :=
  ∃ (g off c len : Nat) (f : Nat → Int), e = .returned (.slice (some ⟨g, off, none⟩) len c) ∧ IC w' g off len f ∧ w.heap.size ≤ g ∧ len ≤ n ∧ RdL w' R M ∧ w.grownBy w' (some R)
theorem ic_pick {w w' : World} {b off n R : Nat} {f : Nat → Int} (h : IC w b off n f) (hg : w.grownBy w' (some R)) (hne : b ≠ R) : IC w' b off n f := fun k hk => by
  have h1 := h k hk
  have h2 : b < w.heap.size := World.block_lt_of_cell? w ⟨b, off + k, none⟩ h1
  rw [← h1]
  exact World.cell?_of_block (w := w) (hg.block b h2 (by simpa using hne))
set_option maxRecDepth 100000 in
set_option maxHeartbeats 4000000 in
theorem l91Runs_any (R m n : Nat) (w : World) (hm : m ≤ 100000) (hn1 : 1 ≤ n) (hn2 : n ≤ 5) (hr : RdL w R m) :
    Calls Try.prog 43 #[.pointer (some ⟨R, 0, none⟩), .int .i64 n] w (DRn R (m + 10) n w) := by
  have hlR := hr.lt
  have HR0 := Lib.hid hr
  clear hr
  go_enter Try.func43, Try.ntmps43
  go_wp2_with fail
  go_loopw [5, 6] (fun so si wr => ∃ (k g c : Nat) (f : Nat → Int), k ≤ n ∧ si = .int .i64 k ∧ so = .slice (some ⟨g, 0, none⟩) k c ∧ w.heap.size ≤ g ∧ Hid (Own wr g c k 1 3 (fun i => .int .i64 (f i))) ∧ Hid (RdL wr R (m + k)) ∧ w.grownBy wr (some R)) (fun _ si _ => n - (intOf si).toNat)
  case atStart => exact ⟨0, _, _, fun _ => 0, Nat.zero_le _, rfl, rfl, Nat.le_refl _, own_empty _ _ _ _, HR0.out.alloc _, World.grownBy_alloc _ _ _⟩
  case round =>
    obtain ⟨k, g, c, f, hk, rfl, rfl, hg, HO, HR, hgr⟩ := hrel
    have HG := Lib.hid hgr
    have hz := hgr.size
    clear hgr
    by_cases hlt : k < n
    · go_wp2_with fail
      refine (pickN_any R (m + k) 12 _ (by omega) (by omega) HR.out).mono ?_
      rintro e w2 ⟨x, rfl, hx, hr2, hg2⟩
      have HR2 := Lib.hid hr2
      have HO2 := Lib.hid (HO.out.picked hg2 (by omega))
      have HG2 := Lib.hid (grownBy_trans HG.out hg2)
      have hz2 := hg2.size
      clear hr2 hg2
      go_wp2_with (at_builtin; refine wpList_pushI elInt rfl (.tmp 13) (.tmp 17) (by rfl) (f := fun i => if i = k then ((x : Int) + 1) else f i) (HO2.out.congr (fun i hi => by rw [if_neg (by omega)])) (by rfl) (by rfl) (by simp <;> omega) (by omega) ?_; intro g' c' wa HA hgr hd; have HRa := Lib.hid (HR2.out.kept hgr (by omega)); have HGa := Lib.hid (grow_new HG2.out hgr (by omega)); have hga : w.heap.size ≤ g' := (by rcases hd with h | h <;> omega); have HAa := Lib.hid HA; clear HA hgr hd)
      go_roundw
      case rel => exact ⟨k + 1, _, _, _, by omega, by go_num, rfl, hga, HAa, HRa, HGa.out⟩
      case measure => simp [intOf]; omega
    · obtain rfl : k = n := by omega
      have hk0 : (0 : Int) < k := by omega
      go_wp2_with fail
      refine (pickN_any R (m + k) 30 _ (by omega) (by omega) HR.out).mono ?_
      rintro e w2 ⟨x, rfl, hx, hr2, hg2⟩
      have HR2 := Lib.hid hr2
      have HO2 := Lib.hid (HO.out.picked hg2 (by omega))
      have HG2 := Lib.hid (grownBy_trans HG.out hg2)
      have hz2 := hg2.size
      have hc1 : k ≤ c := HO.out.1
      clear hr2 hg2
      by_cases h0 : x = 0
      · subst h0
        go_wp2_with fail
        refine (pickN_any R (m + k + 1) 3 _ (by omega) (by omega) (HR2.out.alloc _)).mono ?_
        rintro e w3 ⟨y, rfl, hy, hr3, hg3⟩
        have hgl := HO2.out.lt
        have hyc : w3.cell? ⟨w2.heap.size, y, none⟩ = some (.int .i64 (th3 0 101 100 y)) := (gcell hg3 w2.heap.size y (by simp) (by have := HR2.out.lt; omega)).trans ((box_new w2 _ _ y).trans (th3_at hy))
        have HO3 := Lib.hid ((HO2.out.alloc (.cells #[.int .i64 0, .int .i64 101, .int .i64 100] 3)).picked hg3 (by omega))
        have HR3 := Lib.hid hr3
        have HG3 := Lib.hid (grownBy_trans (grownBy_trans HG2.out (World.grownBy_alloc _ _ _)) hg3)
        have hyi1 : (0 : Int) ≤ (y : Int) := by omega
        have hyi2 : (y : Int) < 3 := by omega
        have hc0 := HO3.out.cell1 (i := 0) (by omega)
        have hf0 := HO3.out.free 0
        clear hr3 hg3
        go_wp2_with fail
        go_ret
        exact ⟨g, 0, c, k, fun i => if i = 0 then th3 0 101 100 y else f i, rfl, IC.of_own ((HO3.out.set 0 _).congr fun i _ => by split <;> rfl), hg, Nat.le_refl _, (HR3.out.mono (by omega)).set (by omega), grow_new HG3.out (grownBy_setCell _ _ _ _) (by omega)⟩
      have x0 : ((x : Int) == 0) = false := by simp; omega
      have i1 : (1 : Int) ≤ (k : Int) := by omega
      have i2 : (k : Int) ≤ (c : Int) := by omega
      by_cases h1 : x = 1
      · subst h1
        clear h0
        by_cases hc : c = 1
        · obtain rfl : k = 1 := by omega
          subst hc
          go_wp2_with fail
          go_ret
          exact ⟨g, 0, 0, 0, f, rfl, fun j hj => by omega, hg, by omega, HR2.out.mono (by omega), HG2.out⟩
        · have i3 : (1 : Int) < (c : Int) := by omega
          go_wp2_with fail
          go_ret
          exact ⟨g, 1, c - 1, k - 1, fun i => f (i + 1), rfl, ic_tail1 HO2.out, hg, by omega, HR2.out.mono (by omega), HG2.out⟩
      have x1 : ((x : Int) == 1) = false := by simp; omega
      clear h0 h1
      go_wp2_with fail
      go_ret
      exact ⟨g, 0, c, k, f, rfl, IC.of_own HO2.out, hg, Nat.le_refl _, HR2.out.mono (by omega), HG2.out⟩

/-- a drawn time and runs -/
def DRun (w : World) (e : Ending) (w' : World) : Prop :=
  ∃ (t : Int) (g off c len : Nat) (f : Nat → Int), e = .returned (.tuple #[.int .i64 t, .slice (some ⟨g, off, none⟩) len c]) ∧ (-1 ≤ t ∧ t ≤ 2000) ∧ IC w' g off len f ∧ w.heap.size ≤ g ∧ len ≤ 5 ∧ Below w.heap.size w w'
set_option maxRecDepth 100000 in
set_option maxHeartbeats 4000000 in
theorem drawRun_any (ao : Option Addr) (n c : Nat) (w : World) (hnc : n ≤ c) (hn : n ≤ 9223372036854775807) (hB : BSl w ao n) :
    Calls Try.prog 25 #[.slice ao n c] w (DRun w) := by
  go_enter Try.func25, Try.ntmps25
  go_wp2_with fail
  refine (open_any ao n c _ hn hnc hB).mono ?_
  rintro e w1 ⟨R, rfl, hR, hr1, hb1⟩
  have HB1 := Lib.hid hb1
  have HR1 := Lib.hid hr1
  have hz1 := hb1.size
  have hlR := hr1.lt
  clear hb1 hr1 hB
  go_wp2_with fail
  refine (pickN_any R 0 100 _ (by omega) (by omega) HR1.out).mono ?_
  rintro e w2 ⟨a, rfl, ha, hr2, hg2⟩
  have HR2 := Lib.hid hr2
  have HB2 := Lib.hid (HB1.out.trans (below_of_grown hg2 (by omega) hz1))
  have hz2 := hg2.size
  clear hr2 hg2
  go_wp2_with fail
  refine (pickN_any R (0 + 1) 12 _ (by omega) (by omega) HR2.out).mono ?_
  rintro e w3 ⟨u, rfl, hu, hr3, hg3⟩
  have HR3 := Lib.hid hr3
  have HB3 := Lib.hid (HB2.out.trans (below_of_grown hg3 (by omega) (by omega)))
  have hz3 := hg3.size
  clear hr3 hg3
  by_cases h0 : u = 0
  · subst h0
    go_wp2_with fail
    refine (pickN_any R (0 + 1 + 1) 3 _ (by omega) (by omega) (HR3.out.alloc _)).mono ?_
    rintro e w4 ⟨y, rfl, hy, hr4, hg4⟩
    have hyc : w4.cell? ⟨w3.heap.size, y, none⟩ = some (.int .i64 (th3 (-1) 2000 1980 y)) := (gcell hg4 w3.heap.size y (by simp) (by have := HR3.out.lt; omega)).trans ((box_new w3 _ _ y).trans (th3_at hy))
    have hyi1 : (0 : Int) ≤ (y : Int) := by omega
    have hyi2 : (y : Int) < 3 := by omega
    have HR4 := Lib.hid hr4
    have HB4 := Lib.hid ((HB3.out.alloc (by omega) _).trans (below_of_grown hg4 (by omega) (by rw [World.size_alloc]; omega)))
    have hz4 := hg4.size
    rw [World.size_alloc] at hz4
    have htb := th3_bd (a := -1) (b := 2000) (c := 1980) y
    have HT : Hid (-1 ≤ th3 (-1) 2000 1980 y ∧ th3 (-1) 2000 1980 y ≤ 2000) := by
      rcases htb with h | h | h <;> (rw [h]; exact ⟨by omega, by omega⟩)
    clear hr4 hg4 htb
    go_wp2_with fail
    refine (pickN_any R (0 + 1 + 1 + 1) 5 _ (by omega) (by omega) HR4.out).mono ?_
    rintro e w5 ⟨q, rfl, hq, hr5, hg5⟩
    have HR5 := Lib.hid hr5
    have HB5 := Lib.hid (HB4.out.trans (below_of_grown hg5 (by omega) (by omega)))
    have hz5 := hg5.size
    clear hr5 hg5 hyc
    have hnn : (1 : Int) + (q : Int) = (q : Int) + 1 := by omega
    go_wp2_with fail
    clear hnn
    rw [show (q : Int) + 1 = ((q + 1 : Nat) : Int) from by omega]
    refine (l91Runs_any R (0 + 1 + 1 + 1 + 1) (q + 1) _ (by omega) (by omega) (by omega) HR5.out).mono ?_
    rintro e w6 ⟨g, off, c6, len, f, rfl, hic, hg6, hlen, hr6, hg7⟩
    have HB6 := Lib.hid ((HB5.out).trans (below_of_grown hg7 (by omega) (by omega)))
    clear hr6 hg7
    go_wp2_with fail
    go_ret2
    exact ⟨(th3 (-1) 2000 1980 y), g, off, c6, len, f, rfl, HT.out, hic, by omega, by omega, HB6.out⟩
  · have u0 : ((u : Int) == 0) = false := by simp; omega
    have HT : Hid (-1 ≤ (a : Int) ∧ (a : Int) ≤ 2000) := ⟨by omega, by omega⟩
    clear h0
    go_wp2_with fail
    refine (pickN_any R (0 + 1 + 1) 5 _ (by omega) (by omega) HR3.out).mono ?_
    rintro e w5 ⟨q, rfl, hq, hr5, hg5⟩
    have HR5 := Lib.hid hr5
    have HB5 := Lib.hid (HB3.out.trans (below_of_grown hg5 (by omega) (by omega)))
    have hz5 := hg5.size
    clear hr5 hg5
    have hnn : (1 : Int) + (q : Int) = (q : Int) + 1 := by omega
    go_wp2_with fail
    clear hnn
    rw [show (q : Int) + 1 = ((q + 1 : Nat) : Int) from by omega]
    refine (l91Runs_any R (0 + 1 + 1 + 1) (q + 1) _ (by omega) (by omega) (by omega) HR5.out).mono ?_
    rintro e w6 ⟨g, off, c6, len, f, rfl, hic, hg6, hlen, hr6, hg7⟩
    have HB6 := Lib.hid ((HB5.out).trans (below_of_grown hg7 (by omega) (by omega)))
    clear hr6 hg7
    go_wp2_with fail
    go_ret2
    exact ⟨(a : Int), g, off, c6, len, f, rfl, HT.out, hic, by omega, by omega, HB6.out⟩
end Go.Proofs.Ytlflkkigagdilaa
