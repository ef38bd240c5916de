/-
  Walks: SingleStarts of the program.
-/
import Derived.Test.YtnhkijfibiffnaaF
namespace Go.Proofs.Ytnhkijfibiffnaa
open Go.RowKit

/-- SingleStarts succeeds -/
def stOk (x : Sg) (s : ByteArray) : Bool := sgOk x && ordOk x s
/-- how many starts it gives -/
def stN (x : Sg) (s : ByteArray) : Nat := if stOk x s = true then s.size else 0
theorem stOk_no1 {x : Sg} {s : ByteArray} (h : sgOk x = false) : stOk x s = false := by simp [stOk, h]
theorem stOk_no2 {x : Sg} {s : ByteArray} (h : ordOk x s = false) : stOk x s = false := by simp [stOk, h]
theorem stOk_yes {x : Sg} {s : ByteArray} (h : sgOk x = true) (h' : ordOk x s = true) : stOk x s = true := by simp [stOk, h, h']
theorem stN_no {x : Sg} {s : ByteArray} (h : stOk x s = false) : stN x s = 0 := if_neg (by rw [h]; simp)
theorem stN_yes {x : Sg} {s : ByteArray} (h : stOk x s = true) : stN x s = s.size := if_pos h
theorem ord_len {x : Sg} {s : ByteArray} (hx : SgB x) (h : ordOk x s = true) : s.size ≤ 12 := by
  have := (ordOk_true.1 h).2.2
  have := hx.na
  have := hx.nb
  omega

/-- what SingleStarts hands back -/
def StRes (x : Sg) (s : ByteArray) (w : World) (e : Ending) (w' : World) : Prop :=
  ∃ g cap, e = .returned (.tuple #[.slice (some ⟨g, 0, none⟩) (stN x s) cap, .bool (stOk x s)]) ∧ w.heap.size ≤ g ∧ Own w' g cap (stN x s) 1 3 (fun i => .int .i64 (stT x (bt s) i)) ∧ Below w.heap.size w w'
theorem StRes.fail {x : Sg} {s : ByteArray} {w w' : World} {g cap : Nat} (h : stOk x s = false) (hg : w.heap.size ≤ g) (ho : Own w' g cap 0 1 3 (fun i => .int .i64 (stT x (bt s) i))) (hb : Below w.heap.size w w') :
    StRes x s w (.returned (.tuple #[.slice (some ⟨g, 0, none⟩) 0 cap, .bool false])) w' :=
  ⟨g, cap, by rw [stN_no h, h], hg, by rw [stN_no h]; exact ho, hb⟩
theorem StRes.good {x : Sg} {s : ByteArray} {w w' : World} {g cap : Nat} (h : stOk x s = true) (hg : w.heap.size ≤ g) (ho : Own w' g cap s.size 1 3 (fun i => .int .i64 (stT x (bt s) i))) (hb : Below w.heap.size w w') :
    StRes x s w (.returned (.tuple #[.slice (some ⟨g, 0, none⟩) s.size cap, .bool true])) w' :=
  ⟨g, cap, by rw [stN_yes h, h], hg, by rw [stN_yes h]; exact ho, hb⟩


theorem implStarts_any (v : Value) (x : Sg) (w : World) (s : ByteArray) (hs : s.size ≤ 1048576) (hv : SgV w v x) (ha : x.na ≤ 1000000000000000) (hb : x.nb ≤ 1000000000000000) :
    Calls Try.prog 21 #[v, .string s] w (StRes x s w) := by
  have hbb : ∀ a, Below w.heap.size w (w.alloc a) := fun a => (Below.refl _ _).alloc (Nat.le_refl _) _
  have hv0 := hv
  obtain ⟨ba, oa, ca, bb, ob, cb, rfl, hca, hcb⟩ := hv
  clear hca hcb
  have HV := Lib.hid hv0
  clear hv0
  go_enter Try.func21, Try.ntmps21
  go_wp2_with fail
  refine (implValid_any _ x _ (HV.out.keep (hbb _)) (by omega) (by omega)).mono ?_
  rintro e w1 ⟨rfl, hb1⟩
  rw [World.size_alloc] at hb1
  have hbox := box_cells hb1 (by omega)
  have hz1 : w.heap.size + 1 ≤ w1.heap.size := by have := hb1.size; simpa using this
  have HB1 := Lib.hid hb1
  clear hb1
  cases h1 : sgOk x
  · have H1 := Lib.hid h1
    clear h1
    go_wp2_with fail
    go_ret2
    exact StRes.fail (stOk_no1 H1.out) (by omega) (own_empty _ _ _ _) (((hbb _).trans (HB1.out.mono (by omega))).alloc (by omega) _)
  have hx := sgOk_bd h1
  have H1 := Lib.hid h1
  clear h1
  go_wp2_with fail
  refine (isOrder_any _ s x _ (HV.out.keep ((hbb _).trans (HB1.out.mono (by omega)))) hs hx.na hx.nb).mono ?_
  rintro e w2 ⟨rfl, hb2⟩
  have hz2 := hb2.size
  have HB2 := Lib.hid (HB1.out.trans (hb2.mono (by omega)))
  have hbox2 := box_cells HB2.out (by omega)
  clear hb2 hbox
  cases h2 : ordOk x s
  · have H2 := Lib.hid h2
    clear h2
    go_wp2_with fail
    go_ret2
    exact StRes.fail (stOk_no2 H2.out) (by omega) (own_empty _ _ _ _) (((hbb _).trans (HB2.out.mono (by omega))).alloc (by omega) _)
  have hlen := ord_len hx h2
  have H2 := Lib.hid h2
  clear h2
  go_wp2_with fail
  refine (startsOf_any _ s x _ (HV.out.keep ((hbb _).trans (HB2.out.mono (by omega)))) hlen hx H2.out).mono ?_
  rintro e w3 ⟨g1, c1, g2, c2, rfl, hg1, hg2, hg12, ho1, ho2, hb3⟩
  have HO1 := Lib.hid ho1
  have HB3 := Lib.hid (HB2.out.trans (hb3.mono (by omega)))
  clear ho1 ho2 hb3 hbox2
  go_wp2_with fail
  go_ret2
  exact StRes.good (stOk_yes H1.out H2.out) (by omega) HO1.out ((hbb _).trans (HB3.out.mono (by omega)))

set_option maxRecDepth 100000 in
set_option maxHeartbeats 2000000 in
theorem specStarts_any (v : Value) (x : Sg) (w : World) (s : ByteArray) (hs : s.size ≤ 1048576) (hv : SgV w v x) (ha : x.na ≤ 1000000000000000) (hb : x.nb ≤ 1000000000000000) :
    Calls Try.prog 35 #[v, .string s] w (StRes x s w) := by
  have hbb : ∀ a, Below w.heap.size w (w.alloc a) := fun a => (Below.refl _ _).alloc (Nat.le_refl _) _
  have hv0 := hv
  obtain ⟨ba, oa, ca, bb, ob, cb, rfl, hca, hcb⟩ := hv
  clear hca hcb
  have HV := Lib.hid hv0
  clear hv0
  go_enter Try.func35, Try.ntmps35
  go_wp2_with fail
  refine (specValid_any _ x _ (HV.out.keep (hbb _)) (by omega) (by omega)).mono ?_
  rintro e w1 ⟨rfl, hb1⟩
  rw [World.size_alloc] at hb1
  have hbox := box_cells hb1 (by omega)
  have hz1 : w.heap.size + 1 ≤ w1.heap.size := by have := hb1.size; simpa using this
  have HB1 := Lib.hid hb1
  clear hb1
  cases h1 : sgOk x
  · have H1 := Lib.hid h1
    clear h1
    go_wp2_with fail
    go_ret2
    exact StRes.fail (stOk_no1 H1.out) (by omega) (own_empty _ _ _ _) (((hbb _).trans (HB1.out.mono (by omega))).alloc (by omega) _)
  have hx := sgOk_bd h1
  have HOK1 := Lib.hid h1
  clear h1
  go_wp2_with fail
  refine (l8Order_any _ s x _ (HV.out.keep ((hbb _).trans (HB1.out.mono (by omega)))) hs hx.na hx.nb).mono ?_
  rintro e w2 ⟨rfl, hb2⟩
  have hz2 := hb2.size
  have HB2 := Lib.hid (HB1.out.trans (hb2.mono (by omega)))
  have hbox2 := box_cells HB2.out (by omega)
  clear hb2 hbox
  cases h2 : ordOk x s
  · have H2 := Lib.hid h2
    clear h2
    go_wp2_with fail
    go_ret2
    exact StRes.fail (stOk_no2 H2.out) (by omega) (own_empty _ _ _ _) (((hbb _).trans (HB2.out.mono (by omega))).alloc (by omega) _)
  have hlen := ord_len hx h2
  have HOK := Lib.hid h2
  clear h2
  go_wp2_with fail
  go_loopw [6, 7, 8, 9] (fun v6 a b i wr => ∃ k g1 c1 : Nat, k ≤ s.size ∧ i = .int .i64 k ∧ v6 = .slice (some ⟨g1, 0, none⟩) k c1 ∧ a = .int .i64 (cntU (bt s) k) ∧ b = .int .i64 ((k - cntU (bt s) k : Nat) : Int) ∧
      w.heap.size + 1 ≤ g1 ∧ Own wr g1 c1 k 1 3 (fun i => .int .i64 (stT x (bt s) i)) ∧
      Below (w.heap.size + 1) (w.alloc (.cells #[.slice (some ⟨ba, oa, none⟩) x.na ca, .slice (some ⟨bb, ob, none⟩) x.nb cb, .int .i64 x.run, .int .i64 x.head] 25)) wr)
    (fun _ _ _ i _ => s.size - (intOf i).toNat)
  case atStart =>
    refine ⟨0, _, _, Nat.zero_le _, rfl, rfl, rfl, rfl, by omega, own_empty _ _ _ _, HB2.out.alloc (by omega) _⟩
  case round =>
    obtain ⟨k, g1, c1, hk, rfl, rfl, rfl, rfl, hg1, ho1, hb⟩ := hrel
    have hboxr := box_cells hb (by omega)
    have HB := Lib.hid hb
    have H1 := Lib.hid ho1
    have hcu := cntU_le (bt s) k
    clear ho1 hb hbox2
    by_cases hlt : k < s.size
    · have hpl := ord_places HOK.out k hlt
      have hbt := bt_at hlt
      have hrb := rdT_bd hx HOK.out k hlt
      obtain ⟨_, _, _, _, _, _, hve, hica, hicb⟩ := HV.out
      simp only [Value.agg.injEq, Array.mk.injEq, List.cons.injEq, Value.slice.injEq, Option.some.injEq, Addr.mk.injEq, and_true, true_and] at hve
      obtain ⟨⟨⟨rfl, rfl⟩, rfl⟩, ⟨rfl, rfl⟩, rfl⟩ := hve
      by_cases hU : bt s k = 85
      · have hpa := hpl.1 hU
        have hca1 := (hica.keep ((hbb _).trans (HB.out.mono (by omega)))) _ hpa
        have HR : Hid (rdT x (bt s) k = x.A (cntU (bt s) k)) := rdT_U hU
        have hrb' : 0 ≤ x.A (cntU (bt s) k) ∧ x.A (cntU (bt s) k) ≤ 2000 := by rw [← HR.out]; exact hrb
        have HC := Lib.hid (cntU_U hU)
        have gU : (bt s k == 85) = true := by simp [hU]
        have HU := Lib.hid hU
        clear hU hpl hica hicb hrb
        obtain ⟨hr0, hr1⟩ := hrb'
        by_cases hk0 : 0 < k
        · have hlast := H1.out.cell1 (i := k - 1) (by omega)
          have hlb := stT_bd hx HOK.out (k - 1) (by omega)
          have hbt' := bt_at (s := s) (k := k - 1) (by omega)
          have hS : stT x (bt s) k = max (rdT x (bt s) k) (stT x (bt s) (k - 1) + gapT x (bt s) (k - 1)) := by
            obtain ⟨j, rfl⟩ : ∃ j, k = j + 1 := ⟨k - 1, by omega⟩
            rfl
          have HS := Lib.hid hS
          clear hS
          by_cases hsame : bt s k = bt s (k - 1)
          · have hG : gapT x (bt s) (k - 1) = x.head := if_pos (by rw [show k - 1 + 1 = k from by omega]; exact hsame)
            have HG := Lib.hid hG
            have gS : (bt s k == bt s (k - 1)) = true := by simp [hsame]
            have gS2 : (bt s k != bt s (k - 1)) = false := by simp [hsame]
            have HM := Lib.hid hsame
            clear hsame hG
            have hxr := hx.run
            have hxh := hx.head
            go_wp2_with fail
            go_quiet (fail)
            go_wp2_with fail
            go_quiet (fail)
            go_wp2_with fail
            all_goals
              go_quiet (fail)
              go_wp2_with (first
                | (at_builtin; refine wpList_pushI elInt rfl (.tmp 90) (.tmp 92) rfl (H1.out.drewN _) rfl rfl (by rw [HS.out, HR.out, HG.out]; first | exact ite_max _ _ | omega) (by omega) ?_; intro g1' c1' wb HA1 hgr1 hd1))
              have l1 := H1.out.lt
              have z1 := HB.out.size
              have z4 := hgr1.size
              rw [World.size_alloc] at z1
              simp only [World.heap_drewN] at z4 hd1
              go_roundw
              case rel => exact ⟨k + 1, g1', c1', by omega, by go_num, rfl, by rw [HC.out] <;> (first | rfl | go_num), by rw [HC.out]; (first | go_num | (congr 1; omega)), by omega, HA1, HB.out.trans ((below_drewN (Below.refl _ wr) _).trans (below_of_grown hgr1 (by omega) (by simp; omega)))⟩
              case measure => simp [intOf]; omega
          · have hG : gapT x (bt s) (k - 1) = x.run := if_neg (by rw [show k - 1 + 1 = k from by omega]; exact hsame)
            have HG := Lib.hid hG
            have gS : (bt s k == bt s (k - 1)) = false := by simp [hsame]
            have gS2 : (bt s k != bt s (k - 1)) = true := by simp [hsame]
            have HM := Lib.hid hsame
            clear hsame hG
            have hxr := hx.run
            have hxh := hx.head
            go_wp2_with fail
            go_quiet (fail)
            go_wp2_with fail
            go_quiet (fail)
            go_wp2_with fail
            all_goals
              go_quiet (fail)
              go_wp2_with (first
                | (at_builtin; refine wpList_pushI elInt rfl (.tmp 90) (.tmp 92) rfl (H1.out.drewN _) rfl rfl (by rw [HS.out, HR.out, HG.out]; first | exact ite_max _ _ | omega) (by omega) ?_; intro g1' c1' wb HA1 hgr1 hd1))
              have l1 := H1.out.lt
              have z1 := HB.out.size
              have z4 := hgr1.size
              rw [World.size_alloc] at z1
              simp only [World.heap_drewN] at z4 hd1
              go_roundw
              case rel => exact ⟨k + 1, g1', c1', by omega, by go_num, rfl, by rw [HC.out] <;> (first | rfl | go_num), by rw [HC.out]; (first | go_num | (congr 1; omega)), by omega, HA1, HB.out.trans ((below_drewN (Below.refl _ wr) _).trans (below_of_grown hgr1 (by omega) (by simp; omega)))⟩
              case measure => simp [intOf]; omega
        · have HS : Hid (stT x (bt s) k = rdT x (bt s) k) := by
            obtain rfl : k = 0 := by omega
            rfl
          have hdk : decide (0 < k) = false := by simp; omega
          go_wp2_with fail
          go_quiet (fail)
          go_wp2_with fail
          go_quiet (fail)
          go_wp2_with (first
            | (at_builtin; refine wpList_pushI elInt rfl (.tmp 90) (.tmp 92) rfl (H1.out.drewN _) rfl rfl (by rw [HS.out, HR.out]) (by omega) ?_; intro g1' c1' wb HA1 hgr1 hd1))
          have l1 := H1.out.lt
          have z1 := HB.out.size
          have z4 := hgr1.size
          rw [World.size_alloc] at z1
          simp only [World.heap_drewN] at z4 hd1
          go_roundw
          case rel => exact ⟨k + 1, g1', c1', by omega, by go_num, rfl, by rw [HC.out] <;> (first | rfl | go_num), by rw [HC.out]; (first | go_num | (congr 1; omega)), by omega, HA1, HB.out.trans ((below_drewN (Below.refl _ wr) _).trans (below_of_grown hgr1 (by omega) (by simp; omega)))⟩
          case measure => simp [intOf]; omega
      · have hpa := hpl.2 hU
        have hca1 := (hicb.keep ((hbb _).trans (HB.out.mono (by omega)))) _ hpa
        have HR : Hid (rdT x (bt s) k = x.B (k - cntU (bt s) k)) := rdT_D hU
        have hrb' : 0 ≤ x.B (k - cntU (bt s) k) ∧ x.B (k - cntU (bt s) k) ≤ 2000 := by rw [← HR.out]; exact hrb
        have HC := Lib.hid (cntU_D hU)
        have gU : (bt s k == 85) = false := by simp [hU]
        have HU := Lib.hid hU
        clear hU hpl hica hicb hrb
        obtain ⟨hr0, hr1⟩ := hrb'
        by_cases hk0 : 0 < k
        · have hlast := H1.out.cell1 (i := k - 1) (by omega)
          have hlb := stT_bd hx HOK.out (k - 1) (by omega)
          have hbt' := bt_at (s := s) (k := k - 1) (by omega)
          have hS : stT x (bt s) k = max (rdT x (bt s) k) (stT x (bt s) (k - 1) + gapT x (bt s) (k - 1)) := by
            obtain ⟨j, rfl⟩ : ∃ j, k = j + 1 := ⟨k - 1, by omega⟩
            rfl
          have HS := Lib.hid hS
          clear hS
          by_cases hsame : bt s k = bt s (k - 1)
          · have hG : gapT x (bt s) (k - 1) = x.head := if_pos (by rw [show k - 1 + 1 = k from by omega]; exact hsame)
            have HG := Lib.hid hG
            have gS : (bt s k == bt s (k - 1)) = true := by simp [hsame]
            have gS2 : (bt s k != bt s (k - 1)) = false := by simp [hsame]
            have HM := Lib.hid hsame
            clear hsame hG
            have hxr := hx.run
            have hxh := hx.head
            go_wp2_with fail
            go_quiet (fail)
            go_wp2_with fail
            go_quiet (fail)
            go_wp2_with fail
            all_goals
              go_quiet (fail)
              go_wp2_with (first
                | (at_builtin; refine wpList_pushI elInt rfl (.tmp 90) (.tmp 92) rfl (H1.out.drewN _) rfl rfl (by rw [HS.out, HR.out, HG.out]; first | exact ite_max _ _ | omega) (by omega) ?_; intro g1' c1' wb HA1 hgr1 hd1))
              have l1 := H1.out.lt
              have z1 := HB.out.size
              have z4 := hgr1.size
              rw [World.size_alloc] at z1
              simp only [World.heap_drewN] at z4 hd1
              go_roundw
              case rel => exact ⟨k + 1, g1', c1', by omega, by go_num, rfl, by rw [HC.out] <;> (first | rfl | go_num), by rw [HC.out]; (first | go_num | (congr 1; omega)), by omega, HA1, HB.out.trans ((below_drewN (Below.refl _ wr) _).trans (below_of_grown hgr1 (by omega) (by simp; omega)))⟩
              case measure => simp [intOf]; omega
          · have hG : gapT x (bt s) (k - 1) = x.run := if_neg (by rw [show k - 1 + 1 = k from by omega]; exact hsame)
            have HG := Lib.hid hG
            have gS : (bt s k == bt s (k - 1)) = false := by simp [hsame]
            have gS2 : (bt s k != bt s (k - 1)) = true := by simp [hsame]
            have HM := Lib.hid hsame
            clear hsame hG
            have hxr := hx.run
            have hxh := hx.head
            go_wp2_with fail
            go_quiet (fail)
            go_wp2_with fail
            go_quiet (fail)
            go_wp2_with fail
            all_goals
              go_quiet (fail)
              go_wp2_with (first
                | (at_builtin; refine wpList_pushI elInt rfl (.tmp 90) (.tmp 92) rfl (H1.out.drewN _) rfl rfl (by rw [HS.out, HR.out, HG.out]; first | exact ite_max _ _ | omega) (by omega) ?_; intro g1' c1' wb HA1 hgr1 hd1))
              have l1 := H1.out.lt
              have z1 := HB.out.size
              have z4 := hgr1.size
              rw [World.size_alloc] at z1
              simp only [World.heap_drewN] at z4 hd1
              go_roundw
              case rel => exact ⟨k + 1, g1', c1', by omega, by go_num, rfl, by rw [HC.out] <;> (first | rfl | go_num), by rw [HC.out]; (first | go_num | (congr 1; omega)), by omega, HA1, HB.out.trans ((below_drewN (Below.refl _ wr) _).trans (below_of_grown hgr1 (by omega) (by simp; omega)))⟩
              case measure => simp [intOf]; omega
        · have HS : Hid (stT x (bt s) k = rdT x (bt s) k) := by
            obtain rfl : k = 0 := by omega
            rfl
          have hdk : decide (0 < k) = false := by simp; omega
          go_wp2_with fail
          go_quiet (fail)
          go_wp2_with fail
          go_quiet (fail)
          go_wp2_with (first
            | (at_builtin; refine wpList_pushI elInt rfl (.tmp 90) (.tmp 92) rfl (H1.out.drewN _) rfl rfl (by rw [HS.out, HR.out]) (by omega) ?_; intro g1' c1' wb HA1 hgr1 hd1))
          have l1 := H1.out.lt
          have z1 := HB.out.size
          have z4 := hgr1.size
          rw [World.size_alloc] at z1
          simp only [World.heap_drewN] at z4 hd1
          go_roundw
          case rel => exact ⟨k + 1, g1', c1', by omega, by go_num, rfl, by rw [HC.out] <;> (first | rfl | go_num), by rw [HC.out]; (first | go_num | (congr 1; omega)), by omega, HA1, HB.out.trans ((below_drewN (Below.refl _ wr) _).trans (below_of_grown hgr1 (by omega) (by simp; omega)))⟩
          case measure => simp [intOf]; omega
    · obtain rfl : k = s.size := by omega
      go_wp2_with fail
      go_ret2
      exact StRes.good (stOk_yes HOK1.out HOK.out) (by omega) H1.out ((hbb _).trans (HB.out.mono (by omega)))
end Go.Proofs.Ytnhkijfibiffnaa
