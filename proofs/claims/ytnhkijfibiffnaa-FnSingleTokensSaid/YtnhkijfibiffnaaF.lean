/-
  The starts of trains in an order: the plain functions, and the walks of startsOf and SingleStarts.
-/
import Derived.Test.YtnhkijfibiffnaaE
namespace Go.Proofs.Ytnhkijfibiffnaa
open Go.RowKit

/-- the ready time of the train at place k of an order -/
def rdT (x : Sg) (c : Nat → Int) (k : Nat) : Int := if c k = 85 then x.A (cntU c k) else x.B (k - cntU c k)
theorem rdT_U {x : Sg} {c : Nat → Int} {k : Nat} (h : c k = 85) : rdT x c k = x.A (cntU c k) := if_pos h
theorem rdT_D {x : Sg} {c : Nat → Int} {k : Nat} (h : ¬ c k = 85) : rdT x c k = x.B (k - cntU c k) := if_neg h
def gapT (x : Sg) (c : Nat → Int) (k : Nat) : Int := if c (k + 1) = c k then x.head else x.run
/-- its start -/
def stT (x : Sg) (c : Nat → Int) : Nat → Int
  | 0 => rdT x c 0
  | k + 1 => max (rdT x c (k + 1)) (stT x c k + gapT x c k)

theorem rdy_bd {n : Nat} {f : Nat → Int} (h : rdy n f = true) : ∀ k, k < n → 0 ≤ f k ∧ f k ≤ 2000 := by
  have hall : ∀ k, k < n → rdB f k = true := by
    simp only [rdy, Bool.and_eq_true] at h
    exact allB_true.1 h.1
  intro k
  induction k with
  | zero =>
    intro hk
    have := inB_true.1 (hall 0 hk)
    simpa using this
  | succ k ih =>
    intro hk
    have h1 := inB_true.1 (hall (k + 1) hk)
    have h2 := ih (by omega)
    simp at h1
    omega
theorem rdy_sorted {n : Nat} {f : Nat → Int} (h : rdy n f = true) : ∀ k, k + 1 < n → f k ≤ f (k + 1) := by
  intro k hk
  have hall : ∀ k, k < n → rdB f k = true := by
    simp only [rdy, Bool.and_eq_true] at h
    exact allB_true.1 h.1
  have h1 := inB_true.1 (hall (k + 1) hk)
  simp at h1
  exact h1.1

/-- all that a valid line's numbers meet -/
structure SgB (x : Sg) : Prop where
  na : x.na ≤ 6
  nb : x.nb ≤ 6
  A : ∀ k, k < x.na → 0 ≤ x.A k ∧ x.A k ≤ 2000
  B : ∀ k, k < x.nb → 0 ≤ x.B k ∧ x.B k ≤ 2000
  run : 1 ≤ x.run ∧ x.run ≤ 100
  head : 1 ≤ x.head ∧ x.head ≤ x.run
theorem sgOk_bd {x : Sg} (h : sgOk x = true) : SgB x := by
  have hl := sgOk_le h
  simp only [sgOk, Bool.and_eq_true] at h
  exact ⟨hl.1, hl.2, rdy_bd h.1, rdy_bd h.2.1, inB_true.1 h.2.2.1, inB_true.1 h.2.2.2⟩

/-- places in an order lead to trains -/
theorem ord_places {x : Sg} {s : ByteArray} (h : ordOk x s = true) : ∀ k, k < s.size → (bt s k = 85 → cntU (bt s) k < x.na) ∧ (¬ bt s k = 85 → k - cntU (bt s) k < x.nb) := by
  obtain ⟨_, hn, hl⟩ := ordOk_true.1 h
  have hD : ∀ m j, j + cntU (bt s) (j + m) ≤ j + m + cntU (bt s) j := by
    intro m j
    induction m with
    | zero => simp
    | succ m ih =>
      have : cntU (bt s) (j + (m + 1)) ≤ cntU (bt s) (j + m) + 1 := by
        show cntU (bt s) (j + m + 1) ≤ _
        simp only [cntU]; split <;> omega
      omega
  intro k hk
  have h1 := cntU_mono (bt s) (k + 1) s.size (by omega)
  have h2 := hD (s.size - (k + 1)) (k + 1)
  have e : k + 1 + (s.size - (k + 1)) = s.size := by omega
  rw [e] at h2
  have h3 := cntU_le (bt s) k
  refine ⟨fun hU => ?_, fun hU => ?_⟩
  · rw [cntU_U hU] at h1; omega
  · rw [cntU_D hU] at h2; omega

theorem rdT_bd {x : Sg} {s : ByteArray} (hx : SgB x) (h : ordOk x s = true) (k : Nat) (hk : k < s.size) : 0 ≤ rdT x (bt s) k ∧ rdT x (bt s) k ≤ 2000 := by
  have hp := ord_places h k hk
  by_cases hU : bt s k = 85
  · rw [rdT_U hU]; exact hx.A _ (hp.1 hU)
  · rw [rdT_D hU]; exact hx.B _ (hp.2 hU)
theorem gapT_bd {x : Sg} {c : Nat → Int} (hx : SgB x) (k : Nat) : 1 ≤ gapT x c k ∧ gapT x c k ≤ 100 := by
  have h1 := hx.run
  have h2 := hx.head
  unfold gapT
  split <;> omega
theorem stT_bd {x : Sg} {s : ByteArray} (hx : SgB x) (h : ordOk x s = true) : ∀ k, k < s.size → 0 ≤ stT x (bt s) k ∧ stT x (bt s) k ≤ 2000 + 100 * k := by
  intro k
  induction k with
  | zero => intro hk; have := rdT_bd hx h 0 hk; simpa [stT] using this
  | succ k ih =>
    intro hk
    have h1 := rdT_bd hx h (k + 1) hk
    have h2 := ih (by omega)
    have h3 := gapT_bd (c := bt s) hx k
    simp only [stT]
    omega

theorem push1 {v : Value} {f : Nat → Value} {n : Nat} (h : v = f n) : ∀ j, j < 1 → [v][j]? = some (f (n * 1 + j)) := by
  intro j hj
  obtain rfl : j = 0 := by omega
  simp [h]
theorem ite_max (a b : Int) : (if a < b then b else a) = max a b := by split <;> omega
theorem retP {a b : Value} (h : a = b) : Ending.returned a = .returned b := by rw [h]


set_option maxHeartbeats 1000000 in
theorem startsOf_any (v : Value) (s : ByteArray) (x : Sg) (w : World) (hv : SgV w v x) (hs : s.size ≤ 12) (hx : SgB x) (ho : ordOk x s = true) :
    Calls Try.prog 65 #[v, .string s] w fun e w' => ∃ g1 c1 g2 c2, e = .returned (.tuple #[.slice (some ⟨g1, 0, none⟩) s.size c1, .slice (some ⟨g2, 0, none⟩) s.size c2]) ∧ w.heap.size ≤ g1 ∧ w.heap.size ≤ g2 ∧ g1 ≠ g2 ∧
      Own w' g1 c1 s.size 1 3 (fun i => .int .i64 (stT x (bt s) i)) ∧ Own w' g2 c2 s.size 1 3 (fun i => .int .i64 (rdT x (bt s) i)) ∧ Below w.heap.size w w' := by
  have hbb : ∀ a, Below w.heap.size w (w.alloc a) := fun a => (Below.refl _ _).alloc (Nat.le_refl _) _
  have HO := Lib.hid ho
  clear ho
  obtain ⟨ba, oa, ca, bb, ob, cb, rfl, hca, hcb⟩ := hv
  have hmk := fun w => run_mk0 elInt s.size (by omega) (by omega) w
  go_enter Try.func65, Try.ntmps65
  go_wp2
  go_loopw [6, 7, 8, 9, 21] (fun v6 v7 a b i wr => ∃ k g1 c1 g2 c2 : Nat, k ≤ s.size ∧ i = .int .i64 k ∧ v6 = .slice (some ⟨g1, 0, none⟩) k c1 ∧ v7 = .slice (some ⟨g2, 0, none⟩) k c2 ∧ a = .int .i64 (cntU (bt s) k) ∧ b = .int .i64 ((k - cntU (bt s) k : Nat) : Int) ∧
      w.heap.size + 1 ≤ g1 ∧ w.heap.size + 1 ≤ g2 ∧ g1 ≠ g2 ∧ Own wr g1 c1 k 1 3 (fun i => .int .i64 (stT x (bt s) i)) ∧ Own wr g2 c2 k 1 3 (fun i => .int .i64 (rdT x (bt s) i)) ∧
      Below (w.heap.size + 1) (w.alloc (.cells #[.slice (some ⟨ba, oa, none⟩) x.na ca, .slice (some ⟨bb, ob, none⟩) x.nb cb, .int .i64 x.run, .int .i64 x.head] 25)) wr)
    (fun _ _ _ _ i _ => s.size - (intOf i).toNat)
  case atStart =>
    refine ⟨0, _, _, _, _, Nat.zero_le _, rfl, rfl, rfl, rfl, rfl, by simp, by simp, by simp, ?_, ?_, ?_⟩
    · exact Own.alloc (own_at _ _ _ _ _ (by unfold maxLen; omega) (by simp)) _
    · exact own_at _ _ _ _ _ (by unfold maxLen; omega) (by simp)
    · exact ((Below.refl _ _).alloc (by simp) _).alloc (by simp) _
  case round =>
    obtain ⟨k, g1, c1, g2, c2, hk, rfl, rfl, rfl, rfl, rfl, hg1, hg2, hg12, ho1, ho2, hb⟩ := hrel
    have hbox := box_cells hb (by omega)
    have hia := hca.keep ((hbb _).trans (hb.mono (by omega)))
    have hib := hcb.keep ((hbb _).trans (hb.mono (by omega)))
    have HB := Lib.hid hb
    have H1 := Lib.hid ho1
    have H2 := Lib.hid ho2
    have hcu := cntU_le (bt s) k
    clear ho1 ho2 hb hca hcb
    by_cases hlt : k < s.size
    · have hpl := ord_places HO.out k hlt
      have hbt := bt_at hlt
      have hrb := rdT_bd hx HO.out k hlt
      by_cases hU : bt s k = 85
      · have hpa := hpl.1 hU
        have hca1 := hia _ hpa
        have HR : Hid (rdT x (bt s) k = x.A (cntU (bt s) k)) := rdT_U hU
        have hrb' : 0 ≤ x.A (cntU (bt s) k) ∧ x.A (cntU (bt s) k) ≤ 2000 := by rw [← HR.out]; exact hrb
        have HC := Lib.hid (cntU_U hU)
        have gU : (bt s k == 85) = true := by simp [hU]
        have HU := Lib.hid hU
        clear hU hpl hia hib hrb
        obtain ⟨hr0, hr1⟩ := hrb'
        by_cases hk0 : 0 < k
        · have hlast := H1.out.cell1 (i := k - 1) (by omega)
          have hlb := stT_bd hx HO.out (k - 1) (by omega)
          have hbt' := bt_at (s := s) (k := k - 1) (by omega)
          have hS : stT x (bt s) k = max (rdT x (bt s) k) (stT x (bt s) (k - 1) + gapT x (bt s) (k - 1)) := by
            obtain ⟨j, rfl⟩ : ∃ j, k = j + 1 := ⟨k - 1, by omega⟩
            rfl
          have HS := Lib.hid hS
          clear hS
          by_cases hsame : bt s k = bt s (k - 1)
          · have hG : gapT x (bt s) (k - 1) = x.head := if_pos (by rw [show k - 1 + 1 = k from by omega]; exact hsame)
            have HG := Lib.hid hG
            have gS : (bt s k == bt s (k - 1)) = true := by simp [hsame]
            have HM := Lib.hid hsame
            clear hsame hG
            have z1 := HB.out.size
            rw [World.size_alloc] at z1
            have hxr := hx.run
            have hxh := hx.head
            go_wp2_with (first
              | (at_builtin; refine wpList_pushI elInt rfl (.tmp 42) (.tmp 44) rfl H2.out rfl rfl (by rw [HR.out]) (by omega) ?_; intro g2' c2' wa HA2 hgr2 hd2; have hboxa := box_cells (HB.out.trans (below_of_grown hgr2 (by omega) (by omega))) (by omega); have HO1 := Lib.hid (H1.out.kept hgr2 (by simp; omega)); have hlasta := HO1.out.cell1 (i := k - 1) (by omega); clear hbox hlast hca1))
            go_quiet (fail)
            go_wp2_with (first
              | (at_builtin; refine wpList_pushI elInt rfl (.tmp 69) (.tmp 71) rfl (HO1.out.drewN nq) rfl rfl (by rw [HS.out, HR.out, HG.out]; exact ite_max _ _) (by omega) ?_; intro g1' c1' wb HA1 hgr1 hd1))
            have l1 := H1.out.lt
            have l2 := H2.out.lt
            have z1 := HB.out.size
            have z2 := hgr2.size
            have z3 := HA2.lt
            have z4 := hgr1.size
            rw [World.size_alloc] at z1
            simp only [World.heap_drewN] at z4 hd1
            go_roundw
            case rel => exact ⟨k + 1, g1', c1', g2', c2', by omega, by go_num, rfl, rfl, by rw [HC.out] <;> (first | rfl | go_num), by rw [HC.out]; (first | go_num | (congr 1; omega)), by omega, by omega, by omega, HA1, (HA2.drewN nq).kept hgr1 (by simp; omega), (HB.out.trans (below_of_grown hgr2 (by omega) (by omega))).trans ((below_drewN (Below.refl _ wa) nq).trans (below_of_grown hgr1 (by omega) (by simp; omega)))⟩
            case measure => simp [intOf]; omega
          · have hG : gapT x (bt s) (k - 1) = x.run := if_neg (by rw [show k - 1 + 1 = k from by omega]; exact hsame)
            have HG := Lib.hid hG
            have gS : (bt s k == bt s (k - 1)) = false := by simp [hsame]
            have HM := Lib.hid hsame
            clear hsame hG
            have z1 := HB.out.size
            rw [World.size_alloc] at z1
            have hxr := hx.run
            have hxh := hx.head
            go_wp2_with (first
              | (at_builtin; refine wpList_pushI elInt rfl (.tmp 42) (.tmp 44) rfl H2.out rfl rfl (by rw [HR.out]) (by omega) ?_; intro g2' c2' wa HA2 hgr2 hd2; have hboxa := box_cells (HB.out.trans (below_of_grown hgr2 (by omega) (by omega))) (by omega); have HO1 := Lib.hid (H1.out.kept hgr2 (by simp; omega)); have hlasta := HO1.out.cell1 (i := k - 1) (by omega); clear hbox hlast hca1))
            go_quiet (fail)
            go_wp2_with (first
              | (at_builtin; refine wpList_pushI elInt rfl (.tmp 69) (.tmp 71) rfl (HO1.out.drewN nq) rfl rfl (by rw [HS.out, HR.out, HG.out]; exact ite_max _ _) (by omega) ?_; intro g1' c1' wb HA1 hgr1 hd1))
            have l1 := H1.out.lt
            have l2 := H2.out.lt
            have z1 := HB.out.size
            have z2 := hgr2.size
            have z3 := HA2.lt
            have z4 := hgr1.size
            rw [World.size_alloc] at z1
            simp only [World.heap_drewN] at z4 hd1
            go_roundw
            case rel => exact ⟨k + 1, g1', c1', g2', c2', by omega, by go_num, rfl, rfl, by rw [HC.out] <;> (first | rfl | go_num), by rw [HC.out]; (first | go_num | (congr 1; omega)), by omega, by omega, by omega, HA1, (HA2.drewN nq).kept hgr1 (by simp; omega), (HB.out.trans (below_of_grown hgr2 (by omega) (by omega))).trans ((below_drewN (Below.refl _ wa) nq).trans (below_of_grown hgr1 (by omega) (by simp; omega)))⟩
            case measure => simp [intOf]; omega
        · have HS : Hid (stT x (bt s) k = rdT x (bt s) k) := by
            obtain rfl : k = 0 := by omega
            rfl
          go_wp2_with (first
            | (at_builtin; refine wpList_pushI elInt rfl (.tmp 42) (.tmp 44) rfl H2.out rfl rfl (by rw [HR.out]) (by omega) ?_; intro g2' c2' wa HA2 hgr2 hd2)
            | (at_builtin; refine wpList_pushI elInt rfl (.tmp 69) (.tmp 71) rfl (H1.out.kept hgr2 (by simp; omega)) rfl rfl (by rw [HS.out, HR.out]) (by omega) ?_; intro g1' c1' wb HA1 hgr1 hd1))
          have l1 := H1.out.lt
          have l2 := H2.out.lt
          have z1 := HB.out.size
          have z2 := hgr2.size
          have z3 := HA2.lt
          have z4 := hgr1.size
          rw [World.size_alloc] at z1
          go_roundw
          case rel => exact ⟨k + 1, g1', c1', g2', c2', by omega, by go_num, rfl, rfl, by rw [HC.out] <;> (first | rfl | go_num), by rw [HC.out]; (first | go_num | (congr 1; omega)), by omega, by omega, by omega, HA1, HA2.kept hgr1 (by simp; omega), (HB.out.trans (below_of_grown hgr2 (by omega) (by omega))).trans (below_of_grown hgr1 (by omega) (by omega))⟩
          case measure => simp [intOf]; omega
      · have hpa := hpl.2 hU
        have hca1 := hib _ hpa
        have HR : Hid (rdT x (bt s) k = x.B (k - cntU (bt s) k)) := rdT_D hU
        have hrb' : 0 ≤ x.B (k - cntU (bt s) k) ∧ x.B (k - cntU (bt s) k) ≤ 2000 := by rw [← HR.out]; exact hrb
        have HC := Lib.hid (cntU_D hU)
        have gU : (bt s k == 85) = false := by simp [hU]
        have HU := Lib.hid hU
        clear hU hpl hia hib hrb
        obtain ⟨hr0, hr1⟩ := hrb'
        by_cases hk0 : 0 < k
        · have hlast := H1.out.cell1 (i := k - 1) (by omega)
          have hlb := stT_bd hx HO.out (k - 1) (by omega)
          have hbt' := bt_at (s := s) (k := k - 1) (by omega)
          have hS : stT x (bt s) k = max (rdT x (bt s) k) (stT x (bt s) (k - 1) + gapT x (bt s) (k - 1)) := by
            obtain ⟨j, rfl⟩ : ∃ j, k = j + 1 := ⟨k - 1, by omega⟩
            rfl
          have HS := Lib.hid hS
          clear hS
          by_cases hsame : bt s k = bt s (k - 1)
          · have hG : gapT x (bt s) (k - 1) = x.head := if_pos (by rw [show k - 1 + 1 = k from by omega]; exact hsame)
            have HG := Lib.hid hG
            have gS : (bt s k == bt s (k - 1)) = true := by simp [hsame]
            have HM := Lib.hid hsame
            clear hsame hG
            have z1 := HB.out.size
            rw [World.size_alloc] at z1
            have hxr := hx.run
            have hxh := hx.head
            go_wp2_with (first
              | (at_builtin; refine wpList_pushI elInt rfl (.tmp 42) (.tmp 44) rfl H2.out rfl rfl (by rw [HR.out]) (by omega) ?_; intro g2' c2' wa HA2 hgr2 hd2; have hboxa := box_cells (HB.out.trans (below_of_grown hgr2 (by omega) (by omega))) (by omega); have HO1 := Lib.hid (H1.out.kept hgr2 (by simp; omega)); have hlasta := HO1.out.cell1 (i := k - 1) (by omega); clear hbox hlast hca1))
            go_quiet (fail)
            go_wp2_with (first
              | (at_builtin; refine wpList_pushI elInt rfl (.tmp 69) (.tmp 71) rfl (HO1.out.drewN nq) rfl rfl (by rw [HS.out, HR.out, HG.out]; exact ite_max _ _) (by omega) ?_; intro g1' c1' wb HA1 hgr1 hd1))
            have l1 := H1.out.lt
            have l2 := H2.out.lt
            have z1 := HB.out.size
            have z2 := hgr2.size
            have z3 := HA2.lt
            have z4 := hgr1.size
            rw [World.size_alloc] at z1
            simp only [World.heap_drewN] at z4 hd1
            go_roundw
            case rel => exact ⟨k + 1, g1', c1', g2', c2', by omega, by go_num, rfl, rfl, by rw [HC.out] <;> (first | rfl | go_num), by rw [HC.out]; (first | go_num | (congr 1; omega)), by omega, by omega, by omega, HA1, (HA2.drewN nq).kept hgr1 (by simp; omega), (HB.out.trans (below_of_grown hgr2 (by omega) (by omega))).trans ((below_drewN (Below.refl _ wa) nq).trans (below_of_grown hgr1 (by omega) (by simp; omega)))⟩
            case measure => simp [intOf]; omega
          · have hG : gapT x (bt s) (k - 1) = x.run := if_neg (by rw [show k - 1 + 1 = k from by omega]; exact hsame)
            have HG := Lib.hid hG
            have gS : (bt s k == bt s (k - 1)) = false := by simp [hsame]
            have HM := Lib.hid hsame
            clear hsame hG
            have z1 := HB.out.size
            rw [World.size_alloc] at z1
            have hxr := hx.run
            have hxh := hx.head
            go_wp2_with (first
              | (at_builtin; refine wpList_pushI elInt rfl (.tmp 42) (.tmp 44) rfl H2.out rfl rfl (by rw [HR.out]) (by omega) ?_; intro g2' c2' wa HA2 hgr2 hd2; have hboxa := box_cells (HB.out.trans (below_of_grown hgr2 (by omega) (by omega))) (by omega); have HO1 := Lib.hid (H1.out.kept hgr2 (by simp; omega)); have hlasta := HO1.out.cell1 (i := k - 1) (by omega); clear hbox hlast hca1))
            go_quiet (fail)
            go_wp2_with (first
              | (at_builtin; refine wpList_pushI elInt rfl (.tmp 69) (.tmp 71) rfl (HO1.out.drewN nq) rfl rfl (by rw [HS.out, HR.out, HG.out]; exact ite_max _ _) (by omega) ?_; intro g1' c1' wb HA1 hgr1 hd1))
            have l1 := H1.out.lt
            have l2 := H2.out.lt
            have z1 := HB.out.size
            have z2 := hgr2.size
            have z3 := HA2.lt
            have z4 := hgr1.size
            rw [World.size_alloc] at z1
            simp only [World.heap_drewN] at z4 hd1
            go_roundw
            case rel => exact ⟨k + 1, g1', c1', g2', c2', by omega, by go_num, rfl, rfl, by rw [HC.out] <;> (first | rfl | go_num), by rw [HC.out]; (first | go_num | (congr 1; omega)), by omega, by omega, by omega, HA1, (HA2.drewN nq).kept hgr1 (by simp; omega), (HB.out.trans (below_of_grown hgr2 (by omega) (by omega))).trans ((below_drewN (Below.refl _ wa) nq).trans (below_of_grown hgr1 (by omega) (by simp; omega)))⟩
            case measure => simp [intOf]; omega
        · have HS : Hid (stT x (bt s) k = rdT x (bt s) k) := by
            obtain rfl : k = 0 := by omega
            rfl
          go_wp2_with (first
            | (at_builtin; refine wpList_pushI elInt rfl (.tmp 42) (.tmp 44) rfl H2.out rfl rfl (by rw [HR.out]) (by omega) ?_; intro g2' c2' wa HA2 hgr2 hd2)
            | (at_builtin; refine wpList_pushI elInt rfl (.tmp 69) (.tmp 71) rfl (H1.out.kept hgr2 (by simp; omega)) rfl rfl (by rw [HS.out, HR.out]) (by omega) ?_; intro g1' c1' wb HA1 hgr1 hd1))
          have l1 := H1.out.lt
          have l2 := H2.out.lt
          have z1 := HB.out.size
          have z2 := hgr2.size
          have z3 := HA2.lt
          have z4 := hgr1.size
          rw [World.size_alloc] at z1
          go_roundw
          case rel => exact ⟨k + 1, g1', c1', g2', c2', by omega, by go_num, rfl, rfl, by rw [HC.out] <;> (first | rfl | go_num), by rw [HC.out]; (first | go_num | (congr 1; omega)), by omega, by omega, by omega, HA1, HA2.kept hgr1 (by simp; omega), (HB.out.trans (below_of_grown hgr2 (by omega) (by omega))).trans (below_of_grown hgr1 (by omega) (by omega))⟩
          case measure => simp [intOf]; omega
    · obtain rfl : k = s.size := by omega
      go_wp2
      go_ret2
      exact ⟨g1, c1, g2, c2, rfl, by omega, by omega, hg12, H1.out, H2.out, (hbb _).trans (HB.out.mono (by omega))⟩
end Go.Proofs.Ytnhkijfibiffnaa
