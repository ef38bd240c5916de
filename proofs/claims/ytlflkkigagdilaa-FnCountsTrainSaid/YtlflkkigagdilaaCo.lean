/-
  Counters: the walks of CountsRun, CountsPulse, CountsNet, CountsTrain, of the program and of the reference.
-/
import Derived.Test.YtlflkkigagdilaaCn
namespace Go.Proofs.Ytlflkkigagdilaa
open Go.RowKit

/-- what a list and a flag hand back -/
def IRes (ok : Bool) (n : Nat) (f : Nat → Int) (w : World) (e : Ending) (w' : World) : Prop :=
  ∃ g cap, e = .returned (.tuple #[.slice (some ⟨g, 0, none⟩) (if ok = true then n else 0) cap, .bool ok]) ∧ w.heap.size ≤ g ∧ Own w' g cap (if ok = true then n else 0) 1 3 (fun i => .int .i64 (f i)) ∧ Below w.heap.size w w'
theorem IRes.fail {ok : Bool} {n : Nat} {f : Nat → Int} {w w' : World} {g cap : Nat} (h : ok = false) (hg : w.heap.size ≤ g) (ho : Own w' g cap 0 1 3 (fun i => .int .i64 (f i))) (hb : Below w.heap.size w w') :
    IRes ok n f w (.returned (.tuple #[.slice (some ⟨g, 0, none⟩) 0 cap, .bool false])) w' := by
  subst h
  exact ⟨g, cap, rfl, hg, ho, hb⟩
theorem IRes.good {ok : Bool} {n : Nat} {f : Nat → Int} {w w' : World} {g cap : Nat} (h : ok = true) (hg : w.heap.size ≤ g) (ho : Own w' g cap n 1 3 (fun i => .int .i64 (f i))) (hb : Below w.heap.size w w') :
    IRes ok n f w (.returned (.tuple #[.slice (some ⟨g, 0, none⟩) n cap, .bool true])) w' := by
  subst h
  exact ⟨g, cap, rfl, hg, ho, hb⟩

theorem IRes.of {ok : Bool} {n N : Nat} {f : Nat → Int} {w w' : World} {g cap : Nat} (hN : N = if ok = true then n else 0) (hg : w.heap.size ≤ g) (ho : Own w' g cap N 1 3 (fun i => .int .i64 (f i))) (hb : Below w.heap.size w w') :
    IRes ok n f w (.returned (.tuple #[.slice (some ⟨g, 0, none⟩) N cap, .bool ok])) w' := by
  subst hN
  exact ⟨g, cap, rfl, hg, ho, hb⟩

/-- counts behind the first k pulses of a list -/
def runF (f ps : Nat → Int) : Nat → Nat → Int
  | 0 => f
  | k + 1 => stepC (runF f ps k) (ps k)
def runB (n : Nat) (f ps : Nat → Int) (k : Nat) : Bool := pulB n (runF f ps k) (ps k)
def runOk (n : Nat) (f : Nat → Int) (m : Nat) (ps : Nat → Int) : Bool := cntsB n f && allB m (runB n f ps)
theorem runOk_no {n m : Nat} {f ps : Nat → Int} (h : cntsB n f = false) : runOk n f m ps = false := by simp [runOk, h]
theorem runOk_at {n m k : Nat} {f ps : Nat → Int} (hk : k < m) (h : runB n f ps k = false) : runOk n f m ps = false := by unfold runOk; rw [allB_not hk h]; simp
theorem runOk_yes {n m : Nat} {f ps : Nat → Int} (h : cntsB n f = true) (h' : ∀ k, k < m → runB n f ps k = true) : runOk n f m ps = true := by unfold runOk; rw [allB_of h', h]; rfl
theorem runOk_true {n m : Nat} {f ps : Nat → Int} : runOk n f m ps = true ↔ cntsB n f = true ∧ ∀ k, k < m → runB n f ps k = true := by simp [runOk, allB_true]
theorem pulB_true {n : Nat} {f : Nat → Int} {p : Int} (h : pulB n f p = true) : atP p ≤ n ∧ cntsB n (stepC f p) = true := by simpa [pulB] using h
theorem runF_ok {n : Nat} {f ps : Nat → Int} (h : cntsB n f = true) : ∀ k, (∀ j, j < k → runB n f ps j = true) → cntsB n (runF f ps k) = true
  | 0, _ => h
  | k + 1, h' => (pulB_true (h' k (by omega))).2

set_option maxHeartbeats 1000000 in
theorem implRun_any (b off n c b' off' m c' : Nat) (f ps : Nat → Int) (w : World) (hn : n ≤ 1000000000000) (hm : m ≤ 1000000000000) (hps : ∀ k, k < m → -9223372036854775808 ≤ ps k ∧ ps k ≤ 9223372036854775807) (hc : IC w b off n f) (hp : IC w b' off' m ps) :
    Calls Try.prog 16 #[.slice (some ⟨b, off, none⟩) n c, .slice (some ⟨b', off', none⟩) m c'] w (IRes (runOk n f m ps) n (runF f ps m) w) := by
  have HC := Lib.hid hc
  have HP := Lib.hid hp
  have HS := Lib.hid hps
  clear hc hp hps
  cases h1 : cntsB n f
  · have H1 := Lib.hid h1
    clear h1
    go_enter Try.func16, Try.ntmps16
    go_wp2_with fail
    refine (implCounts_any _ _ _ _ _ _ (by omega) HC.out).mono ?_
    rintro e w' ⟨rfl, rfl⟩
    rw [H1.out]
    go_wp2_with fail
    go_ret2
    exact IRes.fail (runOk_no H1.out) (Nat.le_refl _) (own_empty _ _ _ _) ((Below.refl _ _).alloc (Nat.le_refl _) _)
  · have hb8 := cntsB_true.1 h1
    have H1 := Lib.hid h1
    obtain ⟨⟨n1, n2⟩, hb8⟩ := hb8
    clear h1 hb8
    go_enter Try.func16, Try.ntmps16
    go_wp2_with fail
    refine (implCounts_any _ _ _ _ _ _ (by omega) HC.out).mono ?_
    rintro e w' ⟨rfl, rfl⟩
    rw [H1.out]
    go_wp2_with fail
    refine (clone_any _ _ _ _ f _ (by omega) HC.out).mono ?_
    rintro e w1 ⟨g, c1, rfl, hg, ho, hb1⟩
    have HO := Lib.hid ho
    have HB := Lib.hid hb1
    clear ho hb1
    go_wp2_with fail
    go_loopw [8, 17] (fun _ i wr => ∃ k : Nat, k ≤ m ∧ i = .int .i64 k ∧ Own wr g c1 n 1 3 (fun i => .int .i64 (runF f ps k i)) ∧ (∀ j, j < k → runB n f ps j = true) ∧ Below w.heap.size w wr) (fun _ i _ => m - (intOf i).toNat)
    case atStart => exact ⟨0, Nat.zero_le _, rfl, HO.out, fun j hj => by omega, HB.out⟩
    case round =>
      obtain ⟨k, hk, rfl, how, hall, hb⟩ := hrel
      have HA := Lib.hid hall
      have HW := Lib.hid how
      have HBr := Lib.hid hb
      clear hall how hb
      have hgl := HW.out.lt
      by_cases hlt : k < m
      · have hpk := (HP.out.keep HBr.out) k hlt
        have hpr := HS.out k hlt
        have hcv := cntsB_true.1 (runF_ok H1.out k HA.out)
        have HV := Lib.hid hcv.2
        clear hcv
        go_wp2_with fail
        refine (pulsed_any g c1 n (runF f ps k) (ps k) _ ⟨n1, n2⟩ hpr HV.out HW.out).mono ?_
        rintro e w2 ⟨rfl, ho2, hg2⟩
        have HO2 := Lib.hid ho2
        have HG2 := Lib.hid hg2
        clear ho2 hg2
        cases hr : pulB n (runF f ps k) (ps k)
        · have HR := Lib.hid hr
          clear hr
          go_wp2_with fail
          go_ret2
          exact IRes.fail (runOk_at hlt HR.out) (by have := HBr.out.size; have := HG2.out.size; omega) (own_empty _ _ _ _) ((HBr.out.trans (below_of_grown HG2.out hg HBr.out.size)).alloc (by have := HBr.out.size; have := HG2.out.size; omega) _)
        · have HR := Lib.hid hr
          clear hr
          go_wp2_with fail
          go_roundw
          case rel => exact ⟨k + 1, by omega, by go_num, HO2.out HR.out, fun j hj => by
            by_cases e : j = k
            · rw [e]; exact HR.out
            · exact HA.out j (by omega), HBr.out.trans (below_of_grown HG2.out hg HBr.out.size)⟩
          case measure => simp [intOf]; omega
      · obtain rfl : k = m := by omega
        go_wp2_with fail
        go_ret2
        exact IRes.good (runOk_yes H1.out HA.out) hg HW.out HBr.out

/-- CountsPulse of the program: a run of one pulse -/
def pulOk (n : Nat) (f : Nat → Int) (p : Int) : Bool := cntsB n f && pulB n f p
theorem runOk_one (n : Nat) (f : Nat → Int) (p : Int) : runOk n f 1 (fun _ => p) = pulOk n f p := by
  unfold runOk pulOk
  congr 1
  simp [allB, runB, runF]
theorem IRes.weak {ok : Bool} {n : Nat} {f : Nat → Int} {w w0 : World} {e : Ending} {w' : World} (h : IRes ok n f w e w') (hb : Below w0.heap.size w0 w) : IRes ok n f w0 e w' := by
  obtain ⟨g, cap, he, hg, ho, hb'⟩ := h
  have := hb.size
  exact ⟨g, cap, he, by omega, ho, hb.trans (hb'.mono this)⟩
theorem IRes.shape {ok : Bool} {n : Nat} {f : Nat → Int} {w : World} {e : Ending} {w' : World} (h : IRes ok n f w e w') : ∃ v, e = .returned (.tuple #[v, .bool ok]) ∧ IRes ok n f w (.returned (.tuple #[v, .bool ok])) w' := by
  obtain ⟨g, cap, rfl, h⟩ := h
  exact ⟨_, rfl, g, cap, rfl, h⟩
theorem implPulse_any (b off n c : Nat) (f : Nat → Int) (p : Int) (w : World) (hn : n ≤ 1000000000000) (hp : -9223372036854775808 ≤ p ∧ p ≤ 9223372036854775807) (hc : IC w b off n f) :
    Calls Try.prog 23 #[.slice (some ⟨b, off, none⟩) n c, .int .i64 p] w (IRes (pulOk n f p) n (stepC f p) w) := by
  have hbb : ∀ a, Below w.heap.size w (w.alloc a) := fun a => (Below.refl _ _).alloc (Nat.le_refl _) _
  have HI : Hid (IC (w.alloc (.cells #[.int .i64 p] 3)) w.heap.size 0 1 (fun _ => p)) := fun k hk => by
    obtain rfl : k = 0 := by omega
    have hh : (w.alloc (.cells #[.int .i64 p] 3)).heap[w.heap.size]? = some (.cells #[.int .i64 p] 3 (0, 0)) := heap_alloc_new _ _
    simp only [World.cell?, hh]
    rfl
  have HC := Lib.hid hc
  have HP := Lib.hid hp
  clear hc hp
  go_enter Try.func23, Try.ntmps23
  go_wp2_with fail
  refine (implRun_any b off n c w.heap.size 0 1 1 f (fun _ => p) _ hn (by omega) (fun _ _ => HP.out) (HC.out.keep (hbb _)) HI.out).mono ?_
  intro e w' h
  rw [runOk_one] at h
  have h' := h.weak (hbb _)
  obtain ⟨N, hN⟩ : ∃ N : Nat, N = if pulOk n f p = true then n else 0 := ⟨_, rfl⟩
  obtain ⟨g, cap, he, hg, ho, hb⟩ := h'
  rw [← hN] at he ho
  subst he
  have HO := Lib.hid ho
  have HB := Lib.hid hb
  have HN := Lib.hid hN
  clear h ho hb hN
  go_wp2_with fail
  go_ret2
  exact IRes.of HN.out hg HO.out HB.out

theorem atP_minus (a : Nat) : atP (-1 - (a : Int)) = a := by unfold atP; rw [if_pos (by omega)]; omega
theorem atP_cast (a : Nat) : atP (a : Int) = a := by unfold atP; rw [if_neg (by omega)]; omega
theorem oneP_minus (a : Nat) : oneP (-1 - (a : Int)) = -1 := if_pos (by omega)
theorem oneP_cast (a : Nat) : oneP (a : Int) = 1 := if_neg (by omega)
theorem inB_at (n : Nat) (p : Int) : inB p (-1 - (n : Int)) n = decide (atP p ≤ n) := by
  unfold inB atP
  rw [Bool.eq_iff_iff]
  simp only [Bool.and_eq_true, decide_eq_true_eq]
  split <;> omega
theorem pulOk_no1 {n : Nat} {f : Nat → Int} {p : Int} (h : cntsB n f = false) : pulOk n f p = false := by simp [pulOk, h]
theorem pulOk_no2 {n : Nat} {f : Nat → Int} {p : Int} (h : ¬ atP p ≤ n) : pulOk n f p = false := by simp [pulOk, pulB_no h]
theorem pulOk_yes {n : Nat} {f : Nat → Int} {p : Int} (h : cntsB n f = true) (h' : atP p ≤ n) : pulOk n f p = cntsB n (stepC f p) := by simp [pulOk, h, pulB_yes h']

theorem own_emptyAt {w : World} {g s : Nat} {t : TypeId} {f : Nat → Value} (h : g = w.heap.size) : Own (w.alloc (.cells #[] t)) g 0 0 s t f := by subst h; exact own_empty _ _ _ _
theorem own_set2 {w : World} {g c n : Nat} {f F : Nat → Int} {a : Nat} {v1 v2 : Int} (h : Own w g c n 1 3 (fun i => .int .i64 (f i))) (e : ∀ i, i < n → (if i = a - 1 then v2 else if i = a then v1 else f i) = F i) :
    Own ((w.setCell ⟨g, a, none⟩ (.int .i64 v1)).setCell ⟨g, a - 1, none⟩ (.int .i64 v2)) g c n 1 3 (fun i => .int .i64 (F i)) :=
  ((h.set _ _).set _ _).congr fun i hi => by
    rw [← e i (by omega)]
    by_cases h1 : i = a - 1
    · rw [if_pos h1, if_pos h1]
    · rw [if_neg h1, if_neg h1]
      split <;> rfl
theorem own_set1 {w : World} {g c n : Nat} {f F : Nat → Int} {a : Nat} {v1 : Int} (h : Own w g c n 1 3 (fun i => .int .i64 (f i))) (e : ∀ i, i < n → (if i = a then v1 else f i) = F i) :
    Own (w.setCell ⟨g, a, none⟩ (.int .i64 v1)) g c n 1 3 (fun i => .int .i64 (F i)) :=
  (h.set _ _).congr fun i hi => by
    rw [← e i (by omega)]
    split <;> rfl
theorem stepC_two {f : Nat → Int} {p : Int} {a : Nat} {o v1 v2 : Int} (eA : atP p = a) (eO : oneP p = o) (ha : 0 < a) (e1 : v1 = f a + o) (e2 : v2 = f (a - 1) - o) (i : Nat) : (if i = a - 1 then v2 else if i = a then v1 else f i) = stepC f p i := by
  unfold stepC
  rw [eA, eO, e1, e2]
  by_cases h1 : i = a - 1
  · rw [if_pos h1, if_neg (by omega), if_pos (by omega), h1]; omega
  · rw [if_neg h1]
    by_cases h2 : i = a
    · rw [if_pos h2, if_pos h2, if_neg (by omega), h2]; omega
    · rw [if_neg h2, if_neg h2, if_neg (by omega)]; omega
theorem stepC_hi {f : Nat → Int} {p : Int} {a : Nat} {o v1 : Int} (eA : atP p = a) (eO : oneP p = o) (e1 : v1 = f (a - 1) - o) (i : Nat) (hi : i < a) : (if i = a - 1 then v1 else f i) = stepC f p i := by
  unfold stepC
  rw [eA, eO, e1]
  by_cases h1 : i = a - 1
  · rw [if_pos h1, if_neg (by omega), if_pos (by omega), h1]; omega
  · rw [if_neg h1, if_neg (by omega), if_neg (by omega)]; omega
theorem stepC_lo {f : Nat → Int} {p : Int} {o v1 : Int} (eA : atP p = 0) (eO : oneP p = o) (e1 : v1 = f 0 + o) (i : Nat) : (if i = 0 then v1 else f i) = stepC f p i := by
  unfold stepC
  rw [eA, eO, e1]
  by_cases h1 : i = 0
  · rw [if_pos h1, if_pos h1, if_neg (by omega), h1]; omega
  · rw [if_neg h1, if_neg h1, if_neg (by omega)]; omega
set_option maxHeartbeats 1000000 in
theorem specPulse_any (b off n c : Nat) (f : Nat → Int) (p : Int) (w : World) (hn : n ≤ 1000000000000) (hp : -9223372036854775808 ≤ p ∧ p ≤ 9223372036854775807) (hc : IC w b off n f) :
    Calls Try.prog 24 #[.slice (some ⟨b, off, none⟩) n c, .int .i64 p] w (IRes (pulOk n f p) n (stepC f p) w) := by
  have hbb : ∀ a, Below w.heap.size w (w.alloc a) := fun a => (Below.refl _ _).alloc (Nat.le_refl _) _
  have HBB := Lib.hid hbb
  have HC := Lib.hid hc
  clear hc hbb
  cases h1 : cntsB n f
  · have H1 := Lib.hid h1
    clear h1
    go_enter Try.func24, Try.ntmps24
    go_wp2_with fail
    refine (specCounts_any _ _ _ _ _ _ (by omega) HC.out).mono ?_
    rintro e w' ⟨rfl, rfl⟩
    rw [H1.out]
    go_wp2_with fail
    go_ret2
    exact IRes.fail (pulOk_no1 H1.out) (Nat.le_refl _) (own_empty _ _ _ _) (HBB.out _)
  have hb8 := cntsB_true.1 h1
  have H1 := Lib.hid h1
  obtain ⟨⟨n1, n2⟩, hb8⟩ := hb8
  have HF := Lib.hid hb8
  clear h1 hb8
  have HI := Lib.hid (inB_at n p)
  by_cases ha : atP p ≤ n
  · rw [decide_eq_true ha] at HI
    have HP := Lib.hid (pulOk_yes H1.out ha)
    rw [HP.out]
    clear HP
    by_cases hneg : p < 0
    · obtain ⟨a, rfl⟩ : ∃ a : Nat, p = -1 - (a : Int) := ⟨(-1 - p).toNat, by omega⟩
      clear hneg
      have hP : -9223372036854775808 ≤ (-1 - (a : Int) : Int) ∧ (-1 - (a : Int) : Int) ≤ 9223372036854775807 := hp
      obtain ⟨hP0, hP1⟩ := hP
      have eA : Hid (atP (-1 - (a : Int)) = a) := atP_minus a
      have eO : Hid (oneP (-1 - (a : Int)) = (-1)) := oneP_minus a
      have ha2 : a ≤ n := by rw [← eA.out]; exact ha
      clear ha hp
      have mm : -1 - (-1 - (a : Int)) = (a : Int) := by omega
      by_cases hn1 : a = n
      · obtain rfl : n = a := hn1.symm
        have hfk := HF.out (n - 1) (by omega)
        have hIn : inB (-1 - (n : Int)) (-1 - (n : Int)) n = true := HI.out
        have HIn := Lib.hid hIn
        clear hIn
        go_enter Try.func24, Try.ntmps24
        go_wp2_with fail
        refine (specCounts_any _ _ _ _ _ _ (by omega) HC.out).mono ?_
        rintro e w' ⟨rfl, rfl⟩
        rw [H1.out]
        go_wp2_with fail
        refine (l6In_any _ _ _ _).mono ?_
        rintro e w' ⟨rfl, rfl⟩
        rw [HIn.out]
        go_wp2_with (first | (at_builtin; refine wpList_app elInt rfl (.tmp 24) (.tmp 25) rfl (own_empty w 1 _ (fun i => .int .i64 (f i))) rfl ⟨b, off, none⟩ n c rfl (ic_new (HC.out.keep (HBB.out _))) (fun _ _ => rfl) (by unfold maxLen; omega) (by omega) ?_; intro g' c' wa HA hgr hd; rw [Nat.zero_add] at HA; have hfr := HA.free; have hc0 := HA.cell1 (i := n - 1) (by omega); have HA2 := Lib.hid HA; have HG := Lib.hid hgr; clear HA hgr))
        rw [World.size_alloc] at hd
        have HBw : Hid (Below w.heap.size w wa) := (HBB.out (.cells #[] 3)).trans (below_of_grown HG.out (Nat.le_refl _) (by simp))
        have hgle : w.heap.size ≤ g' := by omega
        have hgsz : w.heap.size ≤ wa.heap.size := HBw.out.size
        refine Calls.mono (specCounts_any g' 0 n c' (stepC f (-1 - (n : Int))) _ (by omega) (by exact IC.of_own (own_set1 HA2.out (fun i hi => stepC_hi eA.out eO.out (by omega) i hi)))) ?_
        rintro e w' ⟨rfl, rfl⟩
        cases hv : cntsB n (stepC f (-1 - (n : Int)))
        · have HV := Lib.hid hv
          clear hv
          go_wp2_with fail
          go_ret2
          exact IRes.fail HV.out (by (try simp [World.setCell]) <;> omega) (own_emptyAt (by simp [World.setCell])) ((HBw.out.setCell hgle _).alloc (by (try simp [World.setCell]) <;> omega) _)
        · have HV := Lib.hid hv
          clear hv
          go_wp2_with fail
          go_ret2
          exact IRes.good HV.out hgle (by exact own_set1 HA2.out (fun i hi => stepC_hi eA.out eO.out (by omega) i hi)) (HBw.out.setCell hgle _)
      · by_cases h0 : a = 0
        · obtain rfl : a = 0 := h0
          have hfk := HF.out 0 (by omega)
          show Calls Try.prog 24 #[.slice (some ⟨b, off, none⟩) n c, .int .i64 (-1)] w (IRes (cntsB n (stepC f (-1))) n (stepC f (-1)) w)
          have hIn : inB (-1) (-1 - (n : Int)) n = true := HI.out
          have HIn := Lib.hid hIn
          clear hIn
          go_enter Try.func24, Try.ntmps24
          go_wp2_with fail
          refine (specCounts_any _ _ _ _ _ _ (by omega) HC.out).mono ?_
          rintro e w' ⟨rfl, rfl⟩
          rw [H1.out]
          go_wp2_with fail
          refine (l6In_any _ _ _ _).mono ?_
          rintro e w' ⟨rfl, rfl⟩
          rw [HIn.out]
          go_wp2_with (first | (at_builtin; refine wpList_app elInt rfl (.tmp 24) (.tmp 25) rfl (own_empty w 1 _ (fun i => .int .i64 (f i))) rfl ⟨b, off, none⟩ n c rfl (ic_new (HC.out.keep (HBB.out _))) (fun _ _ => rfl) (by unfold maxLen; omega) (by omega) ?_; intro g' c' wa HA hgr hd; rw [Nat.zero_add] at HA; have hfr := HA.free; have hc0 := HA.cell1 (i := 0) (by omega); have HA2 := Lib.hid HA; have HG := Lib.hid hgr; clear HA hgr))
          rw [World.size_alloc] at hd
          have HBw : Hid (Below w.heap.size w wa) := (HBB.out (.cells #[] 3)).trans (below_of_grown HG.out (Nat.le_refl _) (by simp))
          have hgle : w.heap.size ≤ g' := by omega
          have hgsz : w.heap.size ≤ wa.heap.size := HBw.out.size
          refine Calls.mono (specCounts_any g' 0 n c' (stepC f (-1)) _ (by omega) (by exact IC.of_own (own_set1 HA2.out (fun i hi => stepC_lo eA.out eO.out (by omega) i)))) ?_
          rintro e w' ⟨rfl, rfl⟩
          cases hv : cntsB n (stepC f (-1))
          · have HV := Lib.hid hv
            clear hv
            go_wp2_with fail
            go_ret2
            exact IRes.fail HV.out (by (try simp [World.setCell]) <;> omega) (own_emptyAt (by simp [World.setCell])) ((HBw.out.setCell hgle _).alloc (by (try simp [World.setCell]) <;> omega) _)
          · have HV := Lib.hid hv
            clear hv
            go_wp2_with fail
            go_ret2
            exact IRes.good HV.out hgle (by exact own_set1 HA2.out (fun i hi => stepC_lo eA.out eO.out (by omega) i)) (HBw.out.setCell hgle _)
        · have hfk := HF.out a (by omega)
          have hfk1 := HF.out (a - 1) (by omega)
          have ha3 : a < n := by omega
          have ha0 : 0 < a := by omega
          clear hn1 h0
          have hIn : inB (-1 - (a : Int)) (-1 - (n : Int)) n = true := HI.out
          have HIn := Lib.hid hIn
          clear hIn
          go_enter Try.func24, Try.ntmps24
          go_wp2_with fail
          refine (specCounts_any _ _ _ _ _ _ (by omega) HC.out).mono ?_
          rintro e w' ⟨rfl, rfl⟩
          rw [H1.out]
          go_wp2_with fail
          refine (l6In_any _ _ _ _).mono ?_
          rintro e w' ⟨rfl, rfl⟩
          rw [HIn.out]
          go_wp2_with (first | (at_builtin; refine wpList_app elInt rfl (.tmp 24) (.tmp 25) rfl (own_empty w 1 _ (fun i => .int .i64 (f i))) rfl ⟨b, off, none⟩ n c rfl (ic_new (HC.out.keep (HBB.out _))) (fun _ _ => rfl) (by unfold maxLen; omega) (by omega) ?_; intro g' c' wa HA hgr hd; rw [Nat.zero_add] at HA; have hfr := HA.free; have hc0 := HA.cell1 (i := a) (by omega); have hc1 := HA.cell1 (i := a - 1) (by omega); have HA2 := Lib.hid HA; have HG := Lib.hid hgr; clear HA hgr))
          rw [World.size_alloc] at hd
          have HBw : Hid (Below w.heap.size w wa) := (HBB.out (.cells #[] 3)).trans (below_of_grown HG.out (Nat.le_refl _) (by simp))
          have hgle : w.heap.size ≤ g' := by omega
          have hgsz : w.heap.size ≤ wa.heap.size := HBw.out.size
          refine Calls.mono (specCounts_any g' 0 n c' (stepC f (-1 - (a : Int))) _ (by omega) (by exact IC.of_own (own_set2 HA2.out (fun i hi => stepC_two eA.out eO.out ha0 (by omega) (by omega) i)))) ?_
          rintro e w' ⟨rfl, rfl⟩
          cases hv : cntsB n (stepC f (-1 - (a : Int)))
          · have HV := Lib.hid hv
            clear hv
            go_wp2_with fail
            go_ret2
            exact IRes.fail HV.out (by (try simp [World.setCell]) <;> omega) (own_emptyAt (by simp [World.setCell])) (((HBw.out.setCell hgle _).setCell hgle _).alloc (by (try simp [World.setCell]) <;> omega) _)
          · have HV := Lib.hid hv
            clear hv
            go_wp2_with fail
            go_ret2
            exact IRes.good HV.out hgle (by exact own_set2 HA2.out (fun i hi => stepC_two eA.out eO.out ha0 (by omega) (by omega) i)) ((HBw.out.setCell hgle _).setCell hgle _)
    · obtain ⟨a, rfl⟩ : ∃ a : Nat, p = (a : Int) := ⟨p.toNat, by omega⟩
      clear hneg
      have hP : -9223372036854775808 ≤ ((a : Int) : Int) ∧ ((a : Int) : Int) ≤ 9223372036854775807 := hp
      obtain ⟨hP0, hP1⟩ := hP
      have eA : Hid (atP ((a : Int)) = a) := atP_cast a
      have eO : Hid (oneP ((a : Int)) = 1) := oneP_cast a
      have ha2 : a ≤ n := by rw [← eA.out]; exact ha
      clear ha hp
      have mm : -1 - (-1 - (a : Int)) = (a : Int) := by omega
      by_cases hn1 : a = n
      · obtain rfl : n = a := hn1.symm
        have hfk := HF.out (n - 1) (by omega)
        have hIn : inB ((n : Int)) (-1 - (n : Int)) n = true := HI.out
        have HIn := Lib.hid hIn
        clear hIn
        go_enter Try.func24, Try.ntmps24
        go_wp2_with fail
        refine (specCounts_any _ _ _ _ _ _ (by omega) HC.out).mono ?_
        rintro e w' ⟨rfl, rfl⟩
        rw [H1.out]
        go_wp2_with fail
        refine (l6In_any _ _ _ _).mono ?_
        rintro e w' ⟨rfl, rfl⟩
        rw [HIn.out]
        go_wp2_with (first | (at_builtin; refine wpList_app elInt rfl (.tmp 24) (.tmp 25) rfl (own_empty w 1 _ (fun i => .int .i64 (f i))) rfl ⟨b, off, none⟩ n c rfl (ic_new (HC.out.keep (HBB.out _))) (fun _ _ => rfl) (by unfold maxLen; omega) (by omega) ?_; intro g' c' wa HA hgr hd; rw [Nat.zero_add] at HA; have hfr := HA.free; have hc0 := HA.cell1 (i := n - 1) (by omega); have HA2 := Lib.hid HA; have HG := Lib.hid hgr; clear HA hgr))
        rw [World.size_alloc] at hd
        have HBw : Hid (Below w.heap.size w wa) := (HBB.out (.cells #[] 3)).trans (below_of_grown HG.out (Nat.le_refl _) (by simp))
        have hgle : w.heap.size ≤ g' := by omega
        have hgsz : w.heap.size ≤ wa.heap.size := HBw.out.size
        refine Calls.mono (specCounts_any g' 0 n c' (stepC f ((n : Int))) _ (by omega) (by exact IC.of_own (own_set1 HA2.out (fun i hi => stepC_hi eA.out eO.out (by omega) i hi)))) ?_
        rintro e w' ⟨rfl, rfl⟩
        cases hv : cntsB n (stepC f ((n : Int)))
        · have HV := Lib.hid hv
          clear hv
          go_wp2_with fail
          go_ret2
          exact IRes.fail HV.out (by (try simp [World.setCell]) <;> omega) (own_emptyAt (by simp [World.setCell])) ((HBw.out.setCell hgle _).alloc (by (try simp [World.setCell]) <;> omega) _)
        · have HV := Lib.hid hv
          clear hv
          go_wp2_with fail
          go_ret2
          exact IRes.good HV.out hgle (by exact own_set1 HA2.out (fun i hi => stepC_hi eA.out eO.out (by omega) i hi)) (HBw.out.setCell hgle _)
      · by_cases h0 : a = 0
        · obtain rfl : a = 0 := h0
          have hfk := HF.out 0 (by omega)
          show Calls Try.prog 24 #[.slice (some ⟨b, off, none⟩) n c, .int .i64 ((0 : Int))] w (IRes (cntsB n (stepC f ((0 : Int)))) n (stepC f ((0 : Int))) w)
          have hIn : inB ((0 : Int)) (-1 - (n : Int)) n = true := HI.out
          have HIn := Lib.hid hIn
          clear hIn
          go_enter Try.func24, Try.ntmps24
          go_wp2_with fail
          refine (specCounts_any _ _ _ _ _ _ (by omega) HC.out).mono ?_
          rintro e w' ⟨rfl, rfl⟩
          rw [H1.out]
          go_wp2_with fail
          refine (l6In_any _ _ _ _).mono ?_
          rintro e w' ⟨rfl, rfl⟩
          rw [HIn.out]
          go_wp2_with (first | (at_builtin; refine wpList_app elInt rfl (.tmp 24) (.tmp 25) rfl (own_empty w 1 _ (fun i => .int .i64 (f i))) rfl ⟨b, off, none⟩ n c rfl (ic_new (HC.out.keep (HBB.out _))) (fun _ _ => rfl) (by unfold maxLen; omega) (by omega) ?_; intro g' c' wa HA hgr hd; rw [Nat.zero_add] at HA; have hfr := HA.free; have hc0 := HA.cell1 (i := 0) (by omega); have HA2 := Lib.hid HA; have HG := Lib.hid hgr; clear HA hgr))
          rw [World.size_alloc] at hd
          have HBw : Hid (Below w.heap.size w wa) := (HBB.out (.cells #[] 3)).trans (below_of_grown HG.out (Nat.le_refl _) (by simp))
          have hgle : w.heap.size ≤ g' := by omega
          have hgsz : w.heap.size ≤ wa.heap.size := HBw.out.size
          refine Calls.mono (specCounts_any g' 0 n c' (stepC f ((0 : Int))) _ (by omega) (by exact IC.of_own (own_set1 HA2.out (fun i hi => stepC_lo eA.out eO.out (by omega) i)))) ?_
          rintro e w' ⟨rfl, rfl⟩
          cases hv : cntsB n (stepC f ((0 : Int)))
          · have HV := Lib.hid hv
            clear hv
            go_wp2_with fail
            go_ret2
            exact IRes.fail HV.out (by (try simp [World.setCell]) <;> omega) (own_emptyAt (by simp [World.setCell])) ((HBw.out.setCell hgle _).alloc (by (try simp [World.setCell]) <;> omega) _)
          · have HV := Lib.hid hv
            clear hv
            go_wp2_with fail
            go_ret2
            exact IRes.good HV.out hgle (by exact own_set1 HA2.out (fun i hi => stepC_lo eA.out eO.out (by omega) i)) (HBw.out.setCell hgle _)
        · have hfk := HF.out a (by omega)
          have hfk1 := HF.out (a - 1) (by omega)
          have ha3 : a < n := by omega
          have ha0 : 0 < a := by omega
          clear hn1 h0
          have hIn : inB ((a : Int)) (-1 - (n : Int)) n = true := HI.out
          have HIn := Lib.hid hIn
          clear hIn
          go_enter Try.func24, Try.ntmps24
          go_wp2_with fail
          refine (specCounts_any _ _ _ _ _ _ (by omega) HC.out).mono ?_
          rintro e w' ⟨rfl, rfl⟩
          rw [H1.out]
          go_wp2_with fail
          refine (l6In_any _ _ _ _).mono ?_
          rintro e w' ⟨rfl, rfl⟩
          rw [HIn.out]
          go_wp2_with (first | (at_builtin; refine wpList_app elInt rfl (.tmp 24) (.tmp 25) rfl (own_empty w 1 _ (fun i => .int .i64 (f i))) rfl ⟨b, off, none⟩ n c rfl (ic_new (HC.out.keep (HBB.out _))) (fun _ _ => rfl) (by unfold maxLen; omega) (by omega) ?_; intro g' c' wa HA hgr hd; rw [Nat.zero_add] at HA; have hfr := HA.free; have hc0 := HA.cell1 (i := a) (by omega); have hc1 := HA.cell1 (i := a - 1) (by omega); have HA2 := Lib.hid HA; have HG := Lib.hid hgr; clear HA hgr))
          rw [World.size_alloc] at hd
          have HBw : Hid (Below w.heap.size w wa) := (HBB.out (.cells #[] 3)).trans (below_of_grown HG.out (Nat.le_refl _) (by simp))
          have hgle : w.heap.size ≤ g' := by omega
          have hgsz : w.heap.size ≤ wa.heap.size := HBw.out.size
          refine Calls.mono (specCounts_any g' 0 n c' (stepC f ((a : Int))) _ (by omega) (by exact IC.of_own (own_set2 HA2.out (fun i hi => stepC_two eA.out eO.out ha0 (by omega) (by omega) i)))) ?_
          rintro e w' ⟨rfl, rfl⟩
          cases hv : cntsB n (stepC f ((a : Int)))
          · have HV := Lib.hid hv
            clear hv
            go_wp2_with fail
            go_ret2
            exact IRes.fail HV.out (by (try simp [World.setCell]) <;> omega) (own_emptyAt (by simp [World.setCell])) (((HBw.out.setCell hgle _).setCell hgle _).alloc (by (try simp [World.setCell]) <;> omega) _)
          · have HV := Lib.hid hv
            clear hv
            go_wp2_with fail
            go_ret2
            exact IRes.good HV.out hgle (by exact own_set2 HA2.out (fun i hi => stepC_two eA.out eO.out ha0 (by omega) (by omega) i)) ((HBw.out.setCell hgle _).setCell hgle _)
  · rw [decide_eq_false ha] at HI
    have HP := Lib.hid (pulOk_no2 (f := f) ha)
    clear ha
    go_enter Try.func24, Try.ntmps24
    go_wp2_with fail
    refine (specCounts_any _ _ _ _ _ _ (by omega) HC.out).mono ?_
    rintro e w' ⟨rfl, rfl⟩
    rw [H1.out]
    go_wp2_with fail
    refine (l6In_any _ _ _ _).mono ?_
    rintro e w' ⟨rfl, rfl⟩
    rw [HI.out]
    go_wp2_with fail
    go_ret2
    exact IRes.fail HP.out (Nat.le_refl _) (own_empty _ _ _ _) (HBB.out _)
end Go.Proofs.Ytlflkkigagdilaa
