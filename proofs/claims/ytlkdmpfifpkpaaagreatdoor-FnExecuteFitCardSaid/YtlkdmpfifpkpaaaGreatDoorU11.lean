/-
  What is proved: fnExecuteFit_proved for every slice of bytes that is read as data. This text: Ii Yl Pe LPs LPr Ym Rows2 Rows5 PFit6. No condition.
-/
import Derived.Laws.IdiomStrings
import Derived.Test.YtlkdmpfifpkpaaaGreatDoorChecked
import Derived.Laws.BitsAllLaws
import Derived.Lib.IndexLaws
import Derived.Lib.IndexBytes
import Derived.Lib.SplitLaws
import Derived.Deep.QuietTactic
import Derived.BigQuiet
import Derived.Lib.Builder
import Derived.Lib.AppendStr
import Derived.Lib.UnsafeStr
import Derived.Lib.Strings
import Derived.Lib.Slices
import Derived.Laws.Externs
import Derived.Shelf.RegionOpen
import Derived.Maps.AppendAt
import Derived.RangeFuncNested
import Derived.RangeFuncBound
import Derived.RangeFuncCalls
import Derived.RangeFuncLeaves
import Derived.RangeFuncBox
import Derived.Shelf.Abstract
import Derived.OwnWalkIn
import Derived.TacticsInMore
import Derived.LoopNIn
import Derived.LoopIn
import Derived.WalkLawsBesides
import Derived.Recover
import Derived.Defers
import Derived.Lib.SlBytesRow
import Derived.Lib.ItoaLen
import Derived.Lib.ItoaMem
import Derived.Lib.AppendIntMem
import Derived.Deep.DeepCutAuto
import Derived.OrdersIn
import Derived.OrdersHeld
import Derived.Deep.RegionHeld
import Derived.Deep.RegionWith
import Derived.Shelf.Strings.Builder1
import Derived.Shelf.Strings.Builder2
import Derived.Shelf.Strings.OnBuilder
import Derived.Shelf.Strings.BuilderF
import Derived.Shelf.Strconv.Itoa0
import Derived.Shelf.Strconv.Itoa1
import Derived.Shelf.LaysM
import Derived.Shelf.Strconv.Itoa2
import Derived.Shelf.Strconv.Itoa3
import Derived.Shelf.Strings.Search1
import Derived.Shelf.Strings.Search2
import Derived.Shelf.Strings.Search3
import Derived.Shelf.Strings.Count
import Derived.Shelf.Strings.Shaped
import Derived.Shelf.Strings.Split
import Derived.Shelf.Strings.SplitShaped
import Derived.Shelf.Unicode.DecodeSlow
import Derived.Test.YtlkdmpfifpkpaaaGreatDoorProg
import Derived.WalkKit
import Derived.WalkSpells
import Derived.Lib.Hide
import Derived.Deep.RegionHeld3
import Derived.Deep.DeepFit
import Derived.Deep.DrawnRows
import Derived.StillTailTactics
import Derived.Test.YtlkdmpfifpkpaaaGreatDoorRows
import Derived.ProofKit
import Derived.OpenShut
import Derived.JoinedCond
import Derived.Lib.SmallJoins
import Derived.Test.YtlkdmpfifpkpaaaGreatDoorCards
import Derived.Test.YtlkdmpfifpkpaaaGreatDoorTie
import Derived.LaidMore
import Derived.LaidSub
import Derived.Lay
import Derived.SevenTiedAt
import Derived.Stop.Joined
import Derived.Shelf.Vars
import Derived.Lib.LaidTab
import Derived.Test.YtlkdmpfifpkpaaaGreatDoorU01
import Derived.Test.YtlkdmpfifpkpaaaGreatDoorU02
import Derived.Test.YtlkdmpfifpkpaaaGreatDoorU03
import Derived.Test.YtlkdmpfifpkpaaaGreatDoorU04
import Derived.Test.YtlkdmpfifpkpaaaGreatDoorU05
import Derived.Test.YtlkdmpfifpkpaaaGreatDoorU06
import Derived.Test.YtlkdmpfifpkpaaaGreatDoorU07
import Derived.Test.YtlkdmpfifpkpaaaGreatDoorU08
import Derived.Test.YtlkdmpfifpkpaaaGreatDoorU09
import Derived.Test.YtlkdmpfifpkpaaaGreatDoorU10
namespace Go.Proofs.YtlkdmpfifpkpaaaGreatDoor
open Go.RowKit

theorem jn_next (tx : Nat → ByteArray) {j : Nat} (h : 0 < j) : jnT tx (j + 1) = jnT tx j ++ ⟨#[32]⟩ ++ tx j := ba_ext (by rw [jn_snoc tx j h]; simp)
theorem jn_first (tx : Nat → ByteArray) {j : Nat} (h : ¬ 0 < j) : jnT tx (j + 1) = jnT tx j ++ tx j := by
  obtain rfl : j = 0 := by omega
  have h0 : jnT tx 0 = ⟨#[]⟩ := rfl
  rw [h0]
  refine ba_ext ?_
  unfold jnT
  show (Lib.join [_] [32]).toArray.toList = _
  rw [Lib.join_one, List.toList_toArray]
  simp
set_option linter.unusedSimpArgs false in
set_option maxRecDepth 100000 in
set_option maxHeartbeats 4000000 in
theorem lspaced_any (b off n c : Nat) (f : Nat → Int) (w : World) (hn : n ≤ 1000) (hf : ∀ k, k < n → 0 ≤ f k ∧ f k ≤ 1000000) (h : IC w b off n f) :
    Calls Tryz.prog 20 #[.slice (some ⟨b, off, none⟩) n c] w fun e w' => e = .returned (.string (spT f n)) ∧ Below w.heap.size w w' := by
  have HF := Lib.hid hf
  have HC := Lib.hid h
  have HB0 : Hid (Below w.heap.size w w) := Below.refl _ _
  have HTX : Hid (∀ k, jnT (fun i => itT (f i)) k = spT f k) := fun _ => rfl
  clear hf h
  go_enter Tryz.func20, Tryz.ntmps20
  go_wp2_with fail
  go_loopw [3, 4] (fun o i wr => ∃ j : Nat, j ≤ n ∧ i = .int .i64 j ∧ o = .string (spT f j) ∧ Hid (Below w.heap.size w wr)) (fun _ i _ => n - (intOf i).toNat)
  case atStart => exact ⟨0, Nat.zero_le _, rfl, rfl, HB0⟩
  case round =>
    obtain ⟨j, hj, rfl, rfl, HBR⟩ := hrel
    by_cases hlt : j < n
    · have hji : (j : Int) < (n : Int) := by omega
      have hck := (HC.out.keep HBR.out).at j hlt
      have hfj := HF.out j hlt
      have hss : (spT f j).size ≤ 100000 := by
        have h1 := jn_size (tx := fun i => itT (f i)) (n := j) (B := 21) (fun i hi => by have := HF.out i (by omega); exact itT_size _ (by omega) (by omega))
        show (jnT _ _).size ≤ _
        omega
      have hts := itT_size (f j) (by omega) (by omega)
      have HN1 : Hid (0 < j → spT f (j + 1) = spT f j ++ ⟨#[32]⟩ ++ itT (f j)) := fun h => jn_next (fun i => itT (f i)) h
      have HN0 : Hid (¬ 0 < j → spT f (j + 1) = spT f j ++ itT (f j)) := fun h => jn_first (fun i => itT (f i)) h
      have HDG : Hid (∀ W, Calls Tryz.prog 19 #[.int .i64 (f j)] W fun e w' => e = .returned (.string (itT (f j))) ∧ Below W.heap.size W w') := fun W => digits_val _ W hfj.1 hfj.2
      clear hfj
      generalize f j = fj at *
      generalize itT fj = tt at *
      generalize spT f j = ss at *
      by_cases h0 : 0 < j
      · have h0i : (0 : Int) < (j : Int) := by omega
        have HNN := Lib.hid (HN1.out h0)
        go_wp2_with fail
        refine (HDG.out _).mono ?_
        rintro e wd ⟨rfl, hbd⟩
        have HBD := Lib.hid (HBR.out.trans (hbd.mono HBR.out.size))
        clear hbd hck
        go_wp2_with fail
        go_roundw
        case rel => exact ⟨j + 1, by omega, by go_num, by rw [HNN.out], HBD⟩
        case measure => simp [intOf]; omega
      · have h0i : ¬ (0 : Int) < (j : Int) := by omega
        have HNN := Lib.hid (HN0.out h0)
        go_wp2_with fail
        refine (HDG.out _).mono ?_
        rintro e wd ⟨rfl, hbd⟩
        have HBD := Lib.hid (HBR.out.trans (hbd.mono HBR.out.size))
        clear hbd hck
        go_wp2_with fail
        go_roundw
        case rel => exact ⟨j + 1, by omega, by go_num, by rw [HNN.out], HBD⟩
        case measure => simp [intOf]; omega
    · obtain rfl : j = n := by omega
      go_wp2_with fail
      go_ret
      exact ⟨rfl, HBR.out⟩
end Go.Proofs.YtlkdmpfifpkpaaaGreatDoor
namespace Go.Proofs.YtlkdmpfifpkpaaaGreatDoor
open Go.RowKit

set_option maxRecDepth 100000 in
theorem it_small : ∀ n : Fin 2001, (decide (nmF (itT (n.val : Int)) = (n.val : Int)) && (itT (n.val : Int)).data.toList.all fun c => decide (48 ≤ c) && decide (c ≤ 57)) = true := by decide +kernel
theorem it_nm {n : Int} (h0 : 0 ≤ n) (h1 : n ≤ 2000) : nmF (itT n) = n ∧ ∀ c, c ∈ (itT n).data.toList → 48 ≤ c ∧ c ≤ 57 := by
  obtain ⟨n, rfl⟩ := Int.eq_ofNat_of_zero_le h0
  have h := it_small ⟨n, by omega⟩
  rw [Bool.and_eq_true, decide_eq_true_eq, List.all_eq_true] at h
  exact ⟨h.1, fun c hc => by have := h.2 c hc; rw [Bool.and_eq_true, decide_eq_true_eq, decide_eq_true_eq] at this; exact this⟩
theorem it_no {n : Int} (h0 : 0 ≤ n) (h1 : n ≤ 2000) : (32 : UInt8) ∉ (itT n).data.toList ∧ (10 : UInt8) ∉ (itT n).data.toList :=
  ⟨fun h => absurd ((it_nm h0 h1).2 _ h) (by decide), fun h => absurd ((it_nm h0 h1).2 _ h) (by decide)⟩
theorem spB_join : ∀ (xs : List (List UInt8)), xs ≠ [] → (∀ x, x ∈ xs → (32 : UInt8) ∉ x) → spB 32 (Lib.join xs [32]) = xs
  | [], h, _ => absurd rfl h
  | [x], _, h => by rw [Lib.join_one]; exact spB_free (h x (by simp))
  | x :: y :: r, _, h => by
    have ih := spB_join (y :: r) (by simp) (fun z hz => h z (List.mem_cons_of_mem _ hz))
    have e : Lib.join (x :: y :: r) [32] = x ++ 32 :: Lib.join (y :: r) [32] := by
      rw [Lib.join_cons, Lib.join_cons]
      simp [Lib.joinTail]
    rw [e, spB_app _ (h x (by simp)), ih]
theorem join_two (x y : List UInt8) (r : List (List UInt8)) : Lib.join (x :: y :: r) [32] = x ++ 32 :: Lib.join (y :: r) [32] := by
  rw [Lib.join_cons, Lib.join_cons]
  simp [Lib.joinTail]
theorem join_free : ∀ (xs : List (List UInt8)), (∀ x, x ∈ xs → (10 : UInt8) ∉ x) → (10 : UInt8) ∉ Lib.join xs [32]
  | [], _ => by simp [Lib.join_nil]
  | [x], h => by rw [Lib.join_one]; exact h x (by simp)
  | x :: y :: r, h => by
    have ih := join_free (y :: r) (fun z hz => h z (List.mem_cons_of_mem _ hz))
    rw [join_two]
    intro hm
    rcases List.mem_append.1 hm with hm | hm
    · exact h x (by simp) hm
    · rcases List.mem_cons.1 hm with hm | hm
      · exact absurd hm (by decide)
      · exact ih hm
/-- lines on a session with its paths -/
def StpP : Ses × List Pt → List (ByteArray × ByteArray) → Ses × List Pt → Prop
  | st, [], st' => st = st'
  | st, y :: r, st' => ∃ st1 : Ses × List Pt, AnsP st.1 st.2 y.1 st1.1 st1.2 y.2 ∧ StpP st1 r st'
theorem StpP.fn : ∀ {a : List (ByteArray × ByteArray)} {st st' : Ses × List Pt}, StpP st a st' → ∃ sts : Nat → Ses × List Pt, sts 0 = st ∧ sts a.length = st' ∧ ∀ k y, a[k]? = some y → AnsP (sts k).1 (sts k).2 y.1 (sts (k + 1)).1 (sts (k + 1)).2 y.2
  | [], st, st', h => ⟨fun _ => st, rfl, h, fun k y hy => by simp at hy⟩
  | y :: r, st, st', ⟨s1, h1, h2⟩ => by
    obtain ⟨sts, e0, en, hs⟩ := h2.fn
    refine ⟨fun k => match k with | 0 => st | k + 1 => sts k, rfl, en, fun k z hz => ?_⟩
    match k with
    | 0 =>
      have hz2 : y = z := by simpa using hz
      subst hz2
      show AnsP st.1 st.2 y.1 (sts 0).1 (sts 0).2 y.2
      rw [e0]
      exact h1
    | k + 1 => exact hs k z (by simpa using hz)
theorem executeP_stp (t : ByteArray) (m : Int) (w : World) (a : List (ByteArray × ByteArray)) (st : Ses) (ps : List Pt) (hsz : t.size ≤ 500) (hW : WF m w) (ht : t.data.toList = lnsB (a.map (·.1.data.toList))) (hf : ∀ y, y ∈ a → (10 : UInt8) ∉ y.1.data.toList) (ho : ∀ y, y ∈ a → y.2.size ≤ 1000000)
    (hs : StpP (ses0, []) a (st, ps)) (hm : st.x.m < 100) (hp : ps.length < 100) :
    Calls Tryz.prog 11 #[.string t] w fun e w' => e = .returned (.string ⟨(sayL a ++ (exT st.x.m ps.length).data.toList).toArray⟩) ∧ Below w.heap.size w w' := by
  obtain ⟨sts, e0, en, hst⟩ := hs.fn
  have hl : lnT t = a.map (·.1) ++ [⟨#[]⟩] := lnT_of (by rw [ht, List.map_map]; rfl) (fun l hl => by
    obtain ⟨y, hy, rfl⟩ := List.mem_map.1 hl
    exact hf y hy)
  have hlen : (lnT t).length - 1 = a.length := by rw [hl]; simp
  have q := executeP_of t m w hsz hW (fun k => (sts k).1) (fun k => (sts k).2) (fun k => ((a[k]?).map (·.2)).getD ⟨#[]⟩) (by rw [e0]) (by rw [e0]) (fun k => ?_) (fun k hk => ?_) (by rw [hlen, en]; exact hm) (by rw [hlen, en]; exact hp)
  · rw [hlen, en, exO_say a _ (fun k y hy => by simp [hy]) a.length (Nat.le_refl _), List.take_length] at q
    exact q
  · cases hk : a[k]? with
    | none => exact Nat.zero_le _
    | some y => exact ho y (List.mem_of_getElem? hk)
  · have hk2 : k < a.length := by omega
    have h1 := hst k a[k] (List.getElem?_eq_getElem hk2)
    have e1 : lnI t k = a[k].1 := by
      unfold lnI
      rw [hl, List.getElem?_append_left (by simpa using hk2)]
      simp [hk2]
    rw [e1]
    simpa [hk2] using h1
theorem ansP_line {st : Ses} {ps : List Pt} {t : ByteArray} {y : Ln} (ht : t.size ≤ 1000) (hc : cmdK (wd0 t) (wdL t).length = 0) (hl : (wdL t).length = 3) (hn : nwO (nmF (wdI t 1)) (nmF (wdI t 2)) = some y) : AnsP st ps t { x := y, tm := 0, ms := [], ts := [] } [] okT :=
  AnsP.of_new fun pa pc => by
    have h := ans_line (st := { st with pa := pa, pn := ps.length, pc := pc }) ht hc hl
    have e1 : lwS { st with pa := pa, pn := ps.length, pc := pc } (wdI t 1) (wdI t 2) = { x := y, tm := 0, ms := [], ts := [] } := by unfold lwS; rw [hn]
    have e2 : lwO (wdI t 1) (wdI t 2) = okT := by unfold lwO; rw [hn]
    rw [e1, e2] at h
    exact h
def fitT : ByteArray := ⟨#[102, 105, 116]⟩
def buT : ByteArray := ⟨#[98, 117, 115, 121, 32, 48]⟩
def fitX (t : Int) (f : Nat → Int) (n : Nat) : ByteArray := ⟨#[102, 105, 116, 32]⟩ ++ itT t ++ ⟨#[32]⟩ ++ spT f n
theorem fitX_w {t : Int} {f : Nat → Int} {n : Nat} (ht : 0 ≤ t ∧ t ≤ 2000) (hn : 0 < n) (hf : ∀ k, k < n → 0 ≤ f k ∧ f k ≤ 2000) : wdL (fitX t f n) = fitT :: itT t :: (List.range n).map fun i => itT (f i) := by
  refine wdL_of ?_
  have e : (fitX t f n).data.toList = [102, 105, 116] ++ 32 :: ((itT t).data.toList ++ 32 :: Lib.join ((List.range n).map fun i => (itT (f i)).data.toList) [32]) := by
    simp [fitX, spT, jnT]
  rw [e, spB_app _ (by decide), spB_app _ (it_no ht.1 ht.2).1, spB_join _ (by intro h; have := congrArg List.length h; simp at this; omega) (fun x hx => by
    simp only [List.mem_map, List.mem_range] at hx
    obtain ⟨i, hi, rfl⟩ := hx
    exact (it_no (hf i hi).1 (hf i hi).2).1)]
  simp [fitT]
theorem cm_fit (n : Nat) : cmdK fitT n = 7 := by
  have h : ixC fitT = 7 := by decide +kernel
  unfold cmdK
  rw [h]
  exact if_pos ⟨by omega, .inl (by decide)⟩
theorem cm_bu : cmdK ⟨#[98, 117, 115, 121]⟩ 2 = 8 := by decide +kernel
theorem buT_w : wdL buT = [⟨#[98, 117, 115, 121]⟩, ⟨#[48]⟩] := wdL_of (by decide)
theorem frB_nil (k : Nat) (t r : Int) : frB [] k t r = true := rfl
/-- fitting where no paths are -/
theorem fitL_nil {f F : Nat → Int} {t : Int} {n : Nat} (hF : ∀ k, k < n → F k = f k) (hf : ∀ k, k < n → 1 ≤ f k ∧ f k ≤ 100) (hs : ∀ k, k < n → t + sumTo f (k + 1) ≤ 2000) : ∀ k, k ≤ n → fitL [] F t k = some ((List.range k).map fun i => t + sumTo f i)
  | 0, _ => rfl
  | k + 1, hk => by
    have ih := fitL_nil hF hf hs k (by omega)
    have hr : rdyT t F ((List.range k).map fun i => t + sumTo f i) = t + sumTo f k := by
      cases k with
      | zero => simp [rdyT, sumTo]
      | succ j =>
        rw [List.range_succ, List.map_append, List.map_cons, List.map_nil, rdyT_snoc, List.length_map, List.length_range, hF j (by omega)]
        show t + sumTo f j + f j = t + (sumTo f j + f j)
        omega
    have h1 := hf k (by omega)
    have h2 := hs k (by omega)
    have h3 : sumTo f (k + 1) = sumTo f k + f k := rfl
    rw [fitL_next ih (u := t + sumTo f k) (by rw [hr, hF k (by omega)]; exact frO_here (by omega) (by omega) (frB_nil _ _ _)), List.range_succ, List.map_append]
    rfl
theorem runOk_bd {t : Int} {f : Nat → Int} {n : Nat} (hok : runOk t f n = true) : (1 ≤ n ∧ n ≤ 5) ∧ (0 ≤ t ∧ t ≤ 2000) ∧ (∀ k, k < n → 1 ≤ f k ∧ f k ≤ 100) ∧ (∀ k, k < n → 0 ≤ t + sumTo f k ∧ t + sumTo f (k + 1) ≤ 2000) := by
  obtain ⟨hr, ht, hp⟩ := runOk_parts hok
  have hrp := rvB_parts hr
  refine ⟨by omega, ht, hrp.2.2, fun k hk => ?_⟩
  have h := ptOk_at hp hk
  exact ⟨h.1, h.2.2⟩
theorem fit_says {t : Int} {f : Nat → Int} {n : Nat} (hok : runOk t f n = true) : ∃ ps : List Pt, ps.length = 1 ∧ AnsP (nwS n 0) [] (fitX t f n) (nwS n 0) ps (spT (runPt t f n).I n) ∧ AnsP (nwS n 0) ps buT (nwS n 0) ps (itT (f 0)) := by
  obtain ⟨hn, ht, hf, hs⟩ := runOk_bd hok
  have hw := fitX_w ht (by omega) (fun k hk => by have := hf k hk; omega) (f := f) (n := n)
  have hF : ∀ k, k < n → ftF (fitX t f n) k = f k := fun k hk => by
    have e : wdI (fitX t f n) (k + 2) = itT (f k) := by
      unfold wdI
      rw [hw]
      simp [hk]
    unfold ftF
    rw [e, (it_nm (by have := hf k hk; omega) (by have := hf k hk; omega)).1]
  have ht1 : nmF (wdI (fitX t f n) 1) = t := by
    have e : wdI (fitX t f n) 1 = itT t := by unfold wdI; rw [hw]; rfl
    rw [e, (it_nm ht.1 ht.2).1]
  have hL : ftL (nwS n 0) [] (fitX t f n) = some ((List.range n).map fun i => t + sumTo f i) := by
    unfold ftL adO
    rw [if_neg (by decide)]
    unfold ftO
    have hr : rvB ((nwS n 0).x.n : Int) (nwS n 0).x.n (ftF (fitX t f n)) = true := rvB_yes (inB_true.2 (by show (1 : Int) ≤ (n : Int) ∧ (n : Int) ≤ 5; omega)) rfl (fun k hk => by
      have hk2 : k < n := hk
      unfold rvK
      rw [hF k hk2]
      exact inB_true.2 (hf k hk2))
    rw [if_pos hr, ht1]
    exact fitL_nil hF hf (fun k hk => (hs k hk).2) n (Nat.le_refl _)
  have hlen : (wdL (fitX t f n)).length = (nwS n 0).x.n + 2 := by
    rw [hw]
    show _ = n + 2
    simp
  have hk0 : PsOk (nwS n 0).x.n [] := PsOk.nil (by show 1 ≤ n; omega) (by show n ≤ 5; omega)
  have hz : (fitX t f n).size ≤ 1000 := by
    have h1 := itT_size t (by omega) (by omega)
    have h2 : (spT f n).size ≤ n * (21 + 1) := jn_size (fun i hi => by have := hf i hi; exact itT_size _ (by omega) (by omega))
    unfold fitX
    simp only [ByteArray.size_append]
    have e1 : (⟨#[102, 105, 116, 32]⟩ : ByteArray).size = 4 := rfl
    have e2 : (⟨#[32]⟩ : ByteArray).size = 1 := rfl
    omega
  have h1 := ansP_fit (st := nwS n 0) (ps := []) hz hk0 (by unfold wd0; rw [hw]; exact cm_fit _) hlen
  have hS : ftS (nwS n 0) [] (fitX t f n) = [ftP ((List.range n).map fun i => t + sumTo f i) (ftF (fitX t f n)) n] := by unfold ftS; rw [hL]; rfl
  have hI : ∀ i, i < n → (ftP ((List.range n).map fun i => t + sumTo f i) (ftF (fitX t f n)) n).I i = (runPt t f n).I i := fun i hi => by
    unfold ftP runPt
    simp [hi]
  have hT : ftT (nwS n 0) [] (fitX t f n) = spT (runPt t f n).I n := by
    unfold ftT
    rw [hL]
    show spT _ n = _
    unfold spT
    exact jn_congr (fun i hi => congrArg itT (hI i hi))
  rw [hS, hT] at h1
  have hko : PsOk (nwS n 0).x.n [ftP ((List.range n).map fun i => t + sumTo f i) (ftF (fitX t f n)) n] := by
    have h := hL
    unfold ftL at h
    exact psOk_add hk0 (by rw [ht1]; omega) h
  have h2 := ansP_busy (st := nwS n 0) (t := buT) (by decide) hko (by unfold wd0; rw [buT_w]; exact cm_bu) (by rw [buT_w]; rfl)
  have hB : byO (nwS n 0) [ftP ((List.range n).map fun i => t + sumTo f i) (ftF (fitX t f n)) n] (wdI buT 1) = itT (f 0) := by
    have e : wdI buT 1 = ⟨#[48]⟩ := by unfold wdI; rw [buT_w]; rfl
    have e2 : byV [ftP ((List.range n).map fun i => t + sumTo f i) (ftF (fitX t f n)) n] n 0 = f 0 := by
      unfold byV
      rw [if_pos (by omega)]
      show 0 + ((ftP _ _ n).O 0 - (ftP _ _ n).I 0) = _
      have e3 : (ftP ((List.range n).map fun i => t + sumTo f i) (ftF (fitX t f n)) n).O 0 = (ftP ((List.range n).map fun i => t + sumTo f i) (ftF (fitX t f n)) n).I 0 + ftF (fitX t f n) 0 := rfl
      rw [e3, hF 0 (by omega)]
      omega
    unfold byO
    rw [e, nm0]
    show (if byV _ n 0 < 0 then noT else itT (byV _ n 0)) = _
    rw [e2, if_neg (by have := hf 0 (by omega); omega)]
  rw [hB] at h2
  exact ⟨_, rfl, h1, h2⟩
/-- Execute at a script that fits a path -/
theorem exec_fit {t : Int} {f : Nat → Int} {n : Nat} (hok : runOk t f n = true) (mm : Int) (w : World) (hW : WF mm w) :
    Calls Tryz.prog 11 #[.string (⟨#[108, 105, 110, 101, 32]⟩ ++ itT n ++ ⟨#[32, 48, 10, 102, 105, 116, 32]⟩ ++ itT t ++ ⟨#[32]⟩ ++ spT f n ++ ⟨#[10, 98, 117, 115, 121, 32, 48, 10]⟩)] w fun e w' => e = .returned (.string (⟨#[111, 107, 10]⟩ ++ spT (runPt t f n).I n ++ ⟨#[10]⟩ ++ itT (f 0) ++ ⟨#[10]⟩ ++ exT 0 1)) ∧ Below w.heap.size w w' := by
  obtain ⟨hn, ht, hf, hs⟩ := runOk_bd hok
  obtain ⟨ps, hl, k2, k3⟩ := fit_says hok
  obtain ⟨a1, a2, a3, a4⟩ := dg_nm (a := n) (by omega)
  obtain ⟨b1, b2, b3, _⟩ := dg_nm (a := 0) (by omega)
  have hw := lnF_w a2 b2
  have k1 : AnsP ses0 [] (lnF (dgU n) (dgU 0)) (nwS n 0) [] okT := ansP_line (y := newL n 0) (by show (8 : Nat) ≤ 1000; omega) (by rw [show wd0 (lnF (dgU n) (dgU 0)) = ⟨#[108, 105, 110, 101]⟩ by unfold wd0; rw [hw]; rfl, hw]; exact cm_l) (by rw [hw]; rfl) (by
    rw [show wdI (lnF (dgU n) (dgU 0)) 1 = chr (dgU n) by unfold wdI; rw [hw]; rfl, show wdI (lnF (dgU n) (dgU 0)) 2 = chr (dgU 0) by unfold wdI; rw [hw]; rfl, a1, b1]
    exact nwO_yes (inB_true.2 (by omega)) (inB_true.2 (by omega)))
  have hst : StpP (ses0, []) [(lnF (dgU n) (dgU 0), okT), (fitX t f n, spT (runPt t f n).I n), (buT, itT (f 0))] (nwS n 0, ps) := ⟨(nwS n 0, []), k1, (nwS n 0, ps), k2, (nwS n 0, ps), k3, rfl⟩
  have z1 := itT_size t (by omega) (by omega)
  have z2 : (spT f n).size ≤ n * (21 + 1) := jn_size (fun i hi => by have := hf i hi; exact itT_size _ (by omega) (by omega))
  have z3 : (spT (runPt t f n).I n).size ≤ n * (21 + 1) := jn_size (fun i hi => itT_size _ (by have := (hs i hi).1; show _ ≤ t + sumTo f i; omega) (by
    have h1 := hs i hi
    have h2 := hf i hi
    have h3 : sumTo f (i + 1) = sumTo f i + f i := rfl
    show t + sumTo f i ≤ _
    omega))
  have z4 := itT_size (f 0) (by have := hf 0 (by omega); omega) (by have := hf 0 (by omega); omega)
  have q := executeP_stp (⟨#[108, 105, 110, 101, 32]⟩ ++ itT n ++ ⟨#[32, 48, 10, 102, 105, 116, 32]⟩ ++ itT t ++ ⟨#[32]⟩ ++ spT f n ++ ⟨#[10, 98, 117, 115, 121, 32, 48, 10]⟩) mm w _ _ _ (by
      rw [a4]
      simp only [ByteArray.size_append]
      have e1 : (⟨#[108, 105, 110, 101, 32]⟩ : ByteArray).size = 5 := rfl
      have e2 : (⟨#[32, 48, 10, 102, 105, 116, 32]⟩ : ByteArray).size = 7 := rfl
      have e3 : (⟨#[32]⟩ : ByteArray).size = 1 := rfl
      have e4 : (⟨#[10, 98, 117, 115, 121, 32, 48, 10]⟩ : ByteArray).size = 8 := rfl
      have e5 : (chr (dgU n)).size = 1 := rfl
      omega) hW (by
      rw [a4]
      have e : dgU 0 = 48 := rfl
      simp [lnsB, lnF, fitX, buT, chr, e]) (fun y hy => by
      simp only [List.mem_cons, List.not_mem_nil, or_false] at hy
      rcases hy with rfl | rfl | rfl
      · show (10 : UInt8) ∉ [108, 105, 110, 101, 32, dgU n, 32, dgU 0]
        simp
        exact ⟨fun e => a3 e.symm, fun e => b3 e.symm⟩
      · have h1 := (it_no ht.1 ht.2).2
        have h2 : (10 : UInt8) ∉ (spT f n).data.toList := fun h => by
          have hm := h
          unfold spT jnT at hm
          refine join_free _ (fun x hx => ?_) (by simpa using hm)
          simp only [List.mem_map, List.mem_range] at hx
          obtain ⟨i, hi, rfl⟩ := hx
          exact (it_no (by have := hf i hi; omega) (by have := hf i hi; omega)).2
        intro h
        simp [fitX] at h
        rcases h with h | h
        · exact h1 (by simpa using h)
        · exact h2 (by simpa using h)
      · show (10 : UInt8) ∉ buT.data.toList
        decide) (fun y hy => by
      simp only [List.mem_cons, List.not_mem_nil, or_false] at hy
      rcases hy with rfl | rfl | rfl
      · show okT.size ≤ 1000000
        decide
      · show (spT (runPt t f n).I n).size ≤ 1000000
        omega
      · show (itT (f 0)).size ≤ 1000000
        omega) hst (by show (0 : Nat) < 100; decide) (by omega)
  refine q.mono ?_
  rintro e w' ⟨rfl, hb⟩
  refine ⟨?_, hb⟩
  rw [hl]
  refine congrArg (fun z => Ending.returned (.string z)) (ba_ext ?_)
  have e : (nwS n 0).x.m = 0 := rfl
  rw [e]
  simp [sayL, lnsB, okT]
end Go.Proofs.YtlkdmpfifpkpaaaGreatDoor
namespace Go.Proofs.YtlkdmpfifpkpaaaGreatDoor
open Go.RowKit

/-- what the reference's loop keeps -/
structure RuM (w wr : World) (gI cI gO cO k : Nat) (I O : Nat → Int) : Prop where
  res : Bx wr w.heap.size 41 #[.slice none 0 0, .slice none 0 0]
  box : Bx wr (w.heap.size + 1 + 1 + 1) 41 #[.slice (some ⟨gI, 0, none⟩) k cI, .slice (some ⟨gO, 0, none⟩) k cO]
  oI : Own wr gI cI k 1 3 (fun i => .int .i64 (I i))
  oO : Own wr gO cO k 1 3 (fun i => .int .i64 (O i))
  hI : w.heap.size < gI
  hO : w.heap.size < gO
  nI : gI ≠ w.heap.size + 1 + 1 + 1
  nO : gO ≠ w.heap.size + 1 + 1 + 1
  nIO : gI ≠ gO
  bl : Below w.heap.size w wr
/-- the same with one more entry time -/
structure RuI (w wr : World) (gI cI gO cO k : Nat) (I O : Nat → Int) : Prop where
  res : Bx wr w.heap.size 41 #[.slice none 0 0, .slice none 0 0]
  box : Bx wr (w.heap.size + 1 + 1 + 1) 41 #[.slice (some ⟨gI, 0, none⟩) (k + 1) cI, .slice (some ⟨gO, 0, none⟩) k cO]
  oI : Own wr gI cI (k + 1) 1 3 (fun i => .int .i64 (I i))
  oO : Own wr gO cO k 1 3 (fun i => .int .i64 (O i))
  hI : w.heap.size < gI
  hO : w.heap.size < gO
  nI : gI ≠ w.heap.size + 1 + 1 + 1
  nO : gO ≠ w.heap.size + 1 + 1 + 1
  nIO : gI ≠ gO
  bl : Below w.heap.size w wr
section
variable {w wr wa : World} {gI cI gO cO k : Nat} {I O : Nat → Int}
theorem RuM.pushI (h : RuM w wr gI cI gO cO k I O) {g c : Nat} (hA : Own wa g c (k + 1) 1 3 (fun i => .int .i64 (I i))) (hg : wr.grownBy wa (some gI)) (hd : (g = gI ∧ c = cI) ∨ wr.heap.size < g) :
    RuI w (wa.setCell ⟨w.heap.size + 1 + 1 + 1, 0, none⟩ (.slice (some ⟨g, 0, none⟩) (k + 1) c)) g c gO cO k I O := by
  have h1 := h.nI
  have h2 := h.nO
  have h3 := h.nIO
  have h4 := h.hI
  have h5 := h.hO
  have h6 := h.box.lt
  have h7 := h.oO.lt
  have h8 := h.bl.size
  exact ⟨(h.res.kept hg (by omega)).setOther (by dsimp only; omega) _, (h.box.kept hg (by omega)).set 0 _, hA.setOther (by dsimp only; omega) _, (h.oO.kept hg (by simp; omega)).setOther (by dsimp only; omega) _, by omega, h.hO, by omega, h.nO, by omega,
    (h.bl.trans (below_of_grown hg (by omega) h8)).setCell (by dsimp only; omega) _⟩
theorem RuI.pushO (h : RuI w wr gI cI gO cO k I O) {g c : Nat} (hA : Own wa g c (k + 1) 1 3 (fun i => .int .i64 (O i))) (hg : wr.grownBy wa (some gO)) (hd : (g = gO ∧ c = cO) ∨ wr.heap.size < g) :
    RuM w (wa.setCell ⟨w.heap.size + 1 + 1 + 1, 1, none⟩ (.slice (some ⟨g, 0, none⟩) (k + 1) c)) gI cI g c (k + 1) I O := by
  have h1 := h.nI
  have h2 := h.nO
  have h3 := h.nIO
  have h4 := h.hI
  have h5 := h.hO
  have h6 := h.box.lt
  have h7 := h.oI.lt
  have h8 := h.bl.size
  exact ⟨(h.res.kept hg (by omega)).setOther (by dsimp only; omega) _, (h.box.kept hg (by omega)).set 1 _, (h.oI.kept hg (by simp; omega)).setOther (by dsimp only; omega) _, hA.setOther (by dsimp only; omega) _, h.hI, by omega, h.nI, by omega, by omega,
    (h.bl.trans (below_of_grown hg (by omega) h8)).setCell (by dsimp only; omega) _⟩
theorem RuM.below {w' : World} {B : Nat} (h : RuM w wr gI cI gO cO k I O) (hb : Below B wr w') (hB : B = wr.heap.size) : RuM w w' gI cI gO cO k I O := by
  subst hB
  exact ⟨h.res.below hb h.res.lt, h.box.below hb h.box.lt, h.oI.below hb h.oI.lt, h.oO.below hb h.oO.lt, h.hI, h.hO, h.nI, h.nO, h.nIO, h.bl.trans (hb.mono h.bl.size)⟩
end
set_option maxHeartbeats 2000000 in
theorem specPathRun_any (t : Int) (b off n c : Nat) (f : Nat → Int) (w : World) (hn : n ≤ 1000000) (hc : IC w b off n f) (ht : -9223372036854775808 ≤ t ∧ t ≤ 9223372036854775807) :
    Calls Tryz.prog 24 #[.int .i64 t, .slice (some ⟨b, off, none⟩) n c] w (PtRes (runOk t f n) (runPt t f n) w) := by
  have HC := Lib.hid hc
  have HBB : Hid (∀ o, Below w.heap.size w (w.alloc o)) := fun o => below_all _ _
  clear hc
  cases hr : rvB n n f
  · have HR := Lib.hid hr
    have HK : Hid (runOk t f n = false) := by show _ = _; unfold runOk; rw [hr]; rfl
    clear hr
    go_enter Tryz.func24, Tryz.ntmps24
    go_wp2_with fail
    refine (l2Runs_any b off n c f n _ (by omega) (HC.out.keep (HBB.out _))).mono ?_
    rintro e w' ⟨rfl, rfl⟩
    rw [HR.out]
    go_wp2_with fail
    refine bodyPost_ret (v := .tuple #[.agg #[.slice none 0 0, .slice none 0 0], .bool false]) (by simp [results, Tryz.results24, go_sem]) rfl ⟨_, by rw [HK.out], fun h => absurd (HK.out.symm.trans h) (by simp), fun _ => rfl, HBB.out _⟩
  have HR := Lib.hid hr
  cases hti : inB t 0 2000
  · have HK : Hid (runOk t f n = false) := by show _ = _; unfold runOk; rw [hti]; simp
    have HT := Lib.hid hti
    clear hr hti
    go_enter Tryz.func24, Tryz.ntmps24
    go_wp2_with fail
    refine (l2Runs_any b off n c f n _ (by omega) (HC.out.keep (HBB.out _))).mono ?_
    rintro e w' ⟨rfl, rfl⟩
    rw [HR.out]
    go_wp2_with fail
    refine (l6In_any _ _ _ _).mono ?_
    rintro e w' ⟨rfl, rfl⟩
    rw [HT.out]
    go_wp2_with fail
    refine bodyPost_ret (v := .tuple #[.agg #[.slice none 0 0, .slice none 0 0], .bool false]) (by simp [results, Tryz.results24, go_sem]) rfl ⟨_, by rw [HK.out], fun h => absurd (HK.out.symm.trans h) (by simp), fun _ => rfl, HBB.out _⟩
  have hpt := rvB_parts hr
  have hsum := sum_run hpt.2.2
  have HSUM := Lib.hid hsum
  have HF := Lib.hid hpt.2.2
  have HT := Lib.hid hti
  have hti2 := inB_true.1 hti
  obtain ⟨⟨hn1, hn2⟩, _, _⟩ := hpt
  obtain ⟨ht1, ht2⟩ := hti2
  have HK : Hid (runOk t f n = ptOk (runPt t f n) n) := by show _ = _; unfold runOk; rw [hr, hti]; simp
  clear hr hsum hti
  go_enter Tryz.func24, Tryz.ntmps24
  go_wp2_with fail
  refine (l2Runs_any b off n c f n _ (by omega) (HC.out.keep (HBB.out _))).mono ?_
  rintro e w' ⟨rfl, rfl⟩
  rw [HR.out]
  go_wp2_with fail
  refine (l6In_any _ _ _ _).mono ?_
  rintro e w' ⟨rfl, rfl⟩
  rw [HT.out]
  go_wp2_with fail
  go_loopw [0, 7] (fun s i wr => ∃ k gI cI gO cO : Nat, k ≤ n ∧ i = .int .i64 k ∧ s = .int .i64 (t + sumTo f k) ∧ RuM w wr gI cI gO cO k (runPt t f n).I (runPt t f n).O) (fun _ i _ => n - (intOf i).toNat)
  case atStart =>
    refine ⟨0, w.heap.size + 1, 0, w.heap.size + 1 + 1, 0, Nat.zero_le _, rfl, by simp [sumTo], ?_⟩
    exact ⟨(((Bx.new w _ _).alloc _).alloc _).alloc _, Bx.newAt (by simp), ((own_emptyAt (by simp)).alloc _).alloc _, (own_emptyAt (by simp)).alloc _, by omega, by omega, by omega, by omega, by omega, (((Below.refl _ _).alloc (Nat.le_refl _) _).alloc (by simp) _).alloc (by simp; omega) _ |>.alloc (by simp; omega) _⟩
  case round =>
    obtain ⟨k, gI, cI, gO, cO, hk, rfl, rfl, hm⟩ := hrel
    have HM := Lib.hid hm
    have hbx := hm.box.cell
    have hsk := HSUM.out k hk
    by_cases hlt : k < n
    · have hck := (HC.out.keep hm.bl).at k hlt
      have hfk := HF.out k hlt
      have HS : Hid (sumTo f (k + 1) = sumTo f k + f k) := rfl
      clear hm hck
      go_wp2_with (first
        | (at_builtin; refine wpList_pushI elInt rfl (.tmp 29) (.tmp 31) (by rfl) HM.out.oI (by rfl) (by rfl) (by rfl) (by omega) ?_; intro g' c' wa HA hgr hd; have hbx2 := (HM.out.box.kept hgr (by have := HM.out.nI; omega)).cell; have hbf2 := (HM.out.box.kept hgr (by have := HM.out.nI; omega)).free; have HMa := Lib.hid (HM.out.pushI HA hgr hd); have hck2 := (HC.out.keep HMa.out.bl).at k hlt; clear HA hgr hd)
        | (at_builtin; go_must (refine wpList_pushI elInt rfl (.tmp 41) (.tmp 43) (by rfl) HMa.out.oO (by rfl) (by show Value.slice (some ⟨wa.heap.size, 0, none⟩) 1 1 = _; simp [World.setCell]) (by show _ = t + sumTo f (k + 1); rw [HS.out]; omega) (by omega) ?_); intro g2 c2 wb HA hgr hd; have hbx3 := (HMa.out.box.kept hgr (by have := HMa.out.nO; omega)).cell; have hbf3 := (HMa.out.box.kept hgr (by have := HMa.out.nO; omega)).free; have HMb := Lib.hid (HMa.out.pushO HA hgr hd); clear HA hgr hd hbx2 hbf2))
      go_roundw
      case rel => exact ⟨k + 1, _, _, _, _, by omega, by go_num, by rw [HS.out]; go_num, HMb.out⟩
      case measure => simp [intOf]; omega
    · obtain rfl : k = n := by omega
      have hrc := hm.res.cell
      have hrf := hm.res.free
      clear hm
      go_wp2_with fail
      refine (specPValid_any _ (runPt t f k) k _ ⟨gI, 0, cI, gO, 0, cO, rfl, IC.of_own HM.out.oI, IC.of_own HM.out.oO⟩ (by show k ≤ _; omega) (by show k ≤ _; omega) (by omega)).mono ?_
      rintro e w2 ⟨rfl, hb2⟩
      have HM2 := Lib.hid (HM.out.below hb2 rfl)
      rw [← HK.out]
      clear hrc hrf hbx hb2
      have hrc := HM2.out.res.cell
      have hrf := HM2.out.res.free
      have hbx := HM2.out.box.cell
      have HPV : Hid (∀ u v : Value, PtV ((w2.setCell ⟨w.heap.size, 0, none⟩ u).setCell ⟨w.heap.size, 1, none⟩ v) (.agg #[.slice (some ⟨gI, 0, none⟩) k cI, .slice (some ⟨gO, 0, none⟩) k cO]) (runPt t f k)) := fun u v => by
        have h1 := HM2.out.hI
        have h2 := HM2.out.hO
        exact ⟨gI, 0, cI, gO, 0, cO, rfl, IC.of_own (t := 3) ((HM2.out.oI.setOther (by dsimp only; omega) u).setOther (by dsimp only; omega) v), IC.of_own (t := 3) ((HM2.out.oO.setOther (by dsimp only; omega) u).setOther (by dsimp only; omega) v)⟩
      cases hok : runOk t f k
      · have HO := Lib.hid hok
        clear hok
        go_wp2_with fail
        exact bodyPost_ret (v := .tuple #[.agg #[.slice none 0 0, .slice none 0 0], .bool false]) (by simp [results, Tryz.results24, go_sem, hrc]) rfl ⟨_, by rw [HO.out], fun h => absurd (HO.out.symm.trans h) (by simp), fun _ => rfl, (HM2.out.bl.setCell (by dsimp only; omega) _).setCell (by dsimp only; omega) _⟩
      · have HO := Lib.hid hok
        clear hok
        go_wp2_with fail
        exact bodyPost_ret (v := .tuple #[.agg #[.slice (some ⟨gI, 0, none⟩) k cI, .slice (some ⟨gO, 0, none⟩) k cO], .bool true]) (by simp [results, Tryz.results24, go_sem, hrc]) rfl ⟨_, by rw [HO.out], fun _ => HPV.out _ _, fun h => absurd (HO.out.symm.trans h) (by simp), (HM2.out.bl.setCell (by dsimp only; omega) _).setCell (by dsimp only; omega) _⟩
end Go.Proofs.YtlkdmpfifpkpaaaGreatDoor
namespace Go.Proofs.YtlkdmpfifpkpaaaGreatDoor
open Go.RowKit

/-- two paths agree -/
def eqPt (p q : Pt) : Bool := eqSl p.ni q.ni p.I q.I && eqSl p.no q.no p.O q.O
set_option maxHeartbeats 1000000 in
theorem samePath_any (v u : Value) (p q : Pt) (w : World) (hv : PtV w v p) (hu : PtV w u q) (h1 : p.ni ≤ 1000000) (h2 : p.no ≤ 1000000) (h3 : q.ni ≤ 1000000) (h4 : q.no ≤ 1000000) :
    Calls Tryz.prog 25 #[v, u] w fun e w' => e = .returned (.bool (eqPt p q)) ∧ Below w.heap.size w w' := by
  obtain ⟨bi, oi, ci, bo, oo, co, rfl, a1, a2⟩ := hv
  obtain ⟨bi', oi', ci', bo', oo', co', rfl, a3, a4⟩ := hu
  have hbb : ∀ a b, Below w.heap.size w ((w.alloc a).alloc b) := fun a b => ((Below.refl _ _).alloc (Nat.le_refl _) _).alloc (by simp) _
  have A1 := Lib.hid (fun a b => a1.keep (hbb a b))
  have A2 := Lib.hid (fun a b => a2.keep (hbb a b))
  have A3 := Lib.hid (fun a b => a3.keep (hbb a b))
  have A4 := Lib.hid (fun a b => a4.keep (hbb a b))
  have HB := Lib.hid hbb
  clear hbb a1 a2 a3 a4
  go_enter Tryz.func25, Tryz.ntmps25
  go_wp2_with fail
  refine (sameInts_any bi oi _ ci bi' oi' _ ci' p.I q.I _ (by omega) (by omega) (A1.out _ _) (A3.out _ _)).mono ?_
  rintro e w1 ⟨rfl, q1, rfl⟩
  cases he : eqSl p.ni q.ni p.I q.I
  · have HE : Hid (eqPt p q = false) := by show _ = _; unfold eqPt; rw [he]; rfl
    clear he
    go_wp2_with fail
    go_ret
    exact ⟨retB HE.out.symm, (HB.out _ _).trans (below_dr (by repeat (first | exact Dr.refl _ | exact ⟨_, rfl⟩ | refine Dr.drewN ?_ _)) _)⟩
  · have HE : Hid (eqPt p q = eqSl p.no q.no p.O q.O) := by show _ = _; unfold eqPt; rw [he]; rfl
    clear he
    go_wp2_with fail
    refine (sameInts_any bo oo _ co bo' oo' _ co' p.O q.O _ (by omega) (by omega) ((A2.out _ _).drewN _) ((A4.out _ _).drewN _)).mono ?_
    rintro e w1 ⟨rfl, q2, rfl⟩
    rw [← HE.out]
    go_wp2_with fail
    go_ret
    exact ⟨rfl, (HB.out _ _).trans (below_dr (by repeat (first | exact Dr.refl _ | exact ⟨_, rfl⟩ | refine Dr.drewN ?_ _)) _)⟩

end Go.Proofs.YtlkdmpfifpkpaaaGreatDoor
namespace Go.Proofs.YtlkdmpfifpkpaaaGreatDoor
open Go.RowKit

theorem sameInts_nil (w : World) :
    Calls Tryz.prog 44 #[.slice none 0 0, .slice none 0 0] w fun e w' => e = .returned (.bool true) ∧ Dr w w' := by
  go_enter Tryz.func44, Tryz.ntmps44
  go_wp2
  go_loopw [5] (fun i wr => i = .int .i64 0 ∧ Dr w wr) (fun _ _ => 0)
  case atStart => exact ⟨rfl, Dr.refl _⟩
  case round =>
    obtain ⟨rfl, q, rfl⟩ := hrel
    go_wp2
    go_ret
    exact ⟨rfl, (by repeat (first | exact Dr.refl _ | exact ⟨_, rfl⟩ | refine Dr.drewN ?_ _))⟩
theorem samePath_nil (w : World) :
    Calls Tryz.prog 25 #[.agg #[.slice none 0 0, .slice none 0 0], .agg #[.slice none 0 0, .slice none 0 0]] w fun e w' => e = .returned (.bool true) ∧ Below w.heap.size w w' := by
  have hbb : ∀ a b, Below w.heap.size w ((w.alloc a).alloc b) := fun a b => ((Below.refl _ _).alloc (Nat.le_refl _) _).alloc (by simp) _
  have HB := Lib.hid hbb
  clear hbb
  go_enter Tryz.func25, Tryz.ntmps25
  go_wp2_with fail
  refine (sameInts_nil _).mono ?_
  rintro e w1 ⟨rfl, q1, rfl⟩
  go_wp2_with fail
  refine (sameInts_nil _).mono ?_
  rintro e w1 ⟨rfl, q2, rfl⟩
  go_wp2_with fail
  go_ret
  exact ⟨rfl, (HB.out _ _).trans (below_dr (by repeat (first | exact Dr.refl _ | exact ⟨_, rfl⟩ | refine Dr.drewN ?_ _)) _)⟩
theorem eqPt_refl (p : Pt) : eqPt p p = true := by
  unfold eqPt
  rw [eqSl_true.2 ⟨rfl, fun _ _ => rfl⟩, eqSl_true.2 ⟨rfl, fun _ _ => rfl⟩]
  rfl
/-- the runs and the first path -/
structure PrA (w W : World) (b5 : Nat) (c5 : Array Value) (v5 : Value) (p : Pt) (g off n : Nat) (f : Nat → Int) : Prop where
  x5 : Bx W b5 41 c5
  f5 : PtV W v5 p
  ic : IC W g off n f
  bl : Below w.heap.size w W
theorem PrA.below {w W W' : World} {b5 B : Nat} {c5 : Array Value} {v5 : Value} {p : Pt} {g off n : Nat} {f : Nat → Int} (h : PrA w W b5 c5 v5 p g off n f) (hb : Below B W W') (hB : B = W.heap.size) : PrA w W' b5 c5 v5 p g off n f := by
  subst hB
  exact ⟨h.x5.below hb h.x5.lt, h.f5.keep hb, h.ic.keep hb, h.bl.trans (hb.mono h.bl.size)⟩
theorem PrA.alloc {w W : World} {b5 : Nat} {c5 : Array Value} {v5 : Value} {p : Pt} {g off n : Nat} {f : Nat → Int} (h : PrA w W b5 c5 v5 p g off n f) (o : Obj) : PrA w (W.alloc o) b5 c5 v5 p g off n f := h.below (below_all _ _) rfl
theorem PrA.drew {w W : World} {b5 : Nat} {c5 : Array Value} {v5 : Value} {p : Pt} {g off n : Nat} {f : Nat → Int} (h : PrA w W b5 c5 v5 p g off n f) : PrA w W.drew b5 c5 v5 p g off n f := h.below (B := W.heap.size) (Below.refl _ W).drew rfl
/-- and a second one -/
structure PrB (w W : World) (b5 b7 : Nat) (c5 c7 : Array Value) (v5 v7 : Value) (p : Pt) (g off n : Nat) (f : Nat → Int) : Prop where
  a : PrA w W b5 c5 v5 p g off n f
  x7 : Bx W b7 41 c7
  f7 : PtV W v7 p
theorem PrB.below {w W W' : World} {b5 b7 B : Nat} {c5 c7 : Array Value} {v5 v7 : Value} {p : Pt} {g off n : Nat} {f : Nat → Int} (h : PrB w W b5 b7 c5 c7 v5 v7 p g off n f) (hb : Below B W W') (hB : B = W.heap.size) : PrB w W' b5 b7 c5 c7 v5 v7 p g off n f := by
  subst hB
  exact ⟨h.a.below hb rfl, h.x7.below hb h.x7.lt, h.f7.keep hb⟩
theorem PrB.drew {w W : World} {b5 b7 : Nat} {c5 c7 : Array Value} {v5 v7 : Value} {p : Pt} {g off n : Nat} {f : Nat → Int} (h : PrB w W b5 b7 c5 c7 v5 v7 p g off n f) : PrB w W.drew b5 b7 c5 c7 v5 v7 p g off n f := h.below (B := W.heap.size) (Below.refl _ W).drew rfl
theorem ptv_rows {w : World} {p : Pt} {bi oi ci bo oo co : Nat} (h : PtV w (.agg #[.slice (some ⟨bi, oi, none⟩) p.ni ci, .slice (some ⟨bo, oo, none⟩) p.no co]) p) :
    (∀ k, k < p.ni → w.cell? ⟨bi, oi + k, none⟩ = some (.int .i64 (p.I k))) ∧ (∀ k, k < p.no → w.cell? ⟨bo, oo + k, none⟩ = some (.int .i64 (p.O k))) := by
  obtain ⟨_, _, _, _, _, _, he, h1, h2⟩ := h
  simp only [Value.agg.injEq, Array.mk.injEq, List.cons.injEq, Value.slice.injEq, Option.some.injEq, Addr.mk.injEq, and_true, true_and] at he
  obtain ⟨⟨⟨rfl, rfl⟩, rfl⟩, ⟨rfl, rfl⟩, rfl⟩ := he
  exact ⟨h1, h2⟩
end Go.Proofs.YtlkdmpfifpkpaaaGreatDoor
namespace Go.Proofs.YtlkdmpfifpkpaaaGreatDoor
open Go.RowKit

set_option linter.unusedSimpArgs false in
set_option maxRecDepth 100000 in
set_option maxHeartbeats 2000000 in
theorem lawFit_any (mm : Int) (ao : Option Addr) (m c : Nat) (w : World) (hW : WF mm w) (hB : BSl w ao m) (hnc : m ≤ c) (hm : m ≤ 9223372036854775807) :
    Calls Tryz.prog 7 #[.slice ao m c] w fun e w' => e = .returned (.bool true) ∧ Below w.heap.size w w' := by
  have HBS := Lib.hid hB
  have HWF := Lib.hid hW
  clear hB hW
  by_cases hlong : 1048576 < m
  · go_enter Tryz.func7, Tryz.ntmps7
    go_wp2_with fail
    go_ret
    exact ⟨rfl, Below.refl _ _⟩
  go_enter Tryz.func7, Tryz.ntmps7
  go_wp2_with fail
  refine (drawRun_any ao m c _ hnc hm HBS.out).mono ?_
  rintro e w1 ⟨t, g, off, cr, n, f, rfl, ht, hic, hg, hn5, hb1⟩
  have HIC := Lib.hid hic
  have HBw := Lib.hid hb1
  obtain ⟨ht1, ht2⟩ := ht
  clear hb1 hic
  have gne : ∀ a : Int, (a != a) = false := fun a => by simp
  have geq : ∀ a : Int, (a == a) = true := fun a => by simp
  go_wp2_with fail
  refine (implPathRun_any t g off n cr f _ (by omega) HIC.out (by omega)).mono ?_
  rintro e w2 ⟨v5, rfl, hy5, hn5', hb2⟩
  have HB2 := Lib.hid (HBw.out.trans (hb2.mono HBw.out.size))
  have HI2 := Lib.hid (HIC.out.keep hb2)
  clear hb2
  cases hok : runOk t f n
  · obtain rfl := hn5' hok
    have HK := Lib.hid hok
    clear hok hy5 hn5'
    have HX2 := Lib.hid (Bx.new w2 41 #[.slice none 0 0, .slice none 0 0])
    have hl2 := HX2.out.lt
    go_wp2_with fail
    refine (specPathRun_any t g off n cr f _ (by omega) (HI2.out.keep (below_all _ _)) (by omega)).mono ?_
    rintro e w3 ⟨v7, rfl, _, hn7, hb3⟩
    obtain rfl := hn7 HK.out
    have HX3 := Lib.hid (HX2.out.below hb3 (by simp))
    have HB3 := Lib.hid ((HB2.out.trans ((below_all _ _).mono HB2.out.size)).trans (hb3.mono ((HB2.out.trans ((below_all _ _).mono HB2.out.size)).size)))
    have c5 := HX3.out.cell
    have l5 := HX3.out.lt
    rw [HK.out]
    clear hb3 hn7
    go_wp2_with fail
    refine (samePath_nil _).mono ?_
    rintro e w4 ⟨rfl, hb4⟩
    have HX4 := Lib.hid ((HX3.out.alloc _).below hb4 (by simp; omega))
    have HX4' := Lib.hid ((Bx.new w3 41 #[.slice none 0 0, .slice none 0 0]).below hb4 (by simp))
    have HB4 := Lib.hid ((HB3.out.trans ((below_all _ _).mono HB3.out.size)).trans (hb4.mono ((HB3.out.trans ((below_all _ _).mono HB3.out.size)).size)))
    clear hb4 c5
    have c5 := HX4.out.cell
    have c7 := HX4'.out.cell
    go_wp2_with fail
    refine (samePath_nil _).mono ?_
    rintro e w5 ⟨rfl, hb5⟩
    go_wp2_with fail
    go_ret
    exact ⟨rfl, HB4.out.trans (hb5.mono HB4.out.size)⟩
  · have HK := Lib.hid hok
    have HY5 := Lib.hid (hy5 hok)
    obtain ⟨bi, oi, ci, bo, oo, co, hv5, _⟩ := hy5 hok
    replace hv5 : v5 = .agg #[.slice (some ⟨bi, oi, none⟩) n ci, .slice (some ⟨bo, oo, none⟩) n co] := hv5
    subst hv5
    obtain ⟨hrv, hti, hpt⟩ := runOk_parts hok
    have HPT := Lib.hid hpt
    have HRV := Lib.hid hrv
    have hrp := rvB_parts hrv
    have HSUM := Lib.hid (sum_run hrp.2.2)
    have HFB := Lib.hid hrp.2.2
    obtain ⟨⟨hn1, _⟩, _, _⟩ := hrp
    have hsn := HSUM.out n (Nat.le_refl _)
    have HOK := Lib.hid hok
    have HBD := Lib.hid (runOk_bd hok)
    have h0n : 0 < (runPt t f n).ni := by show 0 < n; omega
    have hLn : n - 1 < (runPt t f n).no := by show n - 1 < n; omega
    clear hok hy5 hn5' hrv hpt
    have HM2 : Hid (PrA w (w2.alloc (.cells #[.slice (some ⟨bi, oi, none⟩) n ci, .slice (some ⟨bo, oo, none⟩) n co] 41)) w2.heap.size #[.slice (some ⟨bi, oi, none⟩) n ci, .slice (some ⟨bo, oo, none⟩) n co] (.agg #[.slice (some ⟨bi, oi, none⟩) n ci, .slice (some ⟨bo, oo, none⟩) n co]) (runPt t f n) g off n f) :=
      ⟨Bx.new _ _ _, HY5.out.keep (below_all _ _), HI2.out.keep (below_all _ _), HB2.out.trans ((below_all _ _).mono HB2.out.size)⟩
    go_wp2_with fail
    refine (specPathRun_any t g off n cr f _ (by omega) HM2.out.ic (by omega)).mono ?_
    rintro e w3 ⟨v7, rfl, hy7, _, hb3⟩
    have HY7 := Lib.hid (hy7 HK.out)
    obtain ⟨bi7, oi7, ci7, bo7, oo7, co7, hv7, _⟩ := hy7 HK.out
    replace hv7 : v7 = .agg #[.slice (some ⟨bi7, oi7, none⟩) n ci7, .slice (some ⟨bo7, oo7, none⟩) n co7] := hv7
    subst hv7
    have HM3 := Lib.hid (HM2.out.below hb3 rfl)
    have c5 := HM3.out.x5.cell
    have l5 := HM3.out.x5.lt
    rw [HK.out]
    clear hb3 hy7
    go_wp2_with fail
    refine (samePath_any _ _ (runPt t f n) (runPt t f n) _ (HM3.out.f5.keep (below_all _ _)) (HY7.out.keep (below_all _ _)) (by show n ≤ _; omega) (by show n ≤ _; omega) (by show n ≤ _; omega) (by show n ≤ _; omega)).mono ?_
    rintro e w4 ⟨rfl, hb4⟩
    rw [eqPt_refl]
    have HM4 := Lib.hid ((HM3.out.alloc (.cells #[.slice (some ⟨bi7, oi7, none⟩) n ci7, .slice (some ⟨bo7, oo7, none⟩) n co7] 41)).below hb4 rfl)
    clear hb4 c5
    have c5 := HM4.out.x5.cell
    have HDN : Hid (∀ W, Calls Tryz.prog 19 #[.int .i64 n] W fun e w' => e = .returned (.string (itT n)) ∧ Below W.heap.size W w') := fun W => digits_val _ W (by omega) (by omega)
    have HDT : Hid (∀ W, Calls Tryz.prog 19 #[.int .i64 t] W fun e w' => e = .returned (.string (itT t)) ∧ Below W.heap.size W w') := fun W => digits_val _ W (by omega) (by omega)
    have hf0 := HFB.out 0 (by omega)
    have HD0 : Hid (∀ W, Calls Tryz.prog 19 #[.int .i64 (f 0)] W fun e w' => e = .returned (.string (itT (f 0))) ∧ Below W.heap.size W w') := fun W => digits_val _ W (by omega) (by omega)
    have HEL : Hid (∀ W, Calls Tryz.prog 21 #[.int .i64 0, .int .i64 1] W fun e w' => e = .returned (.string (exT 0 1)) ∧ Below W.heap.size W w') := fun W => endLine_any 0 1 W (by decide) (by decide)
    have HSR : Hid (∀ W, IC W g off n f → Calls Tryz.prog 20 #[.slice (some ⟨g, off, none⟩) n cr] W fun e w' => e = .returned (.string (spT f n)) ∧ Below W.heap.size W w') := fun W h => lspaced_any g off n cr f W (by omega) (fun k hk => by have := HFB.out k hk; omega) h
    have HSI : Hid (∀ W, IC W bi oi n (runPt t f n).I → Calls Tryz.prog 20 #[.slice (some ⟨bi, oi, none⟩) n ci] W fun e w' => e = .returned (.string (spT (runPt t f n).I n)) ∧ Below W.heap.size W w') := fun W h => lspaced_any bi oi n ci (runPt t f n).I W (by omega) (fun k hk => by
      have h1 := HBD.out.2.2.2 k hk
      have h2 := HBD.out.2.2.1 k hk
      have h3 : sumTo f (k + 1) = sumTo f k + f k := rfl
      show 0 ≤ t + sumTo f k ∧ t + sumTo f k ≤ 1000000
      omega) h
    have HEX : Hid (∀ W, WF mm W → Calls Tryz.prog 11 #[.string (⟨#[108, 105, 110, 101, 32]⟩ ++ itT n ++ ⟨#[32, 48, 10, 102, 105, 116, 32]⟩ ++ itT t ++ ⟨#[32]⟩ ++ spT f n ++ ⟨#[10, 98, 117, 115, 121, 32, 48, 10]⟩)] W fun e w' => e = .returned (.string (⟨#[111, 107, 10]⟩ ++ spT (runPt t f n).I n ++ ⟨#[10]⟩ ++ itT (f 0) ++ ⟨#[10]⟩ ++ exT 0 1)) ∧ Below W.heap.size W w') := fun W hW => exec_fit HOK.out mm W hW
    have hz1 := itT_size (n : Int) (by omega) (by omega)
    have hz2 := itT_size t (by omega) (by omega)
    have hz3 := itT_size (f 0) (by omega) (by omega)
    have hz4 : (spT f n).size ≤ n * (21 + 1) := jn_size (fun i hi => by have := HFB.out i hi; exact itT_size _ (by omega) (by omega))
    have hz5 : (spT (runPt t f n).I n).size ≤ n * (21 + 1) := jn_size (fun i hi => by
      have h1 := HBD.out.2.2.2 i hi
      have h2 := HBD.out.2.2.1 i hi
      have h3 : sumTo f (i + 1) = sumTo f i + f i := rfl
      have h4 : (runPt t f n).I i = t + sumTo f i := rfl
      rw [h4]
      exact itT_size _ (by omega) (by omega))
    have hz6 : (exT 0 1).size ≤ 100 := by decide +kernel
    generalize exT 0 1 = ee at *
    generalize spT (runPt t f n).I n = si at *
    generalize spT f n = sf at *
    generalize itT (f 0) = i0 at *
    generalize itT t = it at *
    generalize itT (n : Int) = iN at *
    go_wp2_with fail
    refine (HDN.out _).mono ?_
    rintro e w5 ⟨rfl, hb⟩
    have HM5 := Lib.hid (HM4.out.below hb rfl)
    clear hb c5
    go_wp2_with fail
    refine (HDT.out _).mono ?_
    rintro e w6 ⟨rfl, hb⟩
    have HM6 := Lib.hid (HM5.out.below hb rfl)
    clear hb
    go_wp2_with fail
    refine (HSR.out _ HM6.out.ic).mono ?_
    rintro e w7 ⟨rfl, hb⟩
    have HM7 := Lib.hid (HM6.out.below hb rfl)
    clear hb
    have HBd : Hid (Below w7.heap.size w7 w7.drew) := (Below.refl _ _).drew
    have HCC : Hid (∀ W, Below w7.heap.size w7 W → W.cell? ⟨w2.heap.size, 0, none⟩ = some (.slice (some ⟨bi, oi, none⟩) n ci) ∧ W.cell? ⟨g, off, none⟩ = some (.int .i64 (f 0))) := fun W h => by
      have hm := HM7.out.below h rfl
      have hi := hm.ic 0 (by omega)
      rw [Nat.add_zero] at hi
      exact ⟨hm.x5.cell 0, hi⟩
    have h0i : (0 : Int) < (n : Int) := by omega
    have h0n' : 0 < n := by omega
    generalize f 0 = f0 at *
    go_wp2_with fail
    refine wp_region_held_drew (S := fun W => W.cell? ⟨w2.heap.size, 0, none⟩ = some (.slice (some ⟨bi, oi, none⟩) n ci) ∧ W.cell? ⟨g, off, none⟩ = some (.int .i64 f0)) (by kernel_rfl) (HCC.out _ HBd.out) (fun hHeld => ?_)
    refine wpAnyH_take (i := 0) (oi := ?_) (v := ?_) ?_ (by kernel_rfl) (by kernel_rfl) (by kernel_rfl) ?_ ?_ (by assumption) ?_
    rotate_left 2
    · simp only [List.getElem?_toArray, List.getElem?_cons_succ, List.getElem?_cons_zero]; rfl
    · exact fun _ _ _ h => h
    · first
        | (refine Or.inr ⟨?_, ?_⟩ <;> rfl)
        | (refine Or.inl ⟨?_, ?_⟩; · rfl
           intro w hSw; (try dsimp only at hSw); go_simp; (try with_reducible rfl); done)
    try simp only [Act.put, List.setIfInBounds_toArray, List.set_cons_zero, List.set_cons_succ]
    refine wpAnyH_take (i := 2) (oi := ?_) (v := ?_) ?_ (by kernel_rfl) (by kernel_rfl) (by kernel_rfl) ?_ ?_ (by assumption) ?_
    rotate_left 2
    · simp only [List.getElem?_toArray, List.getElem?_cons_succ, List.getElem?_cons_zero]; rfl
    · exact fun _ _ _ h => h
    · first
        | (refine Or.inr ⟨?_, ?_⟩ <;> rfl)
        | (refine Or.inl ⟨?_, ?_⟩; · rfl
           intro w hSw; (try dsimp only at hSw); go_simp; (try with_reducible rfl); done)
    try simp only [Act.put, List.setIfInBounds_toArray, List.set_cons_zero, List.set_cons_succ]
    refine wpAnyH_take (i := 3) (oi := ?_) (v := ?_) ?_ (by kernel_rfl) (by kernel_rfl) (by kernel_rfl) ?_ ?_ (by assumption) ?_
    rotate_left 2
    · simp only [List.getElem?_toArray, List.getElem?_cons_succ, List.getElem?_cons_zero]; rfl
    · exact fun _ _ _ h => h
    · first
        | (refine Or.inr ⟨?_, ?_⟩ <;> rfl)
        | (refine Or.inl ⟨?_, ?_⟩; · rfl
           intro w hSw; (try dsimp only at hSw); go_simp; (try with_reducible rfl); done)
    try simp only [Act.put, List.setIfInBounds_toArray, List.set_cons_zero, List.set_cons_succ]
    refine wpAnyH_take (i := 7) (oi := ?_) (v := ?_) ?_ (by kernel_rfl) (by kernel_rfl) (by kernel_rfl) ?_ ?_ (by assumption) ?_
    rotate_left 2
    · simp only [List.getElem?_toArray, List.getElem?_cons_succ, List.getElem?_cons_zero]; rfl
    · exact fun _ _ _ h => h
    · first
        | (refine Or.inr ⟨?_, ?_⟩ <;> rfl)
        | (refine Or.inl ⟨?_, ?_⟩; · rfl
           intro w hSw; (try dsimp only at hSw); go_simp; (try with_reducible rfl); done)
    try simp only [Act.put, List.setIfInBounds_toArray, List.set_cons_zero, List.set_cons_succ]
    refine wpAnyH_take (i := 8) (oi := ?_) (v := ?_) ?_ (by kernel_rfl) (by kernel_rfl) (by kernel_rfl) ?_ ?_ (by assumption) ?_
    rotate_left 2
    · simp only [List.getElem?_toArray, List.getElem?_cons_succ, List.getElem?_cons_zero]; rfl
    · exact fun _ _ _ h => h
    · first
        | (refine Or.inr ⟨?_, ?_⟩ <;> rfl)
        | (refine Or.inl ⟨?_, ?_⟩; · rfl
           intro w hSw; (try dsimp only at hSw); go_simp; (try with_reducible rfl); done)
    try simp only [Act.put, List.setIfInBounds_toArray, List.set_cons_zero, List.set_cons_succ]
    refine wpAnyH_take (i := 9) (oi := ?_) (v := ?_) ?_ (by kernel_rfl) (by kernel_rfl) (by kernel_rfl) ?_ ?_ (by assumption) ?_
    rotate_left 2
    · simp only [List.getElem?_toArray, List.getElem?_cons_succ, List.getElem?_cons_zero]; rfl
    · exact fun _ _ _ h => h
    · first
        | (refine Or.inr ⟨?_, ?_⟩ <;> rfl)
        | (refine Or.inl ⟨?_, ?_⟩; · rfl
           intro w hSw; (try dsimp only at hSw); go_simp; (try with_reducible rfl); done)
    try simp only [Act.put, List.setIfInBounds_toArray, List.set_cons_zero, List.set_cons_succ]
    refine wpAnyH_ready (rs := [1]) (by kernel_rfl) (by simp) ?_
    refine AllReadyH.cons (o := ?_) ?_ (fun K hK => ?_) AllReadyH.nil
    rotate_left 1
    · simp only [List.getElem?_toArray, List.getElem?_cons_succ, List.getElem?_cons_zero]; rfl
    go_simp
    go_at_call 11
    go_must (refine Calls.mono (HEX.out _ (HWF.out.below (HM7.out.bl.trans (HBd.out.mono HM7.out.bl.size)))) ?_)
    rintro e w8 ⟨rfl, hb8⟩
    have HB8 := Lib.hid (HBd.out.trans (hb8.mono HBd.out.size))
    clear hb8
    refine hK.out _ _ ?_ (fun hHeld => ?_)
    · try dsimp only
      exact HCC.out _ HB8.out
    clear hK K
    try simp only [Act.put, List.setIfInBounds_toArray, List.set_cons_zero, List.set_cons_succ]
    have HM8 := Lib.hid (HM7.out.below HB8.out rfl)
    have HR8 : Hid (IC w8 bi oi n (runPt t f n).I) := (ptv_rows (p := runPt t f n) HM8.out.f5).1
    refine wpAnyH_ready (rs := [4]) (by kernel_rfl) (by simp) ?_
    refine AllReadyH.cons (o := ?_) ?_ (fun K hK => ?_) AllReadyH.nil
    rotate_left 1
    · simp only [List.getElem?_toArray, List.getElem?_cons_succ, List.getElem?_cons_zero]; rfl
    go_simp
    go_at_call 20
    go_must (refine Calls.mono (HSI.out _ HR8.out) ?_)
    rintro e w9 ⟨rfl, hb9⟩
    have HB9 := Lib.hid (HB8.out.trans (hb9.mono HB8.out.size))
    clear hb9
    refine hK.out _ _ ?_ (fun hHeld => ?_)
    · try dsimp only
      exact HCC.out _ HB9.out
    clear hK K
    try simp only [Act.put, List.setIfInBounds_toArray, List.set_cons_zero, List.set_cons_succ]
    have hy1 : ¬ 9223372036854775807 < 3 + si.size := by omega
    have hy2 : ¬ 9223372036854775807 < 3 + si.size + 1 := by omega
    have hy3 : ¬ 9223372036854775807 < 3 + si.size + 1 + i0.size := by omega
    have hy4 : ¬ 9223372036854775807 < 3 + si.size + 1 + i0.size + 1 := by omega
    have hy5 : ¬ 9223372036854775807 < 3 + si.size + 1 + i0.size + 1 + ee.size := by omega
    refine wpAnyH_take (i := 5) (oi := ?_) (v := ?_) ?_ (by kernel_rfl) (by kernel_rfl) (by kernel_rfl) ?_ ?_ (by assumption) ?_
    rotate_left 2
    · simp only [List.getElem?_toArray, List.getElem?_cons_succ, List.getElem?_cons_zero]; rfl
    · exact fun _ _ _ h => h
    · first
        | (refine Or.inr ⟨?_, ?_⟩ <;> rfl)
        | (refine Or.inl ⟨?_, ?_⟩; · rfl
           intro w hSw; (try dsimp only at hSw); go_simp; (try with_reducible rfl); done)
    try simp only [Act.put, List.setIfInBounds_toArray, List.set_cons_zero, List.set_cons_succ]
    refine wpAnyH_take (i := 6) (oi := ?_) (v := ?_) ?_ (by kernel_rfl) (by kernel_rfl) (by kernel_rfl) ?_ ?_ (by assumption) ?_
    rotate_left 2
    · simp only [List.getElem?_toArray, List.getElem?_cons_succ, List.getElem?_cons_zero]; rfl
    · exact fun _ _ _ h => h
    · first
        | (refine Or.inr ⟨?_, ?_⟩ <;> rfl)
        | (refine Or.inl ⟨?_, ?_⟩; · rfl
           intro w hSw; (try dsimp only at hSw); go_simp; (try with_reducible rfl); done)
    try simp only [Act.put, List.setIfInBounds_toArray, List.set_cons_zero, List.set_cons_succ]
    refine wpAnyH_ready (rs := [10]) (by kernel_rfl) (by simp) ?_
    refine AllReadyH.cons (o := ?_) ?_ (fun K hK => ?_) AllReadyH.nil
    rotate_left 1
    · simp only [List.getElem?_toArray, List.getElem?_cons_succ, List.getElem?_cons_zero]; rfl
    go_simp
    go_at_call 19
    go_must (refine Calls.mono (HD0.out _) ?_)
    rintro e w10 ⟨rfl, hb10⟩
    have HB10 := Lib.hid (HB9.out.trans (hb10.mono HB9.out.size))
    clear hb10
    refine hK.out _ _ ?_ (fun hHeld => ?_)
    · try dsimp only
      exact HCC.out _ HB10.out
    clear hK K
    try simp only [Act.put, List.setIfInBounds_toArray, List.set_cons_zero, List.set_cons_succ]
    refine wpAnyH_take (i := 11) (oi := ?_) (v := ?_) ?_ (by kernel_rfl) (by kernel_rfl) (by kernel_rfl) ?_ ?_ (by assumption) ?_
    rotate_left 2
    · simp only [List.getElem?_toArray, List.getElem?_cons_succ, List.getElem?_cons_zero]; rfl
    · exact fun _ _ _ h => h
    · first
        | (refine Or.inr ⟨?_, ?_⟩ <;> rfl)
        | (refine Or.inl ⟨?_, ?_⟩; · rfl
           intro w hSw; (try dsimp only at hSw); go_simp; (try with_reducible rfl); done)
    try simp only [Act.put, List.setIfInBounds_toArray, List.set_cons_zero, List.set_cons_succ]
    refine wpAnyH_take (i := 12) (oi := ?_) (v := ?_) ?_ (by kernel_rfl) (by kernel_rfl) (by kernel_rfl) ?_ ?_ (by assumption) ?_
    rotate_left 2
    · simp only [List.getElem?_toArray, List.getElem?_cons_succ, List.getElem?_cons_zero]; rfl
    · exact fun _ _ _ h => h
    · first
        | (refine Or.inr ⟨?_, ?_⟩ <;> rfl)
        | (refine Or.inl ⟨?_, ?_⟩; · rfl
           intro w hSw; (try dsimp only at hSw); go_simp; (try with_reducible rfl); done)
    try simp only [Act.put, List.setIfInBounds_toArray, List.set_cons_zero, List.set_cons_succ]
    refine wpAnyH_ready (rs := [13]) (by kernel_rfl) (by simp) ?_
    refine AllReadyH.cons (o := ?_) ?_ (fun K hK => ?_) AllReadyH.nil
    rotate_left 1
    · simp only [List.getElem?_toArray, List.getElem?_cons_succ, List.getElem?_cons_zero]; rfl
    go_simp
    go_at_call 21
    go_must (refine Calls.mono (HEL.out _) ?_)
    rintro e w11 ⟨rfl, hb11⟩
    have HB11 := Lib.hid (HB10.out.trans (hb11.mono HB10.out.size))
    clear hb11
    refine hK.out _ _ ?_ (fun hHeld => ?_)
    · try dsimp only
      exact HCC.out _ HB11.out
    clear hK K
    try simp only [Act.put, List.setIfInBounds_toArray, List.set_cons_zero, List.set_cons_succ]
    refine wpAnyH_take (i := 14) (oi := ?_) (v := ?_) ?_ (by kernel_rfl) (by kernel_rfl) (by kernel_rfl) ?_ ?_ (by assumption) ?_
    rotate_left 2
    · simp only [List.getElem?_toArray, List.getElem?_cons_succ, List.getElem?_cons_zero]; rfl
    · exact fun _ _ _ h => h
    · first
        | (refine Or.inr ⟨?_, ?_⟩ <;> rfl)
        | (refine Or.inl ⟨?_, ?_⟩; · rfl
           intro w hSw; (try dsimp only at hSw); go_simp; (try with_reducible rfl); done)
    try simp only [Act.put, List.setIfInBounds_toArray, List.set_cons_zero, List.set_cons_succ]
    refine wpAnyH_take (i := 15) (oi := ?_) (v := ?_) ?_ (by kernel_rfl) (by kernel_rfl) (by kernel_rfl) ?_ ?_ (by assumption) ?_
    rotate_left 2
    · simp only [List.getElem?_toArray, List.getElem?_cons_succ, List.getElem?_cons_zero]; rfl
    · exact fun _ _ _ h => h
    · first
        | (refine Or.inr ⟨?_, ?_⟩ <;> rfl)
        | (refine Or.inl ⟨?_, ?_⟩; · rfl
           intro w hSw; (try dsimp only at hSw); go_simp; (try with_reducible rfl); done)
    try simp only [Act.put, List.setIfInBounds_toArray, List.set_cons_zero, List.set_cons_succ]
    refine wpAnyH_take (i := 16) (oi := ?_) (v := ?_) ?_ (by kernel_rfl) (by kernel_rfl) (by kernel_rfl) ?_ ?_ (by assumption) ?_
    rotate_left 2
    · simp only [List.getElem?_toArray, List.getElem?_cons_succ, List.getElem?_cons_zero]; rfl
    · exact fun _ _ _ h => h
    · first
        | (refine Or.inr ⟨?_, ?_⟩ <;> rfl)
        | (refine Or.inl ⟨?_, ?_⟩; · rfl
           intro w hSw; (try dsimp only at hSw); go_simp; (try with_reducible rfl); done)
    try simp only [Act.put, List.setIfInBounds_toArray, List.set_cons_zero, List.set_cons_succ]
    refine wpAnyH_done (by kernel_rfl) ?_ _
    clear hHeld
    go_wp2_with fail
    go_ret
    exact ⟨rfl, HM7.out.bl.trans (HB11.out.mono HM7.out.bl.size)⟩
end Go.Proofs.YtlkdmpfifpkpaaaGreatDoor
namespace Go.Proofs.YtlkdmpfifpkpaaaGreatDoor
open Go.RowKit

theorem laidOut : laidOutB Tryz.prog = true := by kernel_rfl
theorem own : ownKnob Tryz.prog.godebug = none := by kernel_rfl
theorem cellsU8 : Tryz.prog.cellsOf 5 = 1 := by kernel_rfl

/-- a slice of bytes that came in -/
theorem open_BS {H : Type} {enc : TypeId × Value → H} {w : World} {base : Nat} {spare : Nat → Bool} {held : Bool} {fuel : Nat} {cs : List Value} {y : DataW H × List MemPlace}
    (h : DataW.trod enc Tryz.prog w base spare held fuel 22 cs = some y) (hw : ∀ b, spare b = true) : ∃ ao n c, cs = [.slice ao n c] ∧ BSl w ao n ∧ n ≤ c ∧ n ≤ 9223372036854775807 := by
  rcases Go.ChangeShapes.open_ints Tryz.underlying22 Tryz.underlying5 cellsU8 h with ⟨hcs, hx⟩ | ⟨a, len', cap', zs, hcs, _, hl, hm, hz, hx, hcell, hwz⟩
  · exact ⟨none, 0, 0, hcs, .inl rfl, Nat.le_refl _, by omega⟩
  · rw [if_pos (hw _)] at hz
    unfold maxLen at hm
    refine ⟨some a, len', cap', hcs, ?_, hl, by omega⟩
    by_cases h0 : len' = 0
    · exact .inl h0
    · obtain ⟨b, o, s⟩ := a
      have c0 := hcell 0 (by omega)
      have hs : s = none := by
        cases s with
        | none => rfl
        | some s =>
          exfalso
          revert c0
          simp only [World.cell?, Addr.add]
          split <;> simp
      subst hs
      refine .inr ⟨b, o, fun i => zs[i]?.getD 0, rfl, fun k hk => ⟨?_, range_u8 hwz k⟩⟩
      rw [← addr_add, hcell k (by omega), List.getD_eq_getElem?_getD]
end Go.Proofs.YtlkdmpfifpkpaaaGreatDoor
namespace Go.Proofs.YtlkdmpfifpkpaaaGreatDoor
open Go.RowKit Go.ChangeShapes Go.WideShapes

/-- the variables that each row of this seat lists -/
def lRow : List (String × DataW Unit) := Rows.fnExecuteBookRow.laid
theorem gPowT : (Tryz.prog.globals[1]?).map (·.type) = some 161 := by kernel_rfl
set_option maxRecDepth 100000 in
theorem laid_met (os : Os) (args : Array Value) : laidMetH Tryz.prog lRow ((World.laidAll Tryz.prog os lRow).forCall (fun _ _ => 0) ⟨#[], args, []⟩).memory := by
  rw [MakeChecks.laidMetH_plain _ _ _ (by kernel_rfl)]
  exact laidMet_laidAll _ (by kernel_rfl) (by kernel_rfl)
theorem wf_of {W : World} (h : laidMetH Tryz.prog lRow W) (hsh : W.ShapedOpen Tryz.prog) : ∃ m, WF m W := by
  rw [MakeChecks.laidMetH_plain _ _ _ (by kernel_rfl)] at h
  have h1 := h.filter (fun x => x.1 == "internal/strconv.uint64pow10")
  have h2 : lRow.filter (fun x => x.1 == "internal/strconv.uint64pow10") = [("internal/strconv.uint64pow10", Lib.tabData .u64 Lib.pow10Tab)] := by kernel_rfl
  rw [h2] at h1
  obtain ⟨m, hm⟩ := cell_of_shapedOpen_int (g := 0) (t := 3) (zero := #[.int .i64 0]) hsh (of_decide_eq_true (by kernel_rfl)) (by kernel_rfl) rfl (by kernel_rfl) (by kernel_rfl) Tryz.underlying3
  exact ⟨m, hm, Lib.tabIs_of_head gPow gPowT Tryz.underlying161 Tryz.underlying142 (by kernel_rfl) (by kernel_rfl) h1⟩
set_option maxRecDepth 100000 in
/-- the wrap of a tied row: the contract is handed what the walks ask of the world -/
theorem cardLift {H : Type} {enc : TypeId × Value → H} {os : Os} {f : FuncId} {fn : Func} {s : ChangeSpec} {conds : List PathCond} {apart fresh handsOn again : Bool}
    (started : os.Started) (noInit : Tryz.prog.inits.idxOf? f = none) (hfn : Tryz.prog.funcs[f]? = some fn)
    (witness : ∃ (w : World) (tape : Tape) (i : Input), w.os = os ∧ (w.forCall tape i).Shaped Tryz.prog ∧ i.vars = [] ∧ Input.okWide Tryz.prog (w.forCall tape i) .any w.heap.size f i ∧
      ((s.pre enc Tryz.prog fn conds apart (w.forCall tape i).memory i.args ∧ laidMetH Tryz.prog lRow (w.forCall tape i).memory) ∧ sizedMet enc Tryz.prog fn (OpenSpec.ofChange s) apart (w.forCall tape i).memory i.args) ∧ ({} : Assume).holds Tryz.prog (lone (Frame.enter Tryz.prog f i.args .normal) [] (w.forCall tape i)))
    (contract : ∀ (W : World) (m : Int) (base : Nat) (args : Array Value) (ds gs : List (DataW H)) (before : List MemPlace),
      (∀ (j : Nat) t v, fn.params[j]? = some t → args[j]? = some v → Value.okWide Tryz.prog W .any base t v) →
      DataW.Whole enc Tryz.prog fn.params.toList s.vars apart W args.toList ds gs before → WF m W →
      Calls Tryz.prog f args W fun e W' => ∃ v, e = .returned v ∧ s.post enc Tryz.prog fn apart fresh handsOn again W args v W') :
    ReturnsInHanded {} Tryz.checked os f .any (fun w args => (s.pre enc Tryz.prog fn conds apart w args ∧ laidMetH Tryz.prog lRow w) ∧ sizedMet enc Tryz.prog fn (OpenSpec.ofChange s) apart w args) (s.post enc Tryz.prog fn apart fresh handsOn again) := by
  refine returnsInHanded_of_calls own started noInit witness ?_
  intro w tape i _ hsh _ hok hpre _
  obtain ⟨_, _, _, fn', hfn', _, _, _, _, hval⟩ := hok
  obtain rfl : fn' = fn := Option.some.inj (hfn'.symm.trans hfn)
  obtain ⟨⟨⟨ds, gs, before, hw, _⟩, hl⟩, _⟩ := hpre
  have hw' := DataW.Whole.of_heap (w' := w.forCall tape i) (by rfl) hw
  obtain ⟨m, hm⟩ := wf_of (laidMetH.of_heap (w' := w.forCall tape i) (by rfl) hl) hsh
  refine (contract (w.forCall tape i) m w.heap.size i.args ds gs before hval hw' hm).mono fun e W' ⟨v, he, hp⟩ => ?_
  subst he
  exact ChangeSpec.post_blind hp
end Go.Proofs.YtlkdmpfifpkpaaaGreatDoor
namespace Go.Proofs.YtlkdmpfifpkpaaaGreatDoor
open Go.ChangeShapes Go.WideShapes Go.ChangeAt Go.RowKit

set_option maxRecDepth 100000 in
theorem fnExecuteFit_lifted (os : Os) (started : os.Started) (H : Type) (enc : TypeId × Value → H) :
    ReturnsInHanded {} Tryz.checked os 7 .any (fun w args => (Rows.fnExecuteFitSpec.pre enc Tryz.prog Tryz.f7 Rows.fnExecuteFitRow.domain false w args ∧ laidMetH Tryz.prog lRow w) ∧ sizedMet enc Tryz.prog Tryz.f7 (OpenSpec.ofChange Rows.fnExecuteFitSpec) false w args) (Rows.fnExecuteFitSpec.post enc Tryz.prog Tryz.f7 false true false false) := by
  refine cardLift started (by kernel_rfl) Tryz.func7
    (ChangeSpec.witness_shaped (enc := enc) (C := Tryz.checked) (os := os) (X := fun w _ => laidMetH Tryz.prog lRow w) false (World.laidAll Tryz.prog os lRow) #[.slice none 0 0] 8 (World.laidAll_os _ _ _)
      (World.shaped_of_ZipB (by kernel_rfl) (by kernel_rfl)) (by kernel_rfl) (by kernel_rfl) (by kernel_rfl) (laid_met os _)) ?_
  intro W m base args ds gs before hval0 hW hWF
  have hval : ∀ (j : Nat) t v, Tryz.f7.params[j]? = some t → args[j]? = some v → Value.okWide Tryz.prog W .any base t v := hval0
  have hW' := hW
  obtain ⟨p, q, hA0, hV, rfl, _, _⟩ := hW
  have hA : DataW.TrodAll enc Tryz.prog W 0 (fun _ => true) true Tryz.f7.params.toList args.toList ds p := hA0
  rw [Tryz.params7] at hA hval
  obtain ⟨v0, vs0, d0, ds0, p0, q0, hargs, rfl, rfl, h0, r0⟩ := trodAll_cons hA
  obtain ⟨rfl, rfl, rfl⟩ := trodAll_nil r0
  obtain rfl : args = #[v0] := by cases args; simp_all
  obtain ⟨rfl, rfl⟩ := trodVars_none hV
  have h0k := h0
  obtain ⟨a0, n0, c0, rfl⟩ := okWide_slice Tryz.underlying22 (hval 0 22 v0 rfl rfl)
  obtain ⟨fuel, hf⟩ := h0
  obtain ⟨ao, n, c, hcs, hsa, hnc, hna⟩ := open_BS hf (fun _ => rfl)
  simp [Value.cells] at hcs
  obtain ⟨rfl, rfl, rfl⟩ := hcs
  clear hA0 hval0
  simp only [List.append_nil] at hW'
  have hlt : ∀ z ∈ p0, z.block < W.heap.size := fun z hz => by have := hW'.lt z; simp at this hz ⊢; exact this hz
  refine (lawFit_any m _ _ _ W hWF hsa hnc hna).mono fun e W' ⟨he, hb⟩ => ?_
  subst he
  exact ⟨_, rfl, _, _, _, [], _, [], hW', trodAll_cons_mk (shut_bool Tryz.underlying4 _) trodAll_mk0, trodAll_cons_mk (Below.trod laidOut (by kernel_rfl) (of_decide_eq_true (by kernel_rfl)) h0k hb hlt) trodAll_mk0, rfl, hb.frame _, fun h => by cases h⟩

theorem fnExecuteFit_row : Rows.FnExecuteFitSaid :=
  OpenClaim.holds_of_wide 7 Tryz.f7 rfl rfl rfl rfl rfl rfl rfl ⟨rfl, rfl, rfl, rfl, rfl⟩ rfl rfl rfl rfl rfl (by kernel_rfl) Tryz.func7 (by kernel_rfl)
    (of_decide_eq_true (by kernel_rfl)) (by unfold Func.isWrapper; first | (rw [if_pos (by decide +kernel)]; kernel_rfl) | (rw [if_neg (by decide +kernel)]; exact ⟨rfl, rfl⟩))
    (fun os started H enc _ => fnExecuteFit_lifted os started H enc)
theorem fnExecuteFit_proved : Rows.FnExecuteFitCardSaid :=
  Claim7.holds_tied_plain_at .later [] [.data, .data, .data, .data, .pinned] true (true, "d158c4b0d36a3f3572ae2f15a081a2bd079217f713e2c6219487da737a42ce05") true
    fnExecuteFit_row (fun _ h => by cases h) (by kernel_rfl) (fun _ h => by cases h) fnExecuteFit_row_tie rfl ⟨rfl, rfl⟩ (by kernel_rfl) rfl
    (fun f fn hf hfn => by
      obtain rfl : f = 7 := Option.some.inj ((show Tryz.prog.funcNamed "loop.example/blockboxes/laws.FnExecuteFit" = some 7 by kernel_rfl).symm.trans hf) |>.symm
      obtain rfl : fn = Tryz.f7 := (Option.some.inj (Tryz.func7.symm.trans hfn)).symm
      exact ⟨by kernel_rfl, fun j t ht => by
        rw [Tryz.params7] at ht
        have hm : t ∈ [22] := by simpa using Array.mem_of_getElem? ht
        have hall : ([22].all fun u => !Tryz.prog.wantsStandIn u) = true := by kernel_rfl
        exact (show Tryz.prog.wantsStandIn t = false by simpa using List.all_eq_true.1 hall t hm)⟩)
    (by kernel_rfl)
end Go.Proofs.YtlkdmpfifpkpaaaGreatDoor
