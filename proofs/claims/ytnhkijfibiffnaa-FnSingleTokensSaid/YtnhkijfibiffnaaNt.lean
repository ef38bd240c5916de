/-
  Walks: SingleNth, and the law on it.
-/
import Derived.Test.YtnhkijfibiffnaaR
namespace Go.Proofs.Ytnhkijfibiffnaa
open Go.RowKit

/-- a text of letters -/
def strOf (l : List UInt8) : ByteArray := ⟨l.toArray⟩
theorem strOf_size (l : List UInt8) : (strOf l).size = l.length := by simp [strOf, ByteArray.size]
theorem strOf_snoc (l : List UInt8) (c : UInt8) : strOf l ++ ⟨#[c]⟩ = strOf (l ++ [c]) := by
  apply ByteArray.ext
  simp [strOf]
theorem strOf_nil : strOf [] = ⟨#[]⟩ := rfl
/-- the order with a rank, letter by letter -/
def nthL : Nat → Nat → Nat → Nat → List UInt8
  | 0, _, _, _ => []
  | n + 1, a, b, r => if r < fstN a b then 68 :: nthL n a (b - 1) r else 85 :: nthL n (a - 1) b (r - fstN a b)
theorem nthL_D {n a b r : Nat} (h : r < fstN a b) : nthL (n + 1) a b r = 68 :: nthL n a (b - 1) r := if_pos h
theorem nthL_U {n a b r : Nat} (h : ¬ r < fstN a b) : nthL (n + 1) a b r = 85 :: nthL n (a - 1) b (r - fstN a b) := if_neg h
theorem nthL_length : ∀ n a b r, (nthL n a b r).length = n
  | 0, _, _, _ => rfl
  | n + 1, a, b, r => by
    unfold nthL
    split <;> simp [nthL_length n]
/-- what a step does to the ranks that are left -/
theorem nth_down {a b r : Nat} (h : r < fstN a b) : 0 < b ∧ r < pasc a (b - 1) := by
  unfold fstN at h
  split at h
  · exact ⟨by omega, h⟩
  · omega
theorem nth_up {a b r : Nat} (hr : r < pasc a b) (hn : 0 < a + b) (h : ¬ r < fstN a b) : 0 < a ∧ r - fstN a b < pasc (a - 1) b := by
  by_cases hb : b = 0
  · subst hb
    rw [pasc_right] at *
    exact ⟨by omega, by rw [fstN_zero]; omega⟩
  · obtain ⟨b, rfl⟩ : ∃ b', b = b' + 1 := ⟨b - 1, by omega⟩
    rw [fstN_succ] at *
    by_cases ha : a = 0
    · subst ha
      rw [pasc_left] at *
      omega
    · obtain ⟨a, rfl⟩ : ∃ a', a = a' + 1 := ⟨a - 1, by omega⟩
      rw [pasc_step] at hr
      refine ⟨by omega, ?_⟩
      have : a + 1 - 1 = a := by omega
      rw [this]
      omega

/-- SingleNth succeeds -/
def nthOk (x : Sg) (r : Int) : Bool := inB r 0 (manyV x - 1)
def nthFull (x : Sg) (r : Int) : List UInt8 := nthL (x.na + x.nb) x.na x.nb r.toNat
def nthS (x : Sg) (r : Int) : ByteArray := if nthOk x r = true then strOf (nthFull x r) else ⟨#[]⟩
theorem nthS_no {x : Sg} {r : Int} (h : nthOk x r = false) : nthS x r = ⟨#[]⟩ := if_neg (by rw [h]; simp)
theorem nthS_yes {x : Sg} {r : Int} (h : nthOk x r = true) : nthS x r = strOf (nthFull x r) := if_pos h
theorem nthOk_valid {x : Sg} {r : Int} (h : nthOk x r = true) : sgOk x = true ∧ 0 ≤ r ∧ r < pasc x.na x.nb := by
  have h1 := inB_true.1 h
  cases hs : sgOk x
  · rw [manyV_no hs] at h1; omega
  · rw [manyV_yes hs] at h1; exact ⟨rfl, by omega, by omega⟩
theorem retPair {a b : ByteArray} {c d : Bool} (h : a = b) (h' : c = d) : Ending.returned (.tuple #[.string a, .bool c]) = .returned (.tuple #[.string b, .bool d]) := by rw [h, h']


theorem specNth_any (v : Value) (x : Sg) (w : World) (r : Int) (hr : -9223372036854775808 ≤ r ∧ r ≤ 9223372036854775807) (hv : SgV w v x) (ha : x.na ≤ 1000000000000000) (hb : x.nb ≤ 1000000000000000) :
    Calls Try.prog 20 #[v, .int .i64 r] w fun e w' => e = .returned (.tuple #[.string (nthS x r), .bool (nthOk x r)]) ∧ Below w.heap.size w w' := by
  have hbb : ∀ a, Below w.heap.size w (w.alloc a) := fun a => (Below.refl _ _).alloc (Nat.le_refl _) _
  have hv0 := hv
  obtain ⟨ba, oa, ca, bb, ob, cb, rfl, hca, hcb⟩ := hv
  clear hca hcb
  have HV := Lib.hid hv0
  clear hv0
  have hmb : -1 ≤ manyV x ∧ manyV x ≤ 4096 := by
    cases hs : sgOk x
    · rw [manyV_no hs]; omega
    · rw [manyV_yes hs]; have := sgOk_le hs; have := pasc_le x.na x.nb (by omega); omega
  go_enter Try.func20, Try.ntmps20
  go_wp2_with fail
  refine (specMany_any _ x _ (HV.out.keep (hbb _)) (by omega) (by omega)).mono ?_
  rintro e w1 ⟨rfl, hb1⟩
  rw [World.size_alloc] at hb1
  have hbox := box_cells hb1 (by omega)
  have HB1 := Lib.hid hb1
  clear hb1
  go_wp2_with fail
  refine (l6In_any _ _ _ _).mono ?_
  rintro e w' ⟨rfl, rfl⟩
  cases hok : inB r 0 (manyV x - 1)
  · have HK : Hid (nthOk x r = false) := hok
    clear hok
    go_wp2_with fail
    go_ret2
    exact ⟨retPair (nthS_no HK.out).symm HK.out.symm, (hbb _).trans (HB1.out.mono (by omega))⟩
  have HK : Hid (nthOk x r = true) := hok
  have hkv := nthOk_valid hok
  obtain ⟨r, rfl⟩ := Int.eq_ofNat_of_zero_le hkv.2.1
  have hle := sgOk_le hkv.1
  have hq0 : r < pasc x.na x.nb := by omega
  clear hok hkv
  go_wp2_with fail
  go_loop [1, 6, 7, 8] (fun rk sa sb out => ∃ (n a b q : Nat) (pre : List UInt8), sa = .int .i64 a ∧ sb = .int .i64 b ∧ rk = .int .i64 q ∧ out = .string (strOf pre) ∧ a ≤ x.na ∧ b ≤ x.nb ∧ q < pasc a b ∧ Hid (n = a + b ∧ pre ++ nthL n a b q = nthFull x (r : Int) ∧ pre.length + n = x.na + x.nb)) (fun _ sa sb _ => (intOf sa).toNat + (intOf sb).toNat)
  case atStart => exact ⟨x.na + x.nb, x.na, x.nb, r, [], rfl, rfl, rfl, rfl, Nat.le_refl _, Nat.le_refl _, hq0, rfl, by simp [nthFull], by simp⟩
  case round =>
    obtain ⟨n, a, b, q, pre, rfl, rfl, rfl, rfl, hax, hbx, hq, HN⟩ := hrel
    have hsz : (strOf pre).size ≤ 12 := by rw [strOf_size]; have := HN.out.2.2; omega
    have hqb : q ≤ 4096 := by have := pasc_le a b (by omega); omega
    by_cases hpos : 0 < a + b
    · obtain ⟨n, rfl⟩ : ∃ n', n = n' + 1 := ⟨n - 1, by have := HN.out.1; omega⟩
      by_cases hb0 : 0 < b
      · obtain ⟨b, rfl⟩ : ∃ b', b = b' + 1 := ⟨b - 1, by omega⟩
        have hp := pasc_le a b (by omega)
        by_cases hlt : q < pasc a b
        · have hF := nthL_D (n := n) (a := a) (b := b + 1) (r := q) hlt
          have HF := Lib.hid hF
          clear hF
          go_wp2_with fail
          refine (l8Many_any 12 _ _ _ (by omega) (by omega)).mono ?_
          rintro e w' ⟨rfl, rfl⟩
          go_wp2_with fail
          go_round
          case rel => exact ⟨n, a, b, q, pre ++ [68], rfl, rfl, rfl, by rw [strOf_snoc], by omega, by omega, hlt, by
            have h3 := HN.out
            refine ⟨by omega, ?_, by simp; omega⟩
            rw [← h3.2.1, HF.out]
            simp⟩
          case measure => simp [intOf]
        · have hF := nthL_U (n := n) (a := a) (b := b + 1) (r := q) hlt
          have HF := Lib.hid hF
          have hu := nth_up hq (by omega) hlt
          have ha0 := hu.1
          have HU := Lib.hid hu.2
          obtain ⟨a, rfl⟩ : ∃ a', a = a' + 1 := ⟨a - 1, by omega⟩
          clear hF hu
          go_wp2_with fail
          refine (l8Many_any 12 (a + 1) b _ (by omega) (by omega)).mono ?_
          rintro e w' ⟨rfl, rfl⟩
          go_wp2_with fail
          go_round
          case rel => exact ⟨n, a, b + 1, q - fstN (a + 1) (b + 1), pre ++ [85], rfl, rfl, by rw [fstN_succ]; go_num, by rw [strOf_snoc], by omega, by omega, HU.out, by
            have h3 := HN.out
            refine ⟨by omega, ?_, by simp; omega⟩
            rw [← h3.2.1, HF.out]
            simp⟩
          case measure => simp [intOf]
      · obtain rfl : b = 0 := by omega
        have hlt : ¬ q < fstN a 0 := by rw [fstN_zero]; omega
        have hF := nthL_U (n := n) (a := a) (b := 0) (r := q) hlt
        have HF := Lib.hid hF
        have hu := nth_up hq (by omega) hlt
        have ha0 := hu.1
        have HU := Lib.hid hu.2
        obtain ⟨a, rfl⟩ : ∃ a', a = a' + 1 := ⟨a - 1, by omega⟩
        clear hF hu hlt
        go_wp2_with fail
        go_round
        case rel => exact ⟨n, a, 0, q - fstN (a + 1) 0, pre ++ [85], rfl, rfl, by rw [fstN_zero]; go_num, by rw [strOf_snoc], by omega, by omega, HU.out, by
          have h3 := HN.out
          refine ⟨by omega, ?_, by simp; omega⟩
          rw [← h3.2.1, HF.out]
          simp⟩
        case measure => simp [intOf]
    · obtain rfl : a = 0 := by omega
      obtain rfl : b = 0 := by omega
      go_wp2_with fail
      go_ret2
      exact ⟨retPair (by rw [nthS_yes HK.out, ← HN.out.2.1]; rw [show n = 0 from by have := HN.out.1; omega]; simp [nthL]) HK.out.symm, (hbb _).trans (HB1.out.mono (by omega))⟩

theorem elU8 : Elem Try.prog 22 5 (.int .u8 0) 1 1 := ⟨Try.underlying22, by kernel_rfl, rfl, by decide⟩
theorem run_mk0i {P : Program} {t e : TypeId} {z : Value} {bytes : Nat} {s : Nat} (he : Elem P t e z s bytes) (c : Nat) (C : Int) (hC : C = (c : Int)) (hb : bytes * c ≤ 281474976710656) (h63 : c ≤ 9223372036854775807) (w : World) :
    (Instr.makeSlice t (.int .i64 0) (.int .i64 C)).run P w = .ok (.slice (some ⟨w.heap.size, 0, none⟩) 0 c) (w.alloc (.cells (madeCells z.cells (c * s)) e)) := by
  subst hC; exact run_mk0 he c hb h63 w
/-- the cells of a row of bytes -/
def u8F (l : List UInt8) (i : Nat) : Value := .int .u8 ((l.getD i 0).toNat : Int)
theorem u8F_at {l r : List UInt8} {k : Nat} {c : UInt8} (h : l.drop k = c :: r) : u8F l k = .int .u8 (c.toNat : Int) := by
  have : l[k]? = some c := by
    have h1 : (l.drop k)[0]? = some c := by rw [h]; rfl
    simpa using h1
  simp [u8F, List.getD, this]
theorem drop_next {l r : List UInt8} {k : Nat} {c : UInt8} (h : l.drop k = c :: r) : l.drop (k + 1) = r := by
  rw [← List.drop_drop, h]; rfl
/-- string(b) of an own row of bytes -/
theorem run_str {w : World} {g cap n : Nat} {l : List UInt8} (ho : Own w g cap n 1 5 (u8F l)) (hn : n = l.length) :
    (convert 22 9 (.slice (some ⟨g, 0, none⟩) n cap)).run Try.prog w = .ok (.string (strOf l)) w := by
  subst hn
  refine run_convert_bytes_back (P := Try.prog) w 22 9 5 ⟨g, 0, none⟩ cap l Try.underlying22 Try.underlying5 Try.underlying9 (fun j hj => ?_)
  rw [addr_add, Nat.zero_add, ho.cell1 hj]
  simp [u8F, List.getD, hj]

set_option maxHeartbeats 1000000 in
theorem implNth_any (v : Value) (x : Sg) (w : World) (r : Int) (hr : -9223372036854775808 ≤ r ∧ r ≤ 9223372036854775807) (hv : SgV w v x) (ha : x.na ≤ 1000000000000000) (hb : x.nb ≤ 1000000000000000) :
    Calls Try.prog 19 #[v, .int .i64 r] w fun e w' => e = .returned (.tuple #[.string (nthS x r), .bool (nthOk x r)]) ∧ Below w.heap.size w w' := by
  have hbb : ∀ a, Below w.heap.size w (w.alloc a) := fun a => (Below.refl _ _).alloc (Nat.le_refl _) _
  have hv0 := hv
  obtain ⟨ba, oa, ca, bb, ob, cb, rfl, hca, hcb⟩ := hv
  clear hca hcb
  have HV := Lib.hid hv0
  clear hv0
  by_cases hr0 : r < 0
  · have HK : Hid (nthOk x r = false) := by
      show inB r 0 _ = false
      exact inB_false.2 (by omega)
    go_enter Try.func19, Try.ntmps19
    go_wp2_with fail
    go_ret2
    exact ⟨retPair (nthS_no HK.out).symm HK.out.symm, hbb _⟩
  obtain ⟨r, rfl⟩ := Int.eq_ofNat_of_zero_le (show 0 ≤ r by omega)
  have hmb : -1 ≤ manyV x ∧ manyV x ≤ 4096 := by
    cases hs : sgOk x
    · rw [manyV_no hs]; omega
    · rw [manyV_yes hs]; have := sgOk_le hs; have := pasc_le x.na x.nb (by omega); omega
  go_enter Try.func19, Try.ntmps19
  go_wp2_with fail
  refine (implMany_any _ x _ (HV.out.keep (hbb _)) (by omega) (by omega)).mono ?_
  rintro e w1 ⟨rfl, hb1⟩
  rw [World.size_alloc] at hb1
  have hbox := box_cells hb1 (by omega)
  have HB1 := Lib.hid hb1
  clear hb1
  by_cases hm : manyV x ≤ (r : Int)
  · have HK : Hid (nthOk x (r : Int) = false) := by
      show inB (r : Int) 0 _ = false
      exact inB_false.2 (by omega)
    go_wp2_with fail
    go_ret2
    exact ⟨retPair (nthS_no HK.out).symm HK.out.symm, (hbb _).trans (HB1.out.mono (by omega))⟩
  have hok : nthOk x (r : Int) = true := inB_true.2 (by omega)
  have hkv := nthOk_valid hok
  have HK := Lib.hid hok
  have hle := sgOk_le hkv.1
  have hq0 : r < pasc x.na x.nb := by omega
  have hfl : (nthFull x (r : Int)).length = x.na + x.nb := nthL_length _ _ _ _
  have HFL := Lib.hid hfl
  clear hok hkv hfl
  have hmk := fun w => run_mk0i elU8 (x.na + x.nb) ((x.na : Int) + (x.nb : Int)) (by omega) (by omega) (by omega) w
  go_wp2_with fail
  go_quiet (fail)
  go_wp2_with fail
  go_loopw [1, 6, 7, 8] (fun rk sa sb out wr => ∃ n a b q k g c : Nat, sa = .int .i64 a ∧ sb = .int .i64 b ∧ rk = .int .i64 q ∧ out = .slice (some ⟨g, 0, none⟩) k c ∧ a ≤ x.na ∧ b ≤ x.nb ∧ q < pasc a b ∧ w.heap.size + 1 ≤ g ∧
      Own wr g c k 1 5 (u8F (nthFull x (r : Int))) ∧ Below (w.heap.size + 1) (w.alloc (.cells #[.slice (some ⟨ba, oa, none⟩) x.na ca, .slice (some ⟨bb, ob, none⟩) x.nb cb, .int .i64 x.run, .int .i64 x.head] 25)) wr ∧
      Hid (n = a + b ∧ (nthFull x (r : Int)).drop k = nthL n a b q ∧ k + n = x.na + x.nb)) (fun _ sa sb _ _ => (intOf sa).toNat + (intOf sb).toNat)
  case atStart =>
    refine ⟨x.na + x.nb, x.na, x.nb, r, 0, _, _, rfl, rfl, rfl, rfl, Nat.le_refl _, Nat.le_refl _, hq0, ?_, own_at _ _ _ _ _ (by unfold maxLen; omega) (by simp), ?_, rfl, by simp [nthFull], by simp⟩
    · have := HB1.out.size; simp at this ⊢; omega
    · have := HB1.out.size
      exact (below_drewN HB1.out _).alloc (by simp at this ⊢; omega) _
  case round =>
    obtain ⟨n, a, b, q, k, g, c, rfl, rfl, rfl, rfl, hax, hbx, hq, hg, how, hb, HN⟩ := hrel
    have HW := Lib.hid how
    have HB := Lib.hid hb
    have hqb : q ≤ 4096 := by have := pasc_le a b (by omega); omega
    have hkk : k ≤ 12 := by have := HN.out.2.2; omega
    clear how hb hbox
    by_cases hpos : 0 < a + b
    · obtain ⟨n, rfl⟩ : ∃ n', n = n' + 1 := ⟨n - 1, by have := HN.out.1; omega⟩
      by_cases hb0 : 0 < b
      · obtain ⟨b, rfl⟩ : ∃ b', b = b' + 1 := ⟨b - 1, by omega⟩
        have hp := pasc_le a b (by omega)
        by_cases hlt : q < pasc a b
        · have hF := nthL_D (n := n) (a := a) (b := b + 1) (r := q) hlt
          have HF := Lib.hid hF
          have HU := Lib.hid hlt
          have hv : Value.int .u8 68 = u8F (nthFull x (r : Int)) k := by have h4 := HN.out.2.1; rw [hF] at h4; rw [u8F_at h4]; rfl
          have HV2 := Lib.hid hv
          clear hF hv
          go_wp2_with fail
          refine (ways_any a b _ (by omega) (by omega)).mono ?_
          rintro e w' ⟨rfl, rfl⟩
          go_wp2_with (at_builtin; refine wpList_pushV elU8 rfl (.tmp 41) (.tmp 42) rfl HW.out rfl rfl HV2.out rfl (by omega) (by omega) ?_; intro g' c' wa HA hgr hd)
          have z1 := HB.out.size
          have l1 := HW.out.lt
          have z2 := hgr.size
          rw [World.size_alloc] at z1
          go_roundw
          case rel => exact ⟨n, a, b, q, k + 1, g', c', rfl, rfl, rfl, rfl, by omega, by omega, HU.out, by omega, HA, HB.out.trans (below_of_grown hgr (by omega) (by omega)), by
            have h3 := HN.out
            refine ⟨by omega, ?_, by omega⟩
            have h4 := h3.2.1
            rw [HF.out] at h4
            exact drop_next h4⟩
          case measure => simp [intOf]
        · have hF := nthL_U (n := n) (a := a) (b := b + 1) (r := q) hlt
          have HF := Lib.hid hF
          have hu := nth_up hq (by omega) hlt
          have ha0 := hu.1
          have HU := Lib.hid hu.2
          obtain ⟨a, rfl⟩ : ∃ a', a = a' + 1 := ⟨a - 1, by omega⟩
          have hv : Value.int .u8 85 = u8F (nthFull x (r : Int)) k := by have h4 := HN.out.2.1; rw [hF] at h4; rw [u8F_at h4]; rfl
          have HV2 := Lib.hid hv
          clear hF hu hv
          go_wp2_with fail
          refine (ways_any (a + 1) b _ (by omega) (by omega)).mono ?_
          rintro e w' ⟨rfl, rfl⟩
          go_wp2_with (at_builtin; refine wpList_pushV elU8 rfl (.tmp 49) (.tmp 50) rfl HW.out rfl rfl HV2.out rfl (by omega) (by omega) ?_; intro g' c' wa HA hgr hd)
          have z1 := HB.out.size
          have l1 := HW.out.lt
          have z2 := hgr.size
          rw [World.size_alloc] at z1
          go_roundw
          case rel => exact ⟨n, a, b + 1, q - fstN (a + 1) (b + 1), k + 1, g', c', rfl, rfl, by rw [fstN_succ]; go_num, rfl, by omega, by omega, HU.out, by omega, HA, HB.out.trans (below_of_grown hgr (by omega) (by omega)), by
            have h3 := HN.out
            refine ⟨by omega, ?_, by omega⟩
            have h4 := h3.2.1
            rw [HF.out] at h4
            exact drop_next h4⟩
          case measure => simp [intOf]
      · obtain rfl : b = 0 := by omega
        have hlt : ¬ q < fstN a 0 := by rw [fstN_zero]; omega
        have hF := nthL_U (n := n) (a := a) (b := 0) (r := q) hlt
        have HF := Lib.hid hF
        have hu := nth_up hq (by omega) hlt
        have ha0 := hu.1
        have HU := Lib.hid hu.2
        obtain ⟨a, rfl⟩ : ∃ a', a = a' + 1 := ⟨a - 1, by omega⟩
        have hv : Value.int .u8 85 = u8F (nthFull x (r : Int)) k := by have h4 := HN.out.2.1; rw [hF] at h4; rw [u8F_at h4]; rfl
        have HV2 := Lib.hid hv
        clear hF hu hlt hv
        go_wp2_with (at_builtin; refine wpList_pushV elU8 rfl (.tmp 49) (.tmp 50) rfl HW.out rfl rfl HV2.out rfl (by omega) (by omega) ?_; intro g' c' wa HA hgr hd)
        have z1 := HB.out.size
        have l1 := HW.out.lt
        have z2 := hgr.size
        rw [World.size_alloc] at z1
        go_roundw
        case rel => exact ⟨n, a, 0, q - fstN (a + 1) 0, k + 1, g', c', rfl, rfl, by rw [fstN_zero]; go_num, rfl, by omega, by omega, HU.out, by omega, HA, HB.out.trans (below_of_grown hgr (by omega) (by omega)), by
          have h3 := HN.out
          refine ⟨by omega, ?_, by omega⟩
          have h4 := h3.2.1
          rw [HF.out] at h4
          exact drop_next h4⟩
        case measure => simp [intOf]
    · obtain rfl : a = 0 := by omega
      obtain rfl : b = 0 := by omega
      have hcv := run_str HW.out (by rw [HFL.out]; have := HN.out; omega)
      go_wp2_with fail
      go_ret2
      exact ⟨retPair (nthS_yes HK.out).symm HK.out.symm, (hbb _).trans (HB.out.mono (by omega))⟩

end Go.Proofs.Ytnhkijfibiffnaa
