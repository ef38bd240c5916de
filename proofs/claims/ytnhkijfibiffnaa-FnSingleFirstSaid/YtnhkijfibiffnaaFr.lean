/-
  Walks: SingleFirst, and the law on it.
-/
import Derived.Test.YtnhkijfibiffnaaNt
namespace Go.Proofs.Ytnhkijfibiffnaa
open Go.RowKit

/-- the first train of A goes: a and b trains have gone -/
def goA (x : Sg) (a b : Nat) : Bool := decide (b = x.nb) || (decide (a < x.na) && decide (x.A a ≤ x.B b))
def frL (x : Sg) : Nat → Nat → Nat → List UInt8
  | 0, _, _ => []
  | n + 1, a, b => if goA x a b = true then 85 :: frL x n (a + 1) b else 68 :: frL x n a (b + 1)
theorem frL_U {x : Sg} {n a b : Nat} (h : goA x a b = true) : frL x (n + 1) a b = 85 :: frL x n (a + 1) b := if_pos h
theorem frL_D {x : Sg} {n a b : Nat} (h : goA x a b = false) : frL x (n + 1) a b = 68 :: frL x n a (b + 1) := if_neg (by rw [h]; simp)
theorem frL_length (x : Sg) : ∀ n a b, (frL x n a b).length = n
  | 0, _, _ => rfl
  | n + 1, a, b => by
    unfold frL
    split <;> simp [frL_length x n]
def firstFull (x : Sg) : List UInt8 := frL x (x.na + x.nb) 0 0
def firstS (x : Sg) : ByteArray := if sgOk x = true then strOf (firstFull x) else ⟨#[]⟩
theorem firstS_no {x : Sg} (h : sgOk x = false) : firstS x = ⟨#[]⟩ := if_neg (by rw [h]; simp)
theorem firstS_yes {x : Sg} (h : sgOk x = true) : firstS x = strOf (firstFull x) := if_pos h

set_option maxHeartbeats 1000000 in
theorem specFirst_any (v : Value) (x : Sg) (w : World) (hv : SgV w v x) (ha : x.na ≤ 1000000000000000) (hb : x.nb ≤ 1000000000000000) :
    Calls Try.prog 25 #[v] w fun e w' => e = .returned (.tuple #[.string (firstS x), .bool (sgOk x)]) ∧ Below w.heap.size w w' := by
  have hbb : ∀ a, Below w.heap.size w (w.alloc a) := fun a => (Below.refl _ _).alloc (Nat.le_refl _) _
  have hv0 := hv
  obtain ⟨ba, oa, ca, bb, ob, cb, rfl, hca, hcb⟩ := hv
  have HCA := Lib.hid hca
  have HCB := Lib.hid hcb
  clear hca hcb
  have HV := Lib.hid hv0
  clear hv0
  go_enter Try.func25, Try.ntmps25
  go_wp2_with fail
  refine (specValid_any _ x _ (HV.out.keep (hbb _)) (by omega) (by omega)).mono ?_
  rintro e w1 ⟨rfl, hb1⟩
  rw [World.size_alloc] at hb1
  have hbox := box_cells hb1 (by omega)
  have HB1 := Lib.hid hb1
  clear hb1
  cases hs : sgOk x
  · have HS := Lib.hid hs
    clear hs
    go_wp2_with fail
    go_ret2
    exact ⟨retPair (firstS_no HS.out).symm HS.out.symm, (hbb _).trans (HB1.out.mono (by omega))⟩
  have hle := sgOk_le hs
  have HS := Lib.hid hs
  clear hs
  go_wp2_with fail
  go_loopw [4, 5, 6] (fun out sa sb wr => ∃ (a b : Nat) (pre : List UInt8), sa = .int .i64 a ∧ sb = .int .i64 b ∧ out = .string (strOf pre) ∧ a ≤ x.na ∧ b ≤ x.nb ∧
      Below (w.heap.size + 1) (w.alloc (.cells #[.slice (some ⟨ba, oa, none⟩) x.na ca, .slice (some ⟨bb, ob, none⟩) x.nb cb, .int .i64 x.run, .int .i64 x.head] 25)) wr ∧
      Hid (pre ++ frL x (x.na + x.nb - a - b) a b = firstFull x ∧ pre.length = a + b)) (fun _ sa sb _ => x.na + x.nb - (intOf sa).toNat - (intOf sb).toNat)
  case atStart => exact ⟨0, 0, [], rfl, rfl, rfl, Nat.zero_le _, Nat.zero_le _, HB1.out, rfl, rfl⟩
  case round =>
    obtain ⟨a, b, pre, rfl, rfl, rfl, hax, hbx, hb, HN⟩ := hrel
    have hboxr := box_cells hb (by omega)
    have hia := HCA.out.keep ((hbb _).trans (hb.mono (by omega)))
    have hib := HCB.out.keep ((hbb _).trans (hb.mono (by omega)))
    have HB := Lib.hid hb
    have hsz : (strOf pre).size ≤ 12 := by rw [strOf_size]; have := HN.out.2; omega
    clear hb hbox
    by_cases hgo : a + b < x.na + x.nb
    · by_cases hbn : b = x.nb
      · have hga : goA x a b = true := by simp [goA, hbn]
        have g1 : ((b : Int) == (x.nb : Int)) = true := by simp [hbn]
        have han : a < x.na := by omega
        have HG := Lib.hid hga
        have HBN := Lib.hid hbn
        clear hga hbn
        go_wp2_with fail
        go_quiet (fail)
        go_wp2_with fail
        go_roundw
        case rel => exact ⟨a + 1, b, pre ++ [85], by go_num, rfl, by rw [strOf_snoc], by omega, by omega, below_drewN HB.out _, by
          have h3 := HN.out
          refine ⟨?_, by simp; omega⟩
          rw [← h3.1, show x.na + x.nb - a - b = (x.na + x.nb - (a + 1) - b) + 1 from by omega, frL_U HG.out]
          simp⟩
        case measure => simp [intOf]; omega
      · have g1 : ((b : Int) == (x.nb : Int)) = false := by simp; omega
        have hblt : b < x.nb := by omega
        by_cases han : a < x.na
        · have hca1 := hia a han
          have hcb1 := hib b hblt
          by_cases hle2 : x.A a ≤ x.B b
          · have hga : goA x a b = true := by simp [goA, han, hle2]
            have HG := Lib.hid hga
            clear hga hbn
            go_wp2_with fail
            go_quiet (fail)
            go_wp2_with fail
            go_roundw
            case rel => exact ⟨a + 1, b, pre ++ [85], by go_num, rfl, by rw [strOf_snoc], by omega, by omega, below_drewN HB.out _, by
              have h3 := HN.out
              refine ⟨?_, by simp; omega⟩
              rw [← h3.1, show x.na + x.nb - a - b = (x.na + x.nb - (a + 1) - b) + 1 from by omega, frL_U HG.out]
              simp⟩
            case measure => simp [intOf]; omega
          · have hga : goA x a b = false := by simp only [goA, decide_eq_false hbn, decide_eq_false hle2]; simp
            have HG := Lib.hid hga
            have hlt2 : x.B b < x.A a := by omega
            have g3 : decide (x.A a ≤ x.B b) = false := decide_eq_false hle2
            clear hga hbn hle2
            go_wp2_with fail
            go_quiet (fail)
            go_wp2_with fail
            go_roundw
            case rel => exact ⟨a, b + 1, pre ++ [68], rfl, by go_num, by rw [strOf_snoc], by omega, by omega, below_drewN HB.out _, by
              have h3 := HN.out
              refine ⟨?_, by simp; omega⟩
              rw [← h3.1, show x.na + x.nb - a - b = (x.na + x.nb - a - (b + 1)) + 1 from by omega, frL_D HG.out]
              simp⟩
            case measure => simp [intOf]; omega
        · have hga : goA x a b = false := by simp only [goA, decide_eq_false hbn, decide_eq_false han]; simp
          have HG := Lib.hid hga
          have g4 : decide (a < x.na) = false := decide_eq_false han
          have han2 : a = x.na := by omega
          have HAN := Lib.hid han2
          clear hga hbn han2
          go_wp2_with fail
          go_quiet (fail)
          go_wp2_with fail
          go_roundw
          case rel => exact ⟨a, b + 1, pre ++ [68], rfl, by go_num, by rw [strOf_snoc], by omega, by omega, below_drewN HB.out _, by
            have h3 := HN.out
            refine ⟨?_, by simp; omega⟩
            rw [← h3.1, show x.na + x.nb - a - b = (x.na + x.nb - a - (b + 1)) + 1 from by omega, frL_D HG.out]
            simp⟩
          case measure => simp [intOf]; omega
    · obtain rfl : a = x.na := by omega
      obtain rfl : b = x.nb := by omega
      go_wp2_with fail
      go_ret2
      exact ⟨retPair (by rw [firstS_yes HS.out, ← HN.out.1, show x.na + x.nb - x.na - x.nb = 0 from by omega]; simp [frL]) HS.out.symm, (hbb _).trans (HB.out.mono (by omega))⟩

theorem drop_cons_len {l r : List UInt8} {k : Nat} {c : UInt8} (h : l.drop k = c :: r) : k < l.length := by
  have : (l.drop k).length = r.length + 1 := by rw [h]; rfl
  rw [List.length_drop] at this
  omega
set_option maxRecDepth 100000 in
set_option maxHeartbeats 1000000 in
theorem implFirst_any (v : Value) (x : Sg) (w : World) (hv : SgV w v x) (ha : x.na ≤ 1000000000000000) (hb : x.nb ≤ 1000000000000000) :
    Calls Try.prog 24 #[v] w fun e w' => e = .returned (.tuple #[.string (firstS x), .bool (sgOk x)]) ∧ Below w.heap.size w w' := by
  have hbb : ∀ a, Below w.heap.size w (w.alloc a) := fun a => (Below.refl _ _).alloc (Nat.le_refl _) _
  have hv0 := hv
  obtain ⟨ba, oa, ca, bb, ob, cb, rfl, hca, hcb⟩ := hv
  have HCA := Lib.hid hca
  have HCB := Lib.hid hcb
  clear hca hcb
  have HV := Lib.hid hv0
  clear hv0
  go_enter Try.func24, Try.ntmps24
  go_wp2_with fail
  refine (implValid_any _ x _ (HV.out.keep (hbb _)) (by omega) (by omega)).mono ?_
  rintro e w1 ⟨rfl, hb1⟩
  rw [World.size_alloc] at hb1
  have hbox := box_cells hb1 (by omega)
  have HB1 := Lib.hid hb1
  clear hb1
  cases hs : sgOk x
  · have HS := Lib.hid hs
    clear hs
    go_wp2_with fail
    go_ret2
    exact ⟨retPair (firstS_no HS.out).symm HS.out.symm, (hbb _).trans (HB1.out.mono (by omega))⟩
  have hle := sgOk_le hs
  have HS := Lib.hid hs
  clear hs
  have hmk := fun w => run_mk0i elU8 (x.na + x.nb) ((x.na : Int) + (x.nb : Int)) (by omega) (by omega) (by omega) w
  have hfl : (firstFull x).length = x.na + x.nb := frL_length _ _ _ _
  have HFL := Lib.hid hfl
  clear hfl
  go_wp2_with fail
  go_loopw [4, 5, 6] (fun out sa sb wr => ∃ a b g c : Nat, sa = .int .i64 a ∧ sb = .int .i64 b ∧ out = .slice (some ⟨g, 0, none⟩) (a + b) c ∧ a ≤ x.na ∧ b ≤ x.nb ∧ w.heap.size + 1 ≤ g ∧ Own wr g c (a + b) 1 5 (u8F (firstFull x)) ∧
      Below (w.heap.size + 1) (w.alloc (.cells #[.slice (some ⟨ba, oa, none⟩) x.na ca, .slice (some ⟨bb, ob, none⟩) x.nb cb, .int .i64 x.run, .int .i64 x.head] 25)) wr ∧
      Hid ((firstFull x).drop (a + b) = frL x (x.na + x.nb - a - b) a b)) (fun _ sa sb _ => x.na + x.nb - (intOf sa).toNat - (intOf sb).toNat)
  case atStart =>
    have z1 := HB1.out.size
    rw [World.size_alloc] at z1
    exact ⟨0, 0, _, _, rfl, rfl, rfl, Nat.zero_le _, Nat.zero_le _, by omega, own_at _ _ _ _ _ (by unfold maxLen; omega) rfl, HB1.out.alloc (by omega) _, rfl⟩
  case round =>
    obtain ⟨a, b, g, c, rfl, rfl, rfl, hax, hbx, hg, how, hb, HN⟩ := hrel
    have hboxr := box_cells hb (by omega)
    have hia := HCA.out.keep ((hbb _).trans (hb.mono (by omega)))
    have hib := HCB.out.keep ((hbb _).trans (hb.mono (by omega)))
    have HB := Lib.hid hb
    have HW := Lib.hid how
    clear hb hbox how
    by_cases hgo : a + b < x.na + x.nb
    · by_cases hbn : b = x.nb
      · have hga : goA x a b = true := by simp [goA, hbn]
        have g1 : ((b : Int) == (x.nb : Int)) = true := by simp [hbn]
        have han : a < x.na := by omega
        have HG := Lib.hid hga
        have HBN := Lib.hid hbn
        clear hga hbn
        have hv : Value.int .u8 85 = u8F (firstFull x) (a + b) := by
          have h4 := HN.out
          rw [show x.na + x.nb - a - b = (x.na + x.nb - (a + 1) - b) + 1 from by omega, frL_U HG.out] at h4
          rw [u8F_at h4]; rfl
        have HV2 := Lib.hid hv
        clear hv
        go_wp2_with fail
        go_quiet (fail)
        go_wp2_with (at_builtin; refine wpList_pushV elU8 rfl (.tmp 55) (.tmp 56) rfl (HW.out.drewN _) rfl rfl HV2.out rfl (by omega) (by omega) ?_; intro g' c' wa HA hgr hd)
        have z1 := HB.out.size
        have l1 := HW.out.lt
        have z2 := hgr.size
        rw [World.size_alloc] at z1
        simp only [World.heap_drewN] at z2 hd
        go_roundw
        case rel => exact ⟨a + 1, b, g', c', by go_num, rfl, by rw [show a + 1 + b = a + b + 1 from by omega], by omega, by omega, by omega, by rw [show a + 1 + b = a + b + 1 from by omega]; exact HA, HB.out.trans ((below_drewN (Below.refl _ wr) _).trans (below_of_grown hgr (by omega) (by simp; omega))), by
          have h4 := HN.out
          rw [show x.na + x.nb - a - b = (x.na + x.nb - (a + 1) - b) + 1 from by omega, frL_U HG.out] at h4
          show List.drop (a + 1 + b) _ = _
          rw [show a + 1 + b = a + b + 1 from by omega]
          exact drop_next h4⟩
        case measure => simp [intOf]; omega
      · have g1 : ((b : Int) == (x.nb : Int)) = false := by simp; omega
        have hblt : b < x.nb := by omega
        by_cases han : a < x.na
        · have hca1 := hia a han
          have hcb1 := hib b hblt
          by_cases hle2 : x.A a ≤ x.B b
          · have hga : goA x a b = true := by simp [goA, han, hle2]
            have HG := Lib.hid hga
            clear hga hbn
            have hv : Value.int .u8 85 = u8F (firstFull x) (a + b) := by
              have h4 := HN.out
              rw [show x.na + x.nb - a - b = (x.na + x.nb - (a + 1) - b) + 1 from by omega, frL_U HG.out] at h4
              rw [u8F_at h4]; rfl
            have HV2 := Lib.hid hv
            clear hv
            go_wp2_with fail
            go_quiet (fail)
            go_wp2_with (at_builtin; refine wpList_pushV elU8 rfl (.tmp 55) (.tmp 56) rfl (HW.out.drewN _) rfl rfl HV2.out rfl (by omega) (by omega) ?_; intro g' c' wa HA hgr hd)
            have z1 := HB.out.size
            have l1 := HW.out.lt
            have z2 := hgr.size
            rw [World.size_alloc] at z1
            simp only [World.heap_drewN] at z2 hd
            go_roundw
            case rel => exact ⟨a + 1, b, g', c', by go_num, rfl, by rw [show a + 1 + b = a + b + 1 from by omega], by omega, by omega, by omega, by rw [show a + 1 + b = a + b + 1 from by omega]; exact HA, HB.out.trans ((below_drewN (Below.refl _ wr) _).trans (below_of_grown hgr (by omega) (by simp; omega))), by
              have h4 := HN.out
              rw [show x.na + x.nb - a - b = (x.na + x.nb - (a + 1) - b) + 1 from by omega, frL_U HG.out] at h4
              show List.drop (a + 1 + b) _ = _
              rw [show a + 1 + b = a + b + 1 from by omega]
              exact drop_next h4⟩
            case measure => simp [intOf]; omega
          · have hga : goA x a b = false := by simp only [goA, decide_eq_false hbn, decide_eq_false hle2]; simp
            have HG := Lib.hid hga
            have hlt2 : x.B b < x.A a := by omega
            have g3 : decide (x.A a ≤ x.B b) = false := decide_eq_false hle2
            clear hga hbn hle2
            have hv : Value.int .u8 68 = u8F (firstFull x) (a + b) := by
              have h4 := HN.out
              rw [show x.na + x.nb - a - b = (x.na + x.nb - a - (b + 1)) + 1 from by omega, frL_D HG.out] at h4
              rw [u8F_at h4]; rfl
            have HV2 := Lib.hid hv
            clear hv
            go_wp2_with fail
            go_quiet (fail)
            go_wp2_with (at_builtin; refine wpList_pushV elU8 rfl (.tmp 60) (.tmp 61) rfl (HW.out.drewN _) rfl rfl HV2.out rfl (by omega) (by omega) ?_; intro g' c' wa HA hgr hd)
            have z1 := HB.out.size
            have l1 := HW.out.lt
            have z2 := hgr.size
            rw [World.size_alloc] at z1
            simp only [World.heap_drewN] at z2 hd
            go_roundw
            case rel => exact ⟨a, b + 1, g', c', rfl, by go_num, rfl, by omega, by omega, by omega, HA, HB.out.trans ((below_drewN (Below.refl _ wr) _).trans (below_of_grown hgr (by omega) (by simp; omega))), by
              have h4 := HN.out
              rw [show x.na + x.nb - a - b = (x.na + x.nb - a - (b + 1)) + 1 from by omega, frL_D HG.out] at h4
              exact drop_next h4⟩
            case measure => simp [intOf]; omega
        · have hga : goA x a b = false := by simp only [goA, decide_eq_false hbn, decide_eq_false han]; simp
          have HG := Lib.hid hga
          have g4 : decide (a < x.na) = false := decide_eq_false han
          have han2 : a = x.na := by omega
          have HAN := Lib.hid han2
          clear hga hbn han2
          have hv : Value.int .u8 68 = u8F (firstFull x) (a + b) := by
            have h4 := HN.out
            rw [show x.na + x.nb - a - b = (x.na + x.nb - a - (b + 1)) + 1 from by omega, frL_D HG.out] at h4
            rw [u8F_at h4]; rfl
          have HV2 := Lib.hid hv
          clear hv
          go_wp2_with fail
          go_quiet (fail)
          go_wp2_with (at_builtin; refine wpList_pushV elU8 rfl (.tmp 60) (.tmp 61) rfl (HW.out.drewN _) rfl rfl HV2.out rfl (by omega) (by omega) ?_; intro g' c' wa HA hgr hd)
          have z1 := HB.out.size
          have l1 := HW.out.lt
          have z2 := hgr.size
          rw [World.size_alloc] at z1
          simp only [World.heap_drewN] at z2 hd
          go_roundw
          case rel => exact ⟨a, b + 1, g', c', rfl, by go_num, rfl, by omega, by omega, by omega, HA, HB.out.trans ((below_drewN (Below.refl _ wr) _).trans (below_of_grown hgr (by omega) (by simp; omega))), by
            have h4 := HN.out
            rw [show x.na + x.nb - a - b = (x.na + x.nb - a - (b + 1)) + 1 from by omega, frL_D HG.out] at h4
            exact drop_next h4⟩
          case measure => simp [intOf]; omega
    · obtain rfl : a = x.na := by omega
      obtain rfl : b = x.nb := by omega
      have hcv := run_str HW.out (by rw [HFL.out])
      go_wp2_with fail
      go_ret2
      exact ⟨retPair (firstS_yes HS.out).symm HS.out.symm, (hbb _).trans (HB.out.mono (by omega))⟩

end Go.Proofs.Ytnhkijfibiffnaa
