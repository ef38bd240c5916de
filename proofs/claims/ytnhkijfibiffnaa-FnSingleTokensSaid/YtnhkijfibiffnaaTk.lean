/-
  Walks of the helpers on directions: valid, turned, needs, kinds, changes, counted letters.
-/
import Derived.Test.YtnhkijfibiffnaaSw
namespace Go.Proofs.Ytnhkijfibiffnaa
open Go.RowKit

theorem dirV_long {s : ByteArray} (h : ¬ s.size ≤ 30) : dirV s = false := by simp [dirV, h]
theorem dirV_all {s : ByteArray} (h : dirV s = true) : (∀ k, k < s.size → bt s k = 85 ∨ bt s k = 68) ∧ s.size ≤ 30 := by
  simp only [dirV, Bool.and_eq_true, decide_eq_true_eq] at h
  exact ⟨fun k hk => isDir_true.1 (allB_true.1 h.1 k hk), h.2⟩
theorem implDirs_any (s : ByteArray) (w : World) (hs : s.size ≤ 1048576) :
    Calls Try.prog 76 #[.string s] w fun e w' => e = .returned (.bool (dirV s)) ∧ w = w' := by
  by_cases h30 : s.size ≤ 30
  · go_enter Try.func76, Try.ntmps76
    go_wp2
    go_loop [9] (fun i => ∃ k : Nat, k ≤ s.size ∧ i = .int .i64 k ∧ ∀ j, j < k → isDir (bt s j) = true) (fun i => s.size - (intOf i).toNat)
    case atStart => exact ⟨0, Nat.zero_le _, rfl, fun j hj => by omega⟩
    case round =>
      obtain ⟨k, hk, rfl, hall⟩ := hrel
      have HA := Lib.hid hall
      clear hall
      by_cases hlt : k < s.size
      · have hbt := bt_at hlt
        cases hd : isDir (bt s k)
        · have h2 := isDir_false.1 hd
          have HD := Lib.hid hd
          clear hd
          have g1 : (bt s k != 85) = true := by simp [h2.1]
          have g2 : (bt s k != 68) = true := by simp [h2.2]
          clear h2
          go_wp2
          go_ret
          exact ⟨retB (dirV_not hlt HD.out).symm, rfl⟩
        · have HD := Lib.hid hd
          have hn : ∀ j, j < k + 1 → isDir (bt s j) = true := fun j hj => by
            by_cases e : j = k
            · rw [e]; exact hd
            · exact HA.out j (by omega)
          have HN := Lib.hid hn
          clear hn
          rcases isDir_true.1 hd with h2 | h2
          · have g1 : (bt s k != 85) = false := by simp [h2]
            clear hd h2
            go_wp2
            go_round
            case rel => exact ⟨k + 1, by omega, by go_num, HN.out⟩
            case measure => simp [intOf]; omega
          · have g1 : (bt s k != 85) = true := by simp [h2]
            have g2 : (bt s k != 68) = false := by simp [h2]
            clear hd h2
            go_wp2
            go_round
            case rel => exact ⟨k + 1, by omega, by go_num, HN.out⟩
            case measure => simp [intOf]; omega
      · have e : k = s.size := by omega
        have H1 : Hid (dirV s = decide (s.size ≤ 30)) := dirV_end (fun j hj => HA.out j (by omega))
        subst e
        go_wp2
        go_ret
        exact ⟨retB (by rw [H1.out]; simp; omega), rfl⟩
  · go_enter Try.func76, Try.ntmps76
    go_wp2
    go_ret
    exact ⟨retB (dirV_long h30).symm, rfl⟩

/-- a list of bytes by place -/
def lstF (n : Nat) (f : Nat → UInt8) : List UInt8 := (List.range n).map f
theorem lstF_len (n : Nat) (f : Nat → UInt8) : (lstF n f).length = n := by simp [lstF]
theorem u8F_lst {n k : Nat} {f : Nat → UInt8} (h : k < n) : u8F (lstF n f) k = .int .u8 ((f k).toNat : Int) := by
  simp [u8F, lstF, List.getD, h]
theorem bt_lst {n k : Nat} {f : Nat → UInt8} (h : k < n) : bt (strOf (lstF n f)) k = ((f k).toNat : Int) := by
  rw [bt_strOf]
  simp [ltr, lstF, h]
/-- the first k places filled, the rest zero -/
def fillF (f : Nat → UInt8) (k : Nat) (i : Nat) : Value := if i < k then .int .u8 ((f i).toNat : Int) else .int .u8 0
theorem fill_zero (f : Nat → UInt8) : (fun _ => Value.int .u8 0) = fillF f 0 := rfl
theorem Own.fill {w : World} {g n k : Nat} {t : TypeId} {f : Nat → UInt8} {v : Int} (h : Own w g n n 1 t (fillF f k)) (hv : v = ((f k).toNat : Int)) : Own (w.setCell ⟨g, k, none⟩ (.int .u8 v)) g n n 1 t (fillF f (k + 1)) := by
  refine (h.set k _).congr fun i _ => ?_
  unfold fillF
  by_cases e : i = k
  · subst e; rw [if_pos rfl, if_pos (by omega), hv]
  · rw [if_neg e]
    by_cases h1 : i < k
    · rw [if_pos h1, if_pos (by omega)]
    · rw [if_neg h1, if_neg (by omega)]
theorem Own.filled {w : World} {g n : Nat} {t : TypeId} {f : Nat → UInt8} (h : Own w g n n 1 t (fillF f n)) : Own w g n n 1 t (u8F (lstF n f)) :=
  h.congr fun i hi => by rw [Nat.mul_one] at hi; rw [u8F_lst hi]; exact if_pos hi
def swU (s : ByteArray) (k : Nat) : UInt8 := if bt s k = 85 then 68 else 85
theorem swp_lst (s : ByteArray) : strOf (lstF s.size (swU s)) = swp s := by
  unfold swp
  congr 1
  apply List.ext_getElem
  · rw [lstF_len, List.length_map]; rfl
  · intro k h1 h2
    rw [lstF_len] at h1
    have h3 : k < s.data.toList.length := h1
    have h4 : bt s k = (s.data.toList[k].toNat : Int) := by
      rw [show bt s k = ltr s.data.toList k from by rw [← bt_strOf, strOf_data]]
      unfold ltr
      rw [List.getElem?_eq_getElem h3]; rfl
    simp only [lstF, List.getElem_map, List.getElem_range]
    unfold swU swC
    rw [h4]
    by_cases h : s.data.toList[k] = 85
    · rw [if_pos (u85.2 h), if_pos h]
    · rw [if_neg (fun e => h (u85.1 e)), if_neg h]

set_option maxHeartbeats 1000000 in
theorem dirTurn_any (s : ByteArray) (w : World) (hv : dirV s = true) :
    Calls Try.prog 46 #[.string s] w fun e w' => e = .returned (.tuple #[.string (swp s), .bool true]) ∧ Below w.heap.size w w' := by
  have h30 := (dirV_all hv).2
  have HV := Lib.hid hv
  have HA := Lib.hid (dirV_all hv).1
  have HS := Lib.hid (swp_lst s)
  clear hv
  have hmk := fun w => run_mk elU8 s.size s.size (Nat.le_refl _) (by omega) (by omega) w
  go_enter Try.func46, Try.ntmps46
  go_wp2_with fail
  refine (implDirs_any s _ (by omega)).mono ?_
  rintro e w' ⟨rfl, rfl⟩
  rw [HV.out]
  go_wp2_with fail
  go_loopw [14] (fun i wr => ∃ k : Nat, k ≤ s.size ∧ i = .int .i64 k ∧ Own wr w.heap.size s.size s.size 1 5 (fillF (swU s) k) ∧ Below w.heap.size w wr) (fun i _ => s.size - (intOf i).toNat)
  case atStart => exact ⟨0, Nat.zero_le _, rfl, own_full1 _ _ _ _ (by unfold maxLen; omega), (Below.refl _ _).alloc (Nat.le_refl _) _⟩
  case round =>
    obtain ⟨k, hk, rfl, ho, hb⟩ := hrel
    have HO := Lib.hid ho
    have HB := Lib.hid hb
    clear hb
    by_cases hlt : k < s.size
    · have hck := ho.cell1 hlt
      have hfk := ho.free k
      have hbt := bt_at hlt
      clear ho
      by_cases hu : bt s k = 85
      · have HU : Hid (((swU s k).toNat : Int) = 68) := by unfold swU; rw [if_pos hu]; rfl
        have g1 : (bt s k == 85) = true := by simp [hu]
        clear hu
        go_wp2
        go_roundw
        case rel => exact ⟨k + 1, by omega, by go_num, HO.out.fill HU.out.symm, HB.out.setCell (by dsimp only; omega) _⟩
        case measure => simp [intOf]; omega
      · have HU : Hid (((swU s k).toNat : Int) = 85) := by unfold swU; rw [if_neg hu]; rfl
        have g1 : (bt s k == 85) = false := by simp [hu]
        clear hu
        go_wp2
        go_roundw
        case rel => exact ⟨k + 1, by omega, by go_num, HO.out.fill HU.out.symm, HB.out.setCell (by dsimp only; omega) _⟩
        case measure => simp [intOf]; omega
    · obtain rfl : k = s.size := by omega
      have hcv := run_str HO.out.filled (by rw [lstF_len])
      rw [HS.out] at hcv
      clear ho
      go_wp2
      go_ret2
      exact ⟨rfl, HB.out⟩

/-- tokens that the directions need: bounds -/
def NeedR (s : ByteArray) (w : World) (e : Ending) (w' : World) : Prop :=
  ∃ a b : Int, e = .returned (.tuple #[.int .i64 a, .int .i64 b, .bool true]) ∧ a ≤ (cntU (bt s) s.size : Int) ∧ b ≤ (s.size : Int) - (cntU (bt s) s.size : Int) ∧ w = w'
set_option maxHeartbeats 1000000 in
theorem needs_any (s : ByteArray) (w : World) (hv : dirV s = true) :
    Calls Try.prog 52 #[.string s] w (NeedR s w) := by
  have h30 := (dirV_all hv).2
  have HV := Lib.hid hv
  clear hv
  go_enter Try.func52, Try.ntmps52
  go_wp2_with fail
  refine (implDirs_any s _ (by omega)).mono ?_
  rintro e w' ⟨rfl, rfl⟩
  rw [HV.out]
  go_wp2_with fail
  go_loop [5, 6, 7, 14] (fun t a b i => ∃ (k u : Nat) (p q : Int), k ≤ s.size ∧ Hid (u = cntU (bt s) k) ∧ u ≤ k ∧ i = .int .i64 k ∧ t = .int .i64 (2 * (u : Int) - k) ∧ a = .int .i64 p ∧ b = .int .i64 q ∧ 0 ≤ p ∧ p ≤ u ∧ 0 ≤ q ∧ q ≤ (k : Int) - u) (fun _ _ _ i => s.size - (intOf i).toNat)
  case atStart => exact ⟨0, 0, 0, 0, Nat.zero_le _, rfl, Nat.le_refl _, rfl, rfl, rfl, rfl, by omega, by omega, by omega, by omega⟩
  case round =>
    obtain ⟨k, u, p, q, hk, HU, huk, rfl, rfl, rfl, rfl, hp0, hp1, hq0, hq1⟩ := hrel
    by_cases hlt : k < s.size
    · have hbt := bt_at hlt
      by_cases hu : bt s k = 85
      · have HN : Hid (cntU (bt s) (k + 1) = u + 1) := by show _ = _; rw [cntU_U hu, ← HU.out]
        have g1 : (bt s k == 85) = true := by simp [hu]
        clear hu
        go_wp2
        go_round
        case rel => exact ⟨k + 1, u + 1, max p (2 * (u : Int) - k + 1), max q (-(2 * (u : Int) - k + 1)), by omega, HN.out.symm, by omega, by go_num, by go_num, by first | rfl | rw [ite_max], by first | rfl | rw [ite_max], by omega, by omega, by omega, by omega⟩
        case measure => simp [intOf]; omega
      · have HN : Hid (cntU (bt s) (k + 1) = u) := by show _ = _; rw [cntU_D hu, ← HU.out]
        have g1 : (bt s k == 85) = false := by simp [hu]
        clear hu
        go_wp2
        go_round
        case rel => exact ⟨k + 1, u, max p (2 * (u : Int) - k - 1), max q (-(2 * (u : Int) - k - 1)), by omega, HN.out.symm, by omega, by go_num, by go_num, by first | rfl | rw [ite_max], by first | rfl | rw [ite_max], by omega, by omega, by omega, by omega⟩
        case measure => simp [intOf]; omega
    · obtain rfl : k = s.size := by omega
      go_wp2
      go_ret3
      exact ⟨p, q, rfl, by rw [← HU.out]; omega, by rw [← HU.out]; omega, rfl⟩

/-- how often the direction changes ahead of place k + 1 -/
def chT (c : Nat → Int) : Nat → Nat
  | 0 => 0
  | k + 1 => if c (k + 1) = c k then chT c k else chT c k + 1
theorem chT_le (c : Nat → Int) : ∀ k, chT c k ≤ k
  | 0 => Nat.le_refl _
  | k + 1 => by have := chT_le c k; simp only [chT]; split <;> omega
set_option maxHeartbeats 1000000 in
theorem changes_any (s : ByteArray) (w : World) (hv : dirV s = true) (h0 : 0 < s.size) :
    Calls Try.prog 55 #[.string s] w fun e w' => e = .returned (.int .i64 (chT (bt s) (s.size - 1) : Nat)) ∧ Dr w w' := by
  have h30 := (dirV_all hv).2
  have HV := Lib.hid hv
  clear hv
  go_enter Try.func55, Try.ntmps55
  go_wp2_with fail
  refine (implDirs_any s _ (by omega)).mono ?_
  rintro e w' ⟨rfl, rfl⟩
  rw [HV.out]
  go_wp2_with fail
  go_loopw [3, 4] (fun r i wr => ∃ (k q : Nat), k + 1 ≤ s.size ∧ i = .int .i64 (k + 1 : Nat) ∧ Hid (q = chT (bt s) k) ∧ q ≤ k ∧ r = .int .i64 q ∧ Dr w wr) (fun _ i _ => s.size - (intOf i).toNat)
  case atStart => exact ⟨0, 0, by omega, rfl, rfl, Nat.le_refl _, rfl, Dr.refl _⟩
  case round =>
    obtain ⟨k, q, hk, rfl, HQ, hqk, rfl, q1, rfl⟩ := hrel
    by_cases hlt : k + 1 < s.size
    · have hbt := bt_at hlt
      have hbt2 := bt_at (show k < s.size by omega)
      have hw : IntKind.i64.wrap (((k + 1 : Nat) : Int) - 1) = k := by rw [show (((k + 1 : Nat) : Int) - 1) = k from by omega]; exact IntWalk.i64_in _ (by omega)
      have hk0 : (0 : Int) ≤ k := by omega
      by_cases hu : bt s (k + 1) = bt s k
      · have HN : Hid (chT (bt s) (k + 1) = q) := by show _ = _; simp only [chT]; rw [if_pos hu, ← HQ.out]
        have g1 : (bt s (k + 1) != bt s k) = false := by simp [hu]
        clear hu
        go_wp2_with fail
        go_quiet (fail)
        go_wp2
        go_roundw
        case rel => exact ⟨k + 1, q, by omega, by go_num, HN.out.symm, by omega, rfl, (by repeat (first | exact Dr.refl _ | exact ⟨_, rfl⟩ | refine Dr.drewN ?_ _))⟩
        case measure => simp [intOf]; omega
      · have HN : Hid (chT (bt s) (k + 1) = q + 1) := by show _ = _; simp only [chT]; rw [if_neg hu, ← HQ.out]
        have g1 : (bt s (k + 1) != bt s k) = true := by simp [hu]
        clear hu
        go_wp2_with fail
        go_quiet (fail)
        go_wp2
        go_roundw
        case rel => exact ⟨k + 1, q + 1, by omega, by go_num, HN.out.symm, by omega, by go_num, (by repeat (first | exact Dr.refl _ | exact ⟨_, rfl⟩ | refine Dr.drewN ?_ _))⟩
        case measure => simp [intOf]; omega
    · obtain rfl : k = s.size - 1 := by omega
      go_wp2
      go_ret
      exact ⟨retI (by rw [← HQ.out]), (by repeat (first | exact Dr.refl _ | exact ⟨_, rfl⟩ | refine Dr.drewN ?_ _))⟩
/-- how often a number stands ahead of place k -/
def cntT (d : Int) (c : Nat → Int) : Nat → Nat
  | 0 => 0
  | k + 1 => if c k = d then cntT d c k + 1 else cntT d c k
theorem cntT_le (d : Int) (c : Nat → Int) : ∀ k, cntT d c k ≤ k
  | 0 => Nat.le_refl _
  | k + 1 => by have := cntT_le d c k; simp only [cntT]; split <;> omega
theorem countOf_any (s : ByteArray) (d : Int) (w : World) (hs : s.size ≤ 1048576) :
    Calls Try.prog 54 #[.string s, .int .u8 d] w fun e w' => e = .returned (.int .i64 (cntT d (bt s) s.size : Nat)) ∧ w = w' := by
  go_enter Try.func54, Try.ntmps54
  go_wp2
  go_loop [5, 6] (fun r i => ∃ (k q : Nat), k ≤ s.size ∧ i = .int .i64 k ∧ Hid (q = cntT d (bt s) k) ∧ q ≤ k ∧ r = .int .i64 q) (fun _ i => s.size - (intOf i).toNat)
  case atStart => exact ⟨0, 0, by omega, rfl, rfl, Nat.le_refl _, rfl⟩
  case round =>
    obtain ⟨k, q, hk, rfl, HQ, hqk, rfl⟩ := hrel
    by_cases hlt : k < s.size
    · have hbt := bt_at hlt
      by_cases hu : bt s k = d
      · have HN : Hid (cntT d (bt s) (k + 1) = q + 1) := by show _ = _; simp only [cntT]; rw [if_pos hu, ← HQ.out]
        have g1 : (bt s k == d) = true := by simp [hu]
        clear hu
        go_wp2
        go_round
        case rel => exact ⟨k + 1, q + 1, by omega, by go_num, HN.out.symm, by omega, by go_num⟩
        case measure => simp [intOf]; omega
      · have HN : Hid (cntT d (bt s) (k + 1) = q) := by show _ = _; simp only [cntT]; rw [if_neg hu, ← HQ.out]
        have g1 : (bt s k == d) = false := by simp [hu]
        clear hu
        go_wp2
        go_round
        case rel => exact ⟨k + 1, q, by omega, by go_num, HN.out.symm, by omega, rfl⟩
        case measure => simp [intOf]; omega
    · obtain rfl : k = s.size := by omega
      go_wp2
      go_ret
      exact ⟨retI (by rw [← HQ.out]), rfl⟩

theorem isEnd_any (a : Int) (w : World) (ha : a = 0 ∨ a = 1) :
    Calls Try.prog 78 #[.int .i64 a] w fun e w' => e = .returned (.bool true) ∧ w = w' := by
  rcases ha with rfl | rfl
  · go_enter Try.func78, Try.ntmps78
    go_wp2
    go_ret
    exact ⟨rfl, rfl⟩
  · go_enter Try.func78, Try.ntmps78
    go_wp2
    go_ret
    exact ⟨rfl, rfl⟩
def endOf (c : Int) : Int := if c = 85 then 0 else 1
theorem startEnd_any (c : Int) (w : World) :
    Calls Try.prog 79 #[.int .u8 c] w fun e w' => e = .returned (.int .i64 (endOf c)) ∧ w = w' := by
  by_cases h : c = 85
  · have H : Hid (endOf c = 0) := if_pos h
    have g1 : (c == 85) = true := by simp [h]
    clear h
    go_enter Try.func79, Try.ntmps79
    go_wp2
    go_ret
    exact ⟨retI H.out.symm, rfl⟩
  · have H : Hid (endOf c = 1) := if_neg h
    have g1 : (c == 85) = false := by simp [h]
    clear h
    go_enter Try.func79, Try.ntmps79
    go_wp2
    go_ret
    exact ⟨retI H.out.symm, rfl⟩
/-- the kind of the train at a place -/
def kdU (s : ByteArray) (k : Nat) : UInt8 := if k + 1 < s.size ∧ bt s (k + 1) ≠ bt s k then 83 else 84
theorem fill_twice {w : World} {g n k : Nat} {t : TypeId} {f : Nat → UInt8} {u v : Value} (q : Nat) (h : Own w g n n 1 t (fillF f k)) (hv : v = .int .u8 ((f k).toNat : Int)) : Own (((w.setCell ⟨g, k, none⟩ u).drewN q).setCell ⟨g, k, none⟩ v) g n n 1 t (fillF f (k + 1)) := by
  refine (((h.set k u).drewN q).set k v).congr fun i _ => ?_
  unfold fillF
  by_cases e : i = k
  · subst e; rw [if_pos rfl, if_pos (by omega), hv]
  · rw [if_neg e, if_neg e]
    by_cases h1 : i < k
    · rw [if_pos h1, if_pos (by omega)]
    · rw [if_neg h1, if_neg (by omega)]
set_option maxHeartbeats 1000000 in
theorem kinds_any (s : ByteArray) (a : Int) (w : World) (hv : dirV s = true) (h0 : 0 < s.size) (ha : a = endOf (bt s 0)) :
    Calls Try.prog 53 #[.int .i64 a, .string s] w fun e w' => e = .returned (.tuple #[.string (strOf (lstF s.size (kdU s))), .bool true]) ∧ Below w.heap.size w w' := by
  have h30 := (dirV_all hv).2
  have HV := Lib.hid hv
  have hae : a = 0 ∨ a = 1 := by rw [ha]; unfold endOf; split <;> simp
  have HE := Lib.hid hae
  have g0 : (endOf (bt s 0) != a) = false := by simp [ha]
  clear hv ha hae
  have hmk := fun w => run_mk elU8 s.size s.size (Nat.le_refl _) (by omega) (by omega) w
  have hbt0 := bt_at h0
  go_enter Try.func53, Try.ntmps53
  go_wp2_with fail
  refine (isEnd_any _ _ HE.out).mono ?_
  rintro e w' ⟨rfl, rfl⟩
  go_wp2_with fail
  refine (implDirs_any s _ (by omega)).mono ?_
  rintro e w' ⟨rfl, rfl⟩
  rw [HV.out]
  go_wp2_with fail
  refine (startEnd_any _ _).mono ?_
  rintro e w' ⟨rfl, rfl⟩
  go_wp2_with fail
  go_loopw [31] (fun i wr => ∃ k : Nat, k ≤ s.size ∧ i = .int .i64 k ∧ Own wr w.heap.size s.size s.size 1 5 (fillF (kdU s) k) ∧ Below w.heap.size w wr) (fun i _ => s.size - (intOf i).toNat)
  case atStart => exact ⟨0, Nat.zero_le _, rfl, own_full1 _ _ _ _ (by unfold maxLen; omega), (Below.refl _ _).alloc (Nat.le_refl _) _⟩
  case round =>
    obtain ⟨k, hk, rfl, ho, hb⟩ := hrel
    have HO := Lib.hid ho
    have HB := Lib.hid hb
    clear hb
    by_cases hlt : k < s.size
    · have hck := ho.cell1 hlt
      have hfk := ho.free k
      have hbt := bt_at hlt
      have hw : IntKind.i64.wrap ((k : Int) + 1) = (k : Int) + 1 := IntWalk.i64_in _ (by omega)
      have hi0 : (0 : Int) ≤ (k : Int) + 1 := by omega
      have hi1 : ((k : Int) + 1).toNat = k + 1 := by omega
      clear ho
      by_cases hlt2 : k + 1 < s.size
      · have hbt2 := bt_at hlt2
        have hd : decide ((k : Int) + 1 < (s.size : Int)) = true := by simp; omega
        by_cases hu : bt s (k + 1) = bt s k
        · have HU : Hid (((kdU s k).toNat : Int) = 84) := by unfold kdU; rw [if_neg (fun h => h.2 hu)]; rfl
          have g1 : (bt s (k + 1) != bt s k) = false := by simp [hu]
          clear hu
          go_wp2_with fail
          go_quiet (fail)
          go_wp2
          go_roundw
          case rel => exact ⟨k + 1, by omega, by go_num, (HO.out.fill HU.out.symm).drewN _, below_drewN (HB.out.setCell (by dsimp only; omega) _) _⟩
          case measure => simp [intOf]; omega
        · have HU : Hid (((kdU s k).toNat : Int) = 83) := by unfold kdU; rw [if_pos ⟨hlt2, hu⟩]; rfl
          have g1 : (bt s (k + 1) != bt s k) = true := by simp [hu]
          clear hu
          go_wp2_with fail
          go_quiet (fail)
          go_wp2
          go_roundw
          case rel => exact ⟨k + 1, by omega, by go_num, fill_twice _ HO.out (by rw [HU.out]), (below_drewN (HB.out.setCell (by dsimp only; omega) _) _).setCell (by dsimp only; omega) _⟩
          case measure => simp [intOf]; omega
      · have hd : decide ((k : Int) + 1 < (s.size : Int)) = false := by simp; omega
        have HU : Hid (((kdU s k).toNat : Int) = 84) := by unfold kdU; rw [if_neg (fun h => hlt2 h.1)]; rfl
        go_wp2_with fail
        go_quiet (fail)
        go_wp2
        go_roundw
        case rel => exact ⟨k + 1, by omega, by go_num, (HO.out.fill HU.out.symm).drewN _, below_drewN (HB.out.setCell (by dsimp only; omega) _) _⟩
        case measure => simp [intOf]; omega
    · obtain rfl : k = s.size := by omega
      have hcv := run_str HO.out.filled (by rw [lstF_len])
      clear ho
      go_wp2
      go_ret2
      exact ⟨rfl, HB.out⟩
end Go.Proofs.Ytnhkijfibiffnaa
