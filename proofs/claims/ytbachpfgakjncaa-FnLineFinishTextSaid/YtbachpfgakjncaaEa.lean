/-
  Walks of the helpers of the exact laws on lines: copies.
-/
import Derived.Test.YtbachpfgakjncaaB
import Derived.Test.YtbachpfgakjncaaSe
namespace Go.Proofs.Ytbachpfgakjncaa
open Go.RowKit

/-- a row of blocks as a value; where n is 0 it may be nil -/
def BL (w : World) (v : Value) (n : Nat) (N : Nat → Int) (I O : Nat → Bool) : Prop :=
  (∃ b o c, v = .slice (some ⟨b, o, none⟩) n c ∧ BkC w b o n N I O) ∨ (n = 0 ∧ ∃ ao c, v = .slice ao 0 c)
theorem BL.keep {w w' : World} {v : Value} {n : Nat} {N : Nat → Int} {I O : Nat → Bool} (h : BL w v n N I O) (hb : Below w.heap.size w w') : BL w' v n N I O := by
  rcases h with ⟨b, o, c, e, h⟩ | h
  · exact .inl ⟨b, o, c, e, h.keep hb⟩
  · exact .inr h
theorem BL.shape {w : World} {v : Value} {n : Nat} {N : Nat → Int} {I O : Nat → Bool} (h : BL w v n N I O) : ∃ ao c, v = .slice ao n c := by
  rcases h with ⟨b, o, c, e, _⟩ | ⟨rfl, ao, c, e⟩
  · exact ⟨_, _, e⟩
  · exact ⟨_, _, e⟩
/-- a row of moves as a value -/
def MLs (w : World) (v : Value) (n : Nat) (M : Nat → Int) (L : Nat → ByteArray) : Prop :=
  (∃ b o c, v = .slice (some ⟨b, o, none⟩) n c ∧ MvsC w b o n M L) ∨ (n = 0 ∧ ∃ ao c, v = .slice ao 0 c)
theorem MLs.keep {w w' : World} {v : Value} {n : Nat} {M : Nat → Int} {L : Nat → ByteArray} (h : MLs w v n M L) (hb : Below w.heap.size w w') : MLs w' v n M L := by
  rcases h with ⟨b, o, c, e, h⟩ | h
  · exact .inl ⟨b, o, c, e, h.keep hb⟩
  · exact .inr h
theorem MLs.shape {w : World} {v : Value} {n : Nat} {M : Nat → Int} {L : Nat → ByteArray} (h : MLs w v n M L) : ∃ ao c, v = .slice ao n c := by
  rcases h with ⟨b, o, c, e, _⟩ | ⟨rfl, ao, c, e⟩
  · exact ⟨_, _, e⟩
  · exact ⟨_, _, e⟩
/-- the cells of a row of moves -/
def mvF (M : Nat → Int) (L : Nat → ByteArray) (i : Nat) : Value := if i % 2 = 0 then .int .i64 (M (i / 2)) else .string (L (i / 2))
theorem MvsC.of_own {w : World} {g cap n : Nat} {M : Nat → Int} {L : Nat → ByteArray} {t : TypeId} (h : Own w g cap n 2 t (mvF M L)) : MvsC w g 0 n M L := fun k hk => by
  have h0 := h.cell (i := k * 2) (by omega)
  have h1 := h.cell (i := k * 2 + 1) (by omega)
  rw [Nat.zero_add]
  refine ⟨?_, ?_⟩
  · rw [h0]; unfold mvF; rw [if_pos (by omega), show k * 2 / 2 = k by omega]
  · rw [h1]; unfold mvF; rw [if_neg (by omega), show (k * 2 + 1) / 2 = k by omega]
theorem elMv : Elem Try.prog 28 34 (.agg #[.int .i64 0, .string ⟨#[]⟩]) 2 24 := ⟨Try.underlying28, by kernel_rfl, rfl, by decide⟩
/-- a row full of zero values of s cells -/
theorem own_full (w : World) (z : Array Value) (n s : Nat) (t : TypeId) (f : Nat → Value) (hc : n ≤ maxLen) (hz : z.size = s) (hs : 0 < s) (hf : ∀ i, i < n * s → z[i % s]? = some (f i)) : Own (w.alloc (.cells (madeCells z (n * s)) t)) w.heap.size n n s t f :=
  ⟨Nat.le_refl _, hc, _, heap_alloc_new _ _, by rw [size_madeCells], fun i hi => by
    have h := hf i hi
    have hm : i % s < s := Nat.mod_lt _ hs
    simp only [madeCells]
    simp [hi, hz]
    rw [Array.getElem?_eq_getElem (by omega)] at h
    simpa [Array.getD, hz, hm] using h⟩
theorem toBlock_any (n : Int) (i o : Bool) (w : World) :
    Calls Try.prog 91 #[.agg #[.int .i64 n, .bool i, .bool o]] w fun e w' => e = .returned (.agg #[.int .i64 n, .bool i, .bool o]) ∧ Below w.heap.size w w' := by
  go_enter Try.func91, Try.ntmps91
  go_wp2_with fail
  exact bodyPost_ret (v := .agg #[.int .i64 n, .bool i, .bool o]) (by simp [results, Try.results91, go_sem]) rfl ⟨rfl, ((below_all _ _).alloc (by simp) _).alloc (by simp; omega) _⟩
theorem toMove_any (n : Int) (s : ByteArray) (w : World) :
    Calls Try.prog 75 #[.agg #[.int .i64 n, .string s]] w fun e w' => e = .returned (.agg #[.int .i64 n, .string s]) ∧ Below w.heap.size w w' := by
  go_enter Try.func75, Try.ntmps75
  go_wp2_with fail
  exact bodyPost_ret (v := .agg #[.int .i64 n, .string s]) (by simp [results, Try.results75, go_sem]) rfl ⟨rfl, ((below_all _ _).alloc (by simp) _).alloc (by simp; omega) _⟩
theorem upd_step {α : Type} (f : Nat → α) (z : α) (k : Nat) : upd (fun i => if i < k then f i else z) k (f k) = fun i => if i < k + 1 then f i else z := by
  funext i
  unfold upd
  by_cases e : i = k
  · subst e; simp
  · have : i < k + 1 ↔ i < k := by omega
    simp [e, this]
theorem bkF_congr {N N' : Nat → Int} {I I' O O' : Nat → Bool} {n : Nat} (h1 : ∀ k, k < n → N k = N' k) (h2 : ∀ k, k < n → I k = I' k) (h3 : ∀ k, k < n → O k = O' k) : ∀ i, i < n * 3 → bkF N I O i = bkF N' I' O' i := fun i hi => by
  unfold bkF
  rw [h1 _ (by omega), h2 _ (by omega), h3 _ (by omega)]
theorem mvF_congr {M M' : Nat → Int} {L L' : Nat → ByteArray} {n : Nat} (h1 : ∀ k, k < n → M k = M' k) (h2 : ∀ k, k < n → L k = L' k) : ∀ i, i < n * 2 → mvF M L i = mvF M' L' i := fun i hi => by
  unfold mvF
  rw [h1 _ (by omega), h2 _ (by omega)]
theorem mvF_upd {M : Nat → Int} {L : Nat → ByteArray} {k : Nat} {a : Int} {b : ByteArray} (i : Nat) :
    (if i = k * 2 + 1 then Value.string b else if i = k * 2 then Value.int .i64 a else mvF M L i) = mvF (upd M k a) (upd L k b) i := by
  unfold mvF upd
  by_cases e1 : i = k * 2 + 1
  · subst e1
    rw [if_pos rfl, if_neg (by omega), if_pos (by omega)]
  rw [if_neg e1]
  by_cases e0 : i = k * 2
  · subst e0
    rw [if_pos rfl, if_pos (by omega), if_pos (by omega)]
  rw [if_neg e0]
  have h2 : i % 2 = 0 ∨ i % 2 = 1 := by omega
  rcases h2 with h | h
  · rw [if_pos h, if_pos h, if_neg (by omega)]
  · rw [if_neg (by omega), if_neg (by omega), if_neg (by omega)]
/-- a move stored into a row of moves -/
theorem Own.setMv {w : World} {g cap n : Nat} {M : Nat → Int} {L : Nat → ByteArray} {t : TypeId} (h : Own w g cap n 2 t (mvF M L)) (k : Nat) (a : Int) (b : ByteArray) :
    Own ((w.setCell ⟨g, k * 2, none⟩ (.int .i64 a)).setCell ⟨g, k * 2 + 1, none⟩ (.string b)) g cap n 2 t (mvF (upd M k a) (upd L k b)) :=
  ((h.set (k * 2) _).set (k * 2 + 1) _).congr fun i _ => mvF_upd i
theorem Own.mv {w : World} {g cap n : Nat} {M : Nat → Int} {L : Nat → ByteArray} {t : TypeId} (h : Own w g cap n 2 t (mvF M L)) {k : Nat} (hk : k < n) : w.cell? ⟨g, k * 2, none⟩ = some (.int .i64 (M k)) ∧ w.cell? ⟨g, k * 2 + 1, none⟩ = some (.string (L k)) := by
  have := (MvsC.of_own h).at k hk
  simpa using this
theorem Own.bl {w : World} {g cap n : Nat} {N : Nat → Int} {I O : Nat → Bool} {t : TypeId} (h : Own w g cap n 3 t (bkF N I O)) {k : Nat} (hk : k < n) : w.cell? ⟨g, k * 3, none⟩ = some (.int .i64 (N k)) ∧ w.cell? ⟨g, k * 3 + 1, none⟩ = some (.bool (I k)) ∧ w.cell? ⟨g, k * 3 + 2, none⟩ = some (.bool (O k)) := by
  have := (BkC.of_own h).at k hk
  simpa using this
/-- a row of zero blocks -/
theorem own_bk0 (w : World) (n : Nat) (hn : n ≤ 1000000000000) : Own (w.alloc (.cells (madeCells #[.int .i64 0, .bool false, .bool false] (n * 3)) 75)) w.heap.size n n 3 75 (bkF (fun _ => 0) (fun _ => false) (fun _ => false)) :=
  own_full w _ n 3 _ _ (by unfold maxLen; omega) rfl (by omega) (fun i _ => by
    unfold bkF
    have h3 : i % 3 = 0 ∨ i % 3 = 1 ∨ i % 3 = 2 := by omega
    rcases h3 with h | h | h <;> simp [h])
theorem own_mv0 (w : World) (n : Nat) (hn : n ≤ 1000000000000) : Own (w.alloc (.cells (madeCells #[.int .i64 0, .string ⟨#[]⟩] (n * 2)) 34)) w.heap.size n n 2 34 (mvF (fun _ => 0) (fun _ => ⟨#[]⟩)) :=
  own_full w _ n 2 _ _ (by unfold maxLen; omega) rfl (by omega) (fun i _ => by
    unfold mvF
    have h2 : i % 2 = 0 ∨ i % 2 = 1 := by omega
    rcases h2 with h | h <;> simp [h])
set_option linter.unusedSimpArgs false in
theorem toBlockS_any (b off n c : Nat) (N : Nat → Int) (I O : Nat → Bool) (w : World) (hn : n ≤ 1000000000000) (hc : BkC w b off n N I O) :
    Calls Try.prog 56 #[.slice (some ⟨b, off, none⟩) n c] w fun e w' => ∃ g c', e = .returned (.slice (some ⟨g, 0, none⟩) n c') ∧ w.heap.size ≤ g ∧ Own w' g c' n 3 75 (bkF N I O) ∧ Below w.heap.size w w' := by
  have hmk := fun w => run_mk elBk n n (Nat.le_refl _) (by omega) (by omega) w
  have HC : Hid (∀ w', Below w.heap.size w w' → BkC w' b off n N I O) := fun w' hb => hc.keep hb
  clear hc
  go_enter Try.func56, Try.ntmps56
  go_wp2_with fail
  go_loopw [4] (fun i wr => ∃ k : Nat, k ≤ n ∧ i = .int .i64 k ∧ Hid (Own wr w.heap.size n n 3 75 (bkF (fun i => if i < k then N i else 0) (fun i => if i < k then I i else false) (fun i => if i < k then O i else false))) ∧ Hid (Below w.heap.size w wr)) (fun i _ => n - (intOf i).toNat)
  case atStart => exact ⟨0, Nat.zero_le _, rfl, (own_bk0 w n hn).congr (bkF_congr (by simp) (by simp) (by simp)), (Below.refl _ _).alloc (Nat.le_refl _) _⟩
  case round =>
    obtain ⟨k, hk, rfl, HO, HB⟩ := hrel
    by_cases hlt : k < n
    · have hck := (HC.out _ HB.out).at k hlt
      go_wp2_with fail
      refine (toBlock_any _ _ _ _).mono ?_
      rintro e w2 ⟨rfl, hb⟩
      have HO2 := Lib.hid (HO.out.below hb HO.out.lt)
      have HB2 := Lib.hid (HB.out.trans (hb.mono HB.out.size))
      have hcg := HO2.out.bl hlt
      have hfg := HO2.out.free
      clear hb
      go_wp2_with fail
      go_roundw
      case rel => exact ⟨k + 1, by omega, by go_num, Lib.hid (by have h := HO2.out.setBk k (N k) (I k) (O k); rw [upd_step N 0 k, upd_step I false k, upd_step O false k] at h; exact h), Lib.hid (((HB2.out.setCell (p := ⟨w.heap.size, k * 3, none⟩) (Nat.le_refl _) _).setCell (p := ⟨w.heap.size, k * 3 + 1, none⟩) (Nat.le_refl _) _).setCell (p := ⟨w.heap.size, k * 3 + 2, none⟩) (Nat.le_refl _) _)⟩
      case measure => simp [intOf]; omega
    · obtain e : k = n := by omega
      subst e
      go_wp2_with fail
      go_ret
      exact ⟨_, _, rfl, Nat.le_refl _, HO.out.congr (bkF_congr (fun i hi => by simp [hi]) (fun i hi => by simp [hi]) (fun i hi => by simp [hi])), HB.out⟩
set_option linter.unusedSimpArgs false in
theorem toMoveS_any (b off n c : Nat) (M : Nat → Int) (L : Nat → ByteArray) (w : World) (hn : n ≤ 1000000000000) (hc : MvsC w b off n M L) :
    Calls Try.prog 37 #[.slice (some ⟨b, off, none⟩) n c] w fun e w' => ∃ g c', e = .returned (.slice (some ⟨g, 0, none⟩) n c') ∧ w.heap.size ≤ g ∧ Own w' g c' n 2 34 (mvF M L) ∧ Below w.heap.size w w' := by
  have hmk := fun w => run_mk elMv n n (Nat.le_refl _) (by omega) (by omega) w
  have HC : Hid (∀ w', Below w.heap.size w w' → MvsC w' b off n M L) := fun w' hb => hc.keep hb
  clear hc
  go_enter Try.func37, Try.ntmps37
  go_wp2_with fail
  go_loopw [4] (fun i wr => ∃ k : Nat, k ≤ n ∧ i = .int .i64 k ∧ Hid (Own wr w.heap.size n n 2 34 (mvF (fun i => if i < k then M i else 0) (fun i => if i < k then L i else ⟨#[]⟩))) ∧ Hid (Below w.heap.size w wr)) (fun i _ => n - (intOf i).toNat)
  case atStart => exact ⟨0, Nat.zero_le _, rfl, (own_mv0 w n hn).congr (mvF_congr (by simp) (by simp)), (Below.refl _ _).alloc (Nat.le_refl _) _⟩
  case round =>
    obtain ⟨k, hk, rfl, HO, HB⟩ := hrel
    by_cases hlt : k < n
    · have hck := (HC.out _ HB.out).at k hlt
      go_wp2_with fail
      refine (toMove_any _ _ _).mono ?_
      rintro e w2 ⟨rfl, hb⟩
      have HO2 := Lib.hid (HO.out.below hb HO.out.lt)
      have HB2 := Lib.hid (HB.out.trans (hb.mono HB.out.size))
      have hcg := HO2.out.mv hlt
      have hfg := HO2.out.free
      clear hb
      go_wp2_with fail
      go_roundw
      case rel => exact ⟨k + 1, by omega, by go_num, Lib.hid (by have h := HO2.out.setMv k (M k) (L k); rw [upd_step M 0 k, upd_step L ⟨#[]⟩ k] at h; exact h), Lib.hid ((HB2.out.setCell (p := ⟨w.heap.size, k * 2, none⟩) (Nat.le_refl _) _).setCell (p := ⟨w.heap.size, k * 2 + 1, none⟩) (Nat.le_refl _) _)⟩
      case measure => simp [intOf]; omega
    · obtain e : k = n := by omega
      subst e
      go_wp2_with fail
      go_ret
      exact ⟨_, _, rfl, Nat.le_refl _, HO.out.congr (mvF_congr (fun i hi => by simp [hi]) (fun i hi => by simp [hi])), HB.out⟩
end Go.Proofs.Ytbachpfgakjncaa
