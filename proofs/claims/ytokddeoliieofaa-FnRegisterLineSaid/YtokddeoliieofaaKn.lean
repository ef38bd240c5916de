/-
  The helpers of the exact laws on notes: copies, sizes, equality, marks.
-/
import Derived.Test.YtokddeoliieofaaB
import Derived.Test.YtokddeoliieofaaKe
import Derived.Lib.SlBytesRow
namespace Go.Proofs.Ytokddeoliieofaa
open Go.RowKit

/-- f with another value at i -/
def upd {α : Type} (f : Nat → α) (i : Nat) (v : α) (j : Nat) : α := if j = i then v else f j
/-- one byte as a text -/
def chr (c : UInt8) : ByteArray := ⟨#[c]⟩
/-- a row of moves -/
def MvsC (w : World) (b off q : Nat) (M : Nat → Int) (L : Nat → ByteArray) : Prop :=
  ∀ k, k < q → w.cell? ⟨b, off + k * 2, none⟩ = some (.int .i64 (M k)) ∧ w.cell? ⟨b, off + k * 2 + 1, none⟩ = some (.string (L k))
theorem MvsC.at {w : World} {b off q : Nat} {M : Nat → Int} {L : Nat → ByteArray} (h : MvsC w b off q M L) (k : Nat) (hk : k < q) :
    w.cell? ⟨b, off + k * 2, none⟩ = some (.int .i64 (M k)) ∧ w.cell? ⟨b, off + k * 2 + 1, none⟩ = some (.string (L k)) := h k hk
theorem MvsC.keep {w w' : World} {b off q : Nat} {M : Nat → Int} {L : Nat → ByteArray} (h : MvsC w b off q M L) (hb : Below w.heap.size w w') : MvsC w' b off q M L := fun k hk => by
  obtain ⟨h1, h2⟩ := h k hk
  have hlt : b < w.heap.size := World.block_lt_of_cell? w ⟨b, off + k * 2, none⟩ h1
  exact ⟨by rw [hb.cell (p := ⟨b, off + k * 2, none⟩) hlt]; exact h1, by rw [hb.cell (p := ⟨b, off + k * 2 + 1, none⟩) hlt]; exact h2⟩
/-- a row of moves as a value -/
def MLs (w : World) (v : Value) (n : Nat) (M : Nat → Int) (L : Nat → ByteArray) : Prop :=
  (∃ b o c, v = .slice (some ⟨b, o, none⟩) n c ∧ MvsC w b o n M L) ∨ (n = 0 ∧ ∃ ao c, v = .slice ao 0 c)
theorem MLs.keep {w w' : World} {v : Value} {n : Nat} {M : Nat → Int} {L : Nat → ByteArray} (h : MLs w v n M L) (hb : Below w.heap.size w w') : MLs w' v n M L := by
  rcases h with ⟨b, o, c, e, h⟩ | h
  · exact .inl ⟨b, o, c, e, h.keep hb⟩
  · exact .inr h
theorem MLs.shape {w : World} {v : Value} {n : Nat} {M : Nat → Int} {L : Nat → ByteArray} (h : MLs w v n M L) : ∃ ao c, v = .slice ao n c := by
  rcases h with ⟨b, o, c, e, _⟩ | ⟨rfl, ao, c, e⟩
  · exact ⟨_, _, e⟩
  · exact ⟨_, _, e⟩
/-- the cells of a row of moves -/
def mvF (M : Nat → Int) (L : Nat → ByteArray) (i : Nat) : Value := if i % 2 = 0 then .int .i64 (M (i / 2)) else .string (L (i / 2))
theorem MvsC.of_own {w : World} {g cap n : Nat} {M : Nat → Int} {L : Nat → ByteArray} {t : TypeId} (h : Own w g cap n 2 t (mvF M L)) : MvsC w g 0 n M L := fun k hk => by
  have h0 := h.cell (i := k * 2) (by omega)
  have h1 := h.cell (i := k * 2 + 1) (by omega)
  rw [Nat.zero_add]
  refine ⟨?_, ?_⟩
  · rw [h0]; unfold mvF; rw [if_pos (by omega), show k * 2 / 2 = k by omega]
  · rw [h1]; unfold mvF; rw [if_neg (by omega), show (k * 2 + 1) / 2 = k by omega]
theorem elMv : Elem Try.prog 23 61 (.agg #[.int .i64 0, .string ⟨#[]⟩]) 2 24 := ⟨Try.underlying23, by kernel_rfl, rfl, by decide⟩
/-- a row full of zero values of s cells -/
theorem own_full (w : World) (z : Array Value) (n s : Nat) (t : TypeId) (f : Nat → Value) (hc : n ≤ maxLen) (hz : z.size = s) (hs : 0 < s) (hf : ∀ i, i < n * s → z[i % s]? = some (f i)) : Own (w.alloc (.cells (madeCells z (n * s)) t)) w.heap.size n n s t f :=
  ⟨Nat.le_refl _, hc, _, heap_alloc_new _ _, by rw [size_madeCells], fun i hi => by
    have h := hf i hi
    have hm : i % s < s := Nat.mod_lt _ hs
    simp only [madeCells]
    simp [hi, hz]
    rw [Array.getElem?_eq_getElem (by omega)] at h
    simpa [Array.getD, hz, hm] using h⟩
theorem toNote_any (n : Int) (s : ByteArray) (w : World) :
    Calls Try.prog 70 #[.agg #[.int .i64 n, .string s]] w fun e w' => e = .returned (.agg #[.int .i64 n, .string s]) ∧ Below w.heap.size w w' := by
  go_enter Try.func70, Try.ntmps70
  go_wp2_with fail
  exact bodyPost_ret (v := .agg #[.int .i64 n, .string s]) (by simp [results, Try.results70, go_sem]) rfl ⟨rfl, ((below_all _ _).alloc (by simp) _).alloc (by simp; omega) _⟩
theorem upd_step {α : Type} (f : Nat → α) (z : α) (k : Nat) : upd (fun i => if i < k then f i else z) k (f k) = fun i => if i < k + 1 then f i else z := by
  funext i
  unfold upd
  by_cases e : i = k
  · subst e; simp
  · have : i < k + 1 ↔ i < k := by omega
    simp [e, this]
theorem mvF_congr {M M' : Nat → Int} {L L' : Nat → ByteArray} {n : Nat} (h1 : ∀ k, k < n → M k = M' k) (h2 : ∀ k, k < n → L k = L' k) : ∀ i, i < n * 2 → mvF M L i = mvF M' L' i := fun i hi => by
  unfold mvF
  rw [h1 _ (by omega), h2 _ (by omega)]
theorem mvF_upd {M : Nat → Int} {L : Nat → ByteArray} {k : Nat} {a : Int} {b : ByteArray} (i : Nat) :
    (if i = k * 2 + 1 then Value.string b else if i = k * 2 then Value.int .i64 a else mvF M L i) = mvF (upd M k a) (upd L k b) i := by
  unfold mvF upd
  by_cases e1 : i = k * 2 + 1
  · subst e1
    rw [if_pos rfl, if_neg (by omega), if_pos (by omega)]
  rw [if_neg e1]
  by_cases e0 : i = k * 2
  · subst e0
    rw [if_pos rfl, if_pos (by omega), if_pos (by omega)]
  rw [if_neg e0]
  have h2 : i % 2 = 0 ∨ i % 2 = 1 := by omega
  rcases h2 with h | h
  · rw [if_pos h, if_pos h, if_neg (by omega)]
  · rw [if_neg (by omega), if_neg (by omega), if_neg (by omega)]
/-- a move stored into a row of moves -/
theorem Own.setMv {w : World} {g cap n : Nat} {M : Nat → Int} {L : Nat → ByteArray} {t : TypeId} (h : Own w g cap n 2 t (mvF M L)) (k : Nat) (a : Int) (b : ByteArray) :
    Own ((w.setCell ⟨g, k * 2, none⟩ (.int .i64 a)).setCell ⟨g, k * 2 + 1, none⟩ (.string b)) g cap n 2 t (mvF (upd M k a) (upd L k b)) :=
  ((h.set (k * 2) _).set (k * 2 + 1) _).congr fun i _ => mvF_upd i
theorem Own.mv {w : World} {g cap n : Nat} {M : Nat → Int} {L : Nat → ByteArray} {t : TypeId} (h : Own w g cap n 2 t (mvF M L)) {k : Nat} (hk : k < n) : w.cell? ⟨g, k * 2, none⟩ = some (.int .i64 (M k)) ∧ w.cell? ⟨g, k * 2 + 1, none⟩ = some (.string (L k)) := by
  have := (MvsC.of_own h).at k hk
  simpa using this
theorem own_mv0 (w : World) (n : Nat) (hn : n ≤ 1000000000000) : Own (w.alloc (.cells (madeCells #[.int .i64 0, .string ⟨#[]⟩] (n * 2)) 61)) w.heap.size n n 2 61 (mvF (fun _ => 0) (fun _ => ⟨#[]⟩)) :=
  own_full w _ n 2 _ _ (by unfold maxLen; omega) rfl (by omega) (fun i _ => by
    unfold mvF
    have h2 : i % 2 = 0 ∨ i % 2 = 1 := by omega
    rcases h2 with h | h <;> simp [h])
set_option linter.unusedSimpArgs false in
theorem toNoteS_any (b off n c : Nat) (M : Nat → Int) (L : Nat → ByteArray) (w : World) (hn : n ≤ 1000000000000) (hc : MvsC w b off n M L) :
    Calls Try.prog 20 #[.slice (some ⟨b, off, none⟩) n c] w fun e w' => ∃ g c', e = .returned (.slice (some ⟨g, 0, none⟩) n c') ∧ w.heap.size ≤ g ∧ Own w' g c' n 2 61 (mvF M L) ∧ Below w.heap.size w w' := by
  have hmk := fun w => run_mk elMv n n (Nat.le_refl _) (by omega) (by omega) w
  have HC : Hid (∀ w', Below w.heap.size w w' → MvsC w' b off n M L) := fun w' hb => hc.keep hb
  clear hc
  go_enter Try.func20, Try.ntmps20
  go_wp2_with fail
  go_loopw [4] (fun i wr => ∃ k : Nat, k ≤ n ∧ i = .int .i64 k ∧ Hid (Own wr w.heap.size n n 2 61 (mvF (fun i => if i < k then M i else 0) (fun i => if i < k then L i else ⟨#[]⟩))) ∧ Hid (Below w.heap.size w wr)) (fun i _ => n - (intOf i).toNat)
  case atStart => exact ⟨0, Nat.zero_le _, rfl, (own_mv0 w n hn).congr (mvF_congr (by simp) (by simp)), (Below.refl _ _).alloc (Nat.le_refl _) _⟩
  case round =>
    obtain ⟨k, hk, rfl, HO, HB⟩ := hrel
    by_cases hlt : k < n
    · have hck := (HC.out _ HB.out).at k hlt
      go_wp2_with fail
      refine (toNote_any _ _ _).mono ?_
      rintro e w2 ⟨rfl, hb⟩
      have HO2 := Lib.hid (HO.out.below hb HO.out.lt)
      have HB2 := Lib.hid (HB.out.trans (hb.mono HB.out.size))
      have hcg := HO2.out.mv hlt
      have hfg := HO2.out.free
      clear hb
      go_wp2_with fail
      go_roundw
      case rel => exact ⟨k + 1, by omega, by go_num, Lib.hid (by have h := HO2.out.setMv k (M k) (L k); rw [upd_step M 0 k, upd_step L ⟨#[]⟩ k] at h; exact h), Lib.hid ((HB2.out.setCell (p := ⟨w.heap.size, k * 2, none⟩) (Nat.le_refl _) _).setCell (p := ⟨w.heap.size, k * 2 + 1, none⟩) (Nat.le_refl _) _)⟩
      case measure => simp [intOf]; omega
    · obtain e : k = n := by omega
      subst e
      go_wp2_with fail
      go_ret
      exact ⟨_, _, rfl, Nat.le_refl _, HO.out.congr (mvF_congr (fun i hi => by simp [hi]) (fun i hi => by simp [hi])), HB.out⟩
/-- sizes -/
def szR (n : Nat) (left : Int) : Int := if left - n < 0 then -1 else left - n
theorem toNoteS_ML (v : Value) (n : Nat) (M : Nat → Int) (L : Nat → ByteArray) (w : World) (hn : n ≤ 1000000000000) (hv : MLs w v n M L) :
    Calls Try.prog 20 #[v] w fun e w' => ∃ g c', e = .returned (.slice (some ⟨g, 0, none⟩) n c') ∧ w.heap.size ≤ g ∧ Own w' g c' n 2 61 (mvF M L) ∧ Below w.heap.size w w' := by
  rcases hv with ⟨b, o, c, rfl, h⟩ | ⟨rfl, ao, co, rfl⟩
  · exact toNoteS_any b o n c M L w hn h
  · have hmk : ∀ w, (Instr.makeSlice 23 (.int .i64 0) (.int .i64 0)).run Try.prog w = .ok (.slice (some ⟨w.heap.size, 0, none⟩) 0 0) (w.alloc (.cells (madeCells #[.int .i64 0, .string ⟨#[]⟩] (0 * 2)) 61)) := fun w => run_mk elMv 0 0 (Nat.le_refl _) (by omega) (by omega) w
    go_enter Try.func20, Try.ntmps20
    go_wp2_with fail
    go_loop [4] (fun i => i = .int .i64 0) (fun _ => 0)
    case atStart => rfl
    case round =>
      subst hrel
      go_wp2_with fail
      go_ret
      exact ⟨_, _, rfl, Nat.le_refl _, (own_mv0 w 0 (by omega)).congr (fun i hi => by omega), (Below.refl _ _).alloc (Nat.le_refl _) _⟩
set_option linter.unusedSimpArgs false in
theorem szNote_any (n : Int) (s : ByteArray) (left : Int) (w : World) (hl : 0 ≤ left ∧ left ≤ 1048576) (hs : s.size ≤ 9223372036854775807) :
    Calls Try.prog 69 #[.agg #[.int .i64 n, .string s], .int .i64 left] w fun e w' => e = .returned (.int .i64 (szR s.size left)) ∧ Below w.heap.size w w' := by
  have HBB : Hid (∀ a, Below w.heap.size w (w.alloc a)) := fun a => below_all _ _
  by_cases h : left - s.size < 0
  · have HE : Hid (szR s.size left = -1) := if_pos h
    go_enter Try.func69, Try.ntmps69
    go_wp2_with fail
    go_ret
    exact ⟨retI HE.out.symm, HBB.out _⟩
  · have HE : Hid (szR s.size left = left - s.size) := if_neg h
    go_enter Try.func69, Try.ntmps69
    go_wp2_with fail
    go_ret
    exact ⟨retI HE.out.symm, HBB.out _⟩
/-- what szNoteS says -/
def SzM (q : Nat) (left r : Int) : Prop := r = -1 ∨ (0 ≤ r ∧ r ≤ left ∧ (q : Int) ≤ left)
set_option linter.unusedSimpArgs false in
theorem szNoteS_any (v : Value) (q : Nat) (M : Nat → Int) (L : Nat → ByteArray) (left : Int) (w : World) (hl : 0 ≤ left ∧ left ≤ 1048576) (hq : q ≤ 9223372036854775807) (hs : ∀ k, k < q → (L k).size ≤ 9223372036854775807) (hv : MLs w v q M L) :
    Calls Try.prog 18 #[v, .int .i64 left] w fun e w' => (∃ r, e = .returned (.int .i64 r) ∧ SzM q left r) ∧ Below w.heap.size w w' := by
  obtain ⟨ao, c, rfl⟩ := hv.shape
  have HMV : Hid (∀ w', Below w.heap.size w w' → MLs w' (.slice ao q c) q M L) := fun w' hb => hv.keep hb
  have HS := Lib.hid hs
  clear hv hs
  by_cases h : left - q < 0
  · have HE : Hid (SzM q left (-1)) := .inl rfl
    go_enter Try.func18, Try.ntmps18
    go_wp2_with fail
    go_ret
    exact ⟨⟨_, rfl, HE.out⟩, Below.refl _ _⟩
  · go_enter Try.func18, Try.ntmps18
    go_wp2_with fail
    go_loopw [1, 5] (fun s i wr => ∃ k : Nat, ∃ r : Int, k ≤ q ∧ i = .int .i64 k ∧ s = .int .i64 r ∧ 0 ≤ r ∧ r ≤ left ∧ Hid (Below w.heap.size w wr)) (fun _ i _ => q - (intOf i).toNat)
    case atStart => exact ⟨0, _, Nat.zero_le _, rfl, rfl, by omega, by omega, Below.refl _ _⟩
    case round =>
      obtain ⟨k, r, hk, rfl, rfl, hr0, hr1, HB⟩ := hrel
      by_cases hlt : k < q
      · rcases HMV.out _ HB.out with ⟨b, o, c', e, hm⟩ | ⟨h0, _⟩
        · cases e
          obtain ⟨c0, c1⟩ := hm.at k hlt
          have HSk := Lib.hid (HS.out k hlt)
          clear hm
          by_cases h2 : r - (L k).size < 0
          · have HG : Hid (szR (L k).size r = -1) := if_pos h2
            go_wp2_with fail
            refine (szNote_any _ _ _ _ (by omega) HSk.out).mono ?_
            rintro e w2 ⟨rfl, hb⟩
            have HB2 := Lib.hid (HB.out.trans (hb.mono HB.out.size))
            rw [HG.out]
            clear hb
            go_wp2_with fail
            go_ret
            exact ⟨⟨_, rfl, .inl rfl⟩, HB2.out⟩
          · have HG : Hid (szR (L k).size r = r - (L k).size) := if_neg h2
            go_wp2_with fail
            refine (szNote_any _ _ _ _ (by omega) HSk.out).mono ?_
            rintro e w2 ⟨rfl, hb⟩
            have HB2 := Lib.hid (HB.out.trans (hb.mono HB.out.size))
            rw [HG.out]
            clear hb
            go_wp2_with fail
            go_roundw
            case rel => exact ⟨k + 1, _, by omega, by go_num, rfl, by omega, by omega, HB2⟩
            case measure => simp [intOf]; omega
        · omega
      · obtain e : k = q := by omega
        subst e
        go_wp2_with fail
        go_ret
        exact ⟨⟨_, rfl, .inr ⟨hr0, hr1, by omega⟩⟩, HB.out⟩
set_option linter.unusedSimpArgs false in
theorem eqNote_same (n : Int) (s : ByteArray) (w : World) :
    Calls Try.prog 72 #[.agg #[.int .i64 n, .string s], .agg #[.int .i64 n, .string s]] w fun e w' => e = .returned (.bool true) ∧ Below w.heap.size w w' := by
  have HBB : Hid (∀ a b, Below w.heap.size w ((w.alloc a).alloc b)) := fun a b => (below_all _ _).alloc (by simp) _
  go_enter Try.func72, Try.ntmps72
  go_wp2_with fail
  go_ret
  exact ⟨rfl, HBB.out _ _⟩
set_option linter.unusedSimpArgs false in
theorem eqNoteS_same (b off n c b' off' c' : Nat) (M : Nat → Int) (L : Nat → ByteArray) (w : World) (hn : n ≤ 1000000000000) (hc : MvsC w b off n M L) (hd : MvsC w b' off' n M L) :
    Calls Try.prog 23 #[.slice (some ⟨b, off, none⟩) n c, .slice (some ⟨b', off', none⟩) n c'] w fun e w' => e = .returned (.bool true) ∧ Below w.heap.size w w' := by
  have HC : Hid (∀ w', Below w.heap.size w w' → MvsC w' b off n M L) := fun w' hb => hc.keep hb
  have HD : Hid (∀ w', Below w.heap.size w w' → MvsC w' b' off' n M L) := fun w' hb => hd.keep hb
  clear hc hd
  go_enter Try.func23, Try.ntmps23
  go_wp2_with fail
  go_loopw [5] (fun i wr => ∃ k : Nat, k ≤ n ∧ i = .int .i64 k ∧ Hid (Below w.heap.size w wr)) (fun i _ => n - (intOf i).toNat)
  case atStart => exact ⟨0, Nat.zero_le _, rfl, Lib.hid (Below.refl _ _)⟩
  case round =>
    obtain ⟨k, hk, rfl, HB⟩ := hrel
    by_cases hlt : k < n
    · have hck := (HC.out _ HB.out).at k hlt
      have hdk := (HD.out _ HB.out).at k hlt
      go_wp2_with fail
      refine wp_region_held_drew (S := (fun w' => (w'.cell? ⟨b, off + k * 2, none⟩ = some (.int .i64 (M k)) ∧ w'.cell? ⟨b, off + k * 2 + 1, none⟩ = some (.string (L k))) ∧ (w'.cell? ⟨b', off' + k * 2, none⟩ = some (.int .i64 (M k)) ∧ w'.cell? ⟨b', off' + k * 2 + 1, none⟩ = some (.string (L k))))) (by kernel_rfl) ?_ (fun hHeld => ?_)
      · try dsimp only
        go_keep
      refine wpAnyH_take (i := 0) (oi := ?_) (v := ?_) ?_ (by kernel_rfl) (by kernel_rfl) (by kernel_rfl) ?_ ?_ (by assumption) ?_
      rotate_left 2
      · simp only [List.getElem?_toArray, List.getElem?_cons_succ, List.getElem?_cons_zero]; rfl
      · exact fun _ _ _ h => h
      · first
          | (refine Or.inr ⟨?_, ?_⟩ <;> rfl)
          | (refine Or.inl ⟨?_, ?_⟩; · rfl
             intro w hSw; (try dsimp only at hSw); go_simp; (try with_reducible rfl); done)
      try simp only [Act.put, List.setIfInBounds_toArray, List.set_cons_zero, List.set_cons_succ]
      refine wpAnyH_take (i := 1) (oi := ?_) (v := ?_) ?_ (by kernel_rfl) (by kernel_rfl) (by kernel_rfl) ?_ ?_ (by assumption) ?_
      rotate_left 2
      · simp only [List.getElem?_toArray, List.getElem?_cons_succ, List.getElem?_cons_zero]; rfl
      · exact fun _ _ _ h => h
      · first
          | (refine Or.inr ⟨?_, ?_⟩ <;> rfl)
          | (refine Or.inl ⟨?_, ?_⟩; · rfl
             intro w hSw; (try dsimp only at hSw); go_simp; (try with_reducible rfl); done)
      try simp only [Act.put, List.setIfInBounds_toArray, List.set_cons_zero, List.set_cons_succ]
      refine wpAnyH_take (i := 2) (oi := ?_) (v := ?_) ?_ (by kernel_rfl) (by kernel_rfl) (by kernel_rfl) ?_ ?_ (by assumption) ?_
      rotate_left 2
      · simp only [List.getElem?_toArray, List.getElem?_cons_succ, List.getElem?_cons_zero]; rfl
      · exact fun _ _ _ h => h
      · first
          | (refine Or.inr ⟨?_, ?_⟩ <;> rfl)
          | (refine Or.inl ⟨?_, ?_⟩; · rfl
             intro w hSw; (try dsimp only at hSw); go_simp; (try with_reducible rfl); done)
      try simp only [Act.put, List.setIfInBounds_toArray, List.set_cons_zero, List.set_cons_succ]
      refine wpAnyH_take (i := 3) (oi := ?_) (v := ?_) ?_ (by kernel_rfl) (by kernel_rfl) (by kernel_rfl) ?_ ?_ (by assumption) ?_
      rotate_left 2
      · simp only [List.getElem?_toArray, List.getElem?_cons_succ, List.getElem?_cons_zero]; rfl
      · exact fun _ _ _ h => h
      · first
          | (refine Or.inr ⟨?_, ?_⟩ <;> rfl)
          | (refine Or.inl ⟨?_, ?_⟩; · rfl
             intro w hSw; (try dsimp only at hSw); go_simp; (try with_reducible rfl); done)
      try simp only [Act.put, List.setIfInBounds_toArray, List.set_cons_zero, List.set_cons_succ]
      refine wpAnyH_take (i := 4) (oi := ?_) (v := ?_) ?_ (by kernel_rfl) (by kernel_rfl) (by kernel_rfl) ?_ ?_ (by assumption) ?_
      rotate_left 2
      · simp only [List.getElem?_toArray, List.getElem?_cons_succ, List.getElem?_cons_zero]; rfl
      · exact fun _ _ _ h => h
      · first
          | (refine Or.inr ⟨?_, ?_⟩ <;> rfl)
          | (refine Or.inl ⟨?_, ?_⟩; · rfl
             intro w hSw; (try dsimp only at hSw); go_simp; (try with_reducible rfl); done)
      try simp only [Act.put, List.setIfInBounds_toArray, List.set_cons_zero, List.set_cons_succ]
      refine wpAnyH_take (i := 5) (oi := ?_) (v := ?_) ?_ (by kernel_rfl) (by kernel_rfl) (by kernel_rfl) ?_ ?_ (by assumption) ?_
      rotate_left 2
      · simp only [List.getElem?_toArray, List.getElem?_cons_succ, List.getElem?_cons_zero]; rfl
      · exact fun _ _ _ h => h
      · first
          | (refine Or.inr ⟨?_, ?_⟩ <;> rfl)
          | (refine Or.inl ⟨?_, ?_⟩; · rfl
             intro w hSw; (try dsimp only at hSw); go_simp; (try with_reducible rfl); done)
      try simp only [Act.put, List.setIfInBounds_toArray, List.set_cons_zero, List.set_cons_succ]
      refine wpAnyH_take (i := 6) (oi := ?_) (v := ?_) ?_ (by kernel_rfl) (by kernel_rfl) (by kernel_rfl) ?_ ?_ (by assumption) ?_
      rotate_left 2
      · simp only [List.getElem?_toArray, List.getElem?_cons_succ, List.getElem?_cons_zero]; rfl
      · exact fun _ _ _ h => h
      · first
          | (refine Or.inr ⟨?_, ?_⟩ <;> rfl)
          | (refine Or.inl ⟨?_, ?_⟩; · rfl
             intro w hSw; (try dsimp only at hSw); go_simp; (try with_reducible rfl); done)
      try simp only [Act.put, List.setIfInBounds_toArray, List.set_cons_zero, List.set_cons_succ]
      refine wpAnyH_take (i := 7) (oi := ?_) (v := ?_) ?_ (by kernel_rfl) (by kernel_rfl) (by kernel_rfl) ?_ ?_ (by assumption) ?_
      rotate_left 2
      · simp only [List.getElem?_toArray, List.getElem?_cons_succ, List.getElem?_cons_zero]; rfl
      · exact fun _ _ _ h => h
      · first
          | (refine Or.inr ⟨?_, ?_⟩ <;> rfl)
          | (refine Or.inl ⟨?_, ?_⟩; · rfl
             intro w hSw; (try dsimp only at hSw); go_simp; (try with_reducible rfl); done)
      try simp only [Act.put, List.setIfInBounds_toArray, List.set_cons_zero, List.set_cons_succ]
      refine wpAnyH_ready (rs := [8]) (by kernel_rfl) (by simp) ?_
      refine AllReadyH.cons (o := ?_) ?_ (fun K hK => ?_) AllReadyH.nil
      rotate_left 1
      · simp only [List.getElem?_toArray, List.getElem?_cons_succ, List.getElem?_cons_zero]; rfl
      go_simp
      go_at_call 72; go_must (refine Calls.mono (eqNote_same _ _ _) ?_); rintro e w2 ⟨rfl, hb⟩; have hb' : Below wr.heap.size wr w2 := (Below.refl _ wr).drew.trans hb; have HB2 := Lib.hid (HB.out.trans (hb'.mono HB.out.size)); clear hck hdk hb hb'; have hck := (HC.out _ HB2.out).at k hlt; have hdk := (HD.out _ HB2.out).at k hlt
      refine hK.out _ _ ?_ (fun hHeld => ?_)
      · try dsimp only
        go_keep
      clear hK K
      try simp only [Act.put, List.setIfInBounds_toArray, List.set_cons_zero, List.set_cons_succ]
      refine wpAnyH_take (i := 9) (oi := ?_) (v := ?_) ?_ (by kernel_rfl) (by kernel_rfl) (by kernel_rfl) ?_ ?_ (by assumption) ?_
      rotate_left 2
      · simp only [List.getElem?_toArray, List.getElem?_cons_succ, List.getElem?_cons_zero]; rfl
      · exact fun _ _ _ h => h
      · first
          | (refine Or.inr ⟨?_, ?_⟩ <;> rfl)
          | (refine Or.inl ⟨?_, ?_⟩; · rfl
             intro w hSw; (try dsimp only at hSw); go_simp; (try with_reducible rfl); done)
      try simp only [Act.put, List.setIfInBounds_toArray, List.set_cons_zero, List.set_cons_succ]
      refine wpAnyH_done (by kernel_rfl) ?_ _
      go_wp2_with fail
      go_roundw
      case rel => exact ⟨k + 1, by omega, by go_num, HB2⟩
      case measure => simp [intOf]; omega
    · obtain e : k = n := by omega
      subst e
      go_wp2_with fail
      go_ret
      exact ⟨rfl, HB.out⟩
theorem eqNoteS_zero (ao ao' : Option Addr) (c c' : Nat) (w : World) :
    Calls Try.prog 23 #[.slice ao 0 c, .slice ao' 0 c'] w fun e w' => e = .returned (.bool true) ∧ Below w.heap.size w w' := by
  go_enter Try.func23, Try.ntmps23
  go_wp2_with fail
  go_loop [5] (fun i => i = .int .i64 0) (fun _ => 0)
  case atStart => rfl
  case round =>
    subst hrel
    go_wp2_with fail
    go_ret
    exact ⟨rfl, Below.refl _ _⟩
theorem eqNoteS_ML (v u : Value) (n : Nat) (M : Nat → Int) (L : Nat → ByteArray) (w : World) (hn : n ≤ 1000000000000) (hv : MLs w v n M L) (hu : MLs w u n M L) :
    Calls Try.prog 23 #[v, u] w fun e w' => e = .returned (.bool true) ∧ Below w.heap.size w w' := by
  rcases Nat.eq_zero_or_pos n with h0 | h0
  · subst h0
    obtain ⟨ao, c, rfl⟩ := hv.shape
    obtain ⟨ao', c', rfl⟩ := hu.shape
    exact eqNoteS_zero ao ao' c c' w
  · rcases hv with ⟨b, o, c, rfl, h⟩ | ⟨h, _⟩
    · rcases hu with ⟨b', o', c', rfl, h'⟩ | ⟨h', _⟩
      · exact eqNoteS_same b o n c b' o' c' M L w hn h h'
      · omega
    · omega
theorem eqSl_same (n : Nat) (f : Nat → Int) : eqSl n n f f = true := eqSl_true.2 ⟨rfl, fun _ _ => rfl⟩
theorem upd_stepF {α : Type} (f z : Nat → α) (k : Nat) : upd (fun i => if i < k then f i else z i) k (f k) = fun i => if i < k + 1 then f i else z i := by
  funext i
  unfold upd
  by_cases e : i = k
  · subst e; simp
  · have : i < k + 1 ↔ i < k := by omega
    simp [e, this]
/-- a digit -/
def dgC (d : Nat) : UInt8 := UInt8.ofNat (48 + d)
/-- digits ahead of a text -/
def mkDg : Nat → Nat → ByteArray → ByteArray
  | 0, _, out => out
  | f + 1, k, out => if k = 0 then out else mkDg f (k / 10) (chr (dgC (k % 10)) ++ out)
def mkT (k : Nat) : ByteArray := if k = 0 then ⟨#[109, 48]⟩ else ⟨#[109]⟩ ++ mkDg k k ⟨#[]⟩
theorem mkDg_zero (f : Nat) (s : ByteArray) : mkDg f 0 s = s := by
  cases f <;> simp [mkDg]
theorem conv_dig (w : World) (d : Nat) (hd : d < 10) :
    (convert 22 9 (.slice (some ⟨w.heap.size, 0, none⟩) 1 1)).run Try.prog (w.alloc (.cells #[.int .u8 (48 + (d : Int))] 5)) = .ok (.string (chr (dgC d))) (w.alloc (.cells #[.int .u8 (48 + (d : Int))] 5)) := by
  have hb : Lib.Bytes (w.alloc (.cells #[.int .u8 (48 + (d : Int))] 5)) w.heap.size 0 (chr (dgC d)) := fun i hi => by
    have h1 : (chr (dgC d)).size = 1 := rfl
    obtain rfl : i = 0 := by omega
    rw [box_new]
    have h2 : ((chr (dgC d))[0]).toNat = 48 + d := by
      show (UInt8.ofNat (48 + d)).toNat = 48 + d
      rw [UInt8.toNat_ofNat']
      exact Nat.mod_eq_of_lt (by omega)
    rw [h2]
    simp
  exact Lib.run_convert_whole (P := Try.prog) _ 22 5 9 Try.underlying22 Try.underlying5 Try.underlying9 w.heap.size 0 (chr (dgC d)) hb 1
set_option maxRecDepth 100000 in
theorem markText_any (k : Nat) (w : World) (hk : k ≤ 1000000000000) :
    Calls Try.prog 73 #[.int .i64 k] w fun e w' => e = .returned (.string (mkT k)) ∧ Below w.heap.size w w' := by
  by_cases h0 : k = 0
  · subst h0
    go_enter Try.func73, Try.ntmps73
    go_wp2_with fail
    go_ret
    exact ⟨rfl, Below.refl _ _⟩
  · have hk0 : ¬ (k : Int) ≤ 0 := by omega
    have HT : Hid (mkT k = ⟨#[109]⟩ ++ mkDg k k ⟨#[]⟩) := if_neg h0
    go_enter Try.func73, Try.ntmps73
    go_wp2_with fail
    go_loopw [0, 3] (fun l o wr => ∃ j : Nat, ∃ s : ByteArray, l = .int .i64 j ∧ o = .string s ∧ s.size + j ≤ k ∧ Hid (∃ f, j ≤ f ∧ mkDg f j s = mkDg k k ⟨#[]⟩) ∧ Hid (Below w.heap.size w wr)) (fun l _ _ => (intOf l).toNat)
    case atStart => exact ⟨k, _, rfl, rfl, by show 0 + k ≤ k; omega, Lib.hid ⟨k, Nat.le_refl _, rfl⟩, Lib.hid (Below.refl _ _)⟩
    case round =>
      obtain ⟨j, s, rfl, rfl, hj, HD, HB⟩ := hrel
      by_cases hj0 : j = 0
      · subst hj0
        have hsz : ¬ 9223372036854775807 < 1 + s.size := by omega
        have HE : Hid (mkT k = ⟨#[109]⟩ ++ s) := by
          show _ = _
          obtain ⟨f, _, hf⟩ := HD.out
          rw [HT.out, ← hf, mkDg_zero]
        go_wp2_with fail
        go_ret
        exact ⟨congrArg (fun s => Ending.returned (.string s)) HE.out.symm, HB.out⟩
      · have hj1 : (0 : Int) < (j : Int) := by omega
        have hsz : ¬ 9223372036854775807 < (chr (dgC (j % 10))).size + s.size := by
          have : (chr (dgC (j % 10))).size = 1 := rfl
          omega
        have hcv := conv_dig wr (j % 10) (Nat.mod_lt _ (by omega))
        rw [show (48 : Int) + ((j % 10 : Nat) : Int) = 48 + (j : Int) % 10 by omega] at hcv
        have HN : Hid (∃ f, j / 10 ≤ f ∧ mkDg f (j / 10) (chr (dgC (j % 10)) ++ s) = mkDg k k ⟨#[]⟩) := by
          obtain ⟨f, hf, he⟩ := HD.out
          cases f with
          | zero => omega
          | succ f =>
            refine ⟨f, by omega, ?_⟩
            rw [← he]
            simp only [mkDg, if_neg hj0]
        have HB2 : Hid (∀ a, Below w.heap.size w (wr.alloc a)) := fun a => HB.out.alloc HB.out.size _
        have hjd : ((j / 10 : Nat) : Int) = (j : Int) / 10 := by omega
        have hjd := Lib.hid hjd
        go_wp2_with fail
        go_roundw
        case rel => exact ⟨j / 10, _, by rw [hjd.out], rfl, by
          have : (chr (dgC (j % 10)) ++ s).size = 1 + s.size := by rw [ByteArray.size_append]; rfl
          omega, HN, HB2.out _⟩
        case measure => simp [intOf]; omega
set_option linter.unusedSimpArgs false in
theorem markNoteS_any (g c n : Nat) (M : Nat → Int) (L : Nat → ByteArray) (m : Nat) (w : World) (hn : n ≤ 1000000000) (h1 : m ≤ 1000000000) (ho : Own w g c n 2 61 (mvF M L)) :
    Calls Try.prog 24 #[.slice (some ⟨g, 0, none⟩) n c, .int .i64 m] w fun e w' => e = .returned (.int .i64 ((m : Int) + 2 * n)) ∧ Own w' g c n 2 61 (mvF (fun i => (m : Int) + 2 * i) (fun i => mkT (m + 2 * i + 1))) ∧ w.grownBy w' (some g) := by
  have HO0 := Lib.hid ho
  clear ho
  go_enter Try.func24, Try.ntmps24
  go_wp2_with fail
  go_loopw [1, 5] (fun l i wr => ∃ k : Nat, k ≤ n ∧ i = .int .i64 k ∧ l = .int .i64 ((m : Int) + 2 * k) ∧ Hid (Own wr g c n 2 61 (mvF (fun i => if i < k then (m : Int) + 2 * i else M i) (fun i => if i < k then mkT (m + 2 * i + 1) else L i))) ∧ Hid (w.grownBy wr (some g))) (fun _ i _ => n - (intOf i).toNat)
  case atStart => exact ⟨0, Nat.zero_le _, rfl, by go_num, HO0.out.congr (mvF_congr (by simp) (by simp)), World.grownBy.refl _ _⟩
  case round =>
    obtain ⟨k, hk, rfl, rfl, HO, HG⟩ := hrel
    by_cases hlt : k < n
    · obtain ⟨c0, c1⟩ := HO.out.mv hlt
      have hfg := HO.out.free
      have HS := Lib.hid (HO.out.set (k * 2) (.int .i64 ((m : Int) + 2 * k)))
      have HG1 : Hid (w.grownBy (wr.setCell ⟨g, k * 2, none⟩ (.int .i64 ((m : Int) + 2 * k))) (some g)) := grownBy_trans HG.out (grownBy_setCell _ _ _ _)
      have HMT : Hid (∀ W, Calls Try.prog 73 #[.int .i64 ((m : Int) + 2 * k + 1)] W fun e w' => e = .returned (.string (mkT (m + 2 * k + 1))) ∧ Below W.heap.size W w') := fun W => by
        have h := markText_any (m + 2 * k + 1) W (by omega)
        rwa [show (((m + 2 * k + 1 : Nat) : Int)) = (m : Int) + 2 * k + 1 by omega] at h
      go_wp2_with fail
      refine (HMT.out _).mono ?_
      rintro e w2 ⟨rfl, hb⟩
      have HS2 := Lib.hid (HS.out.below hb HS.out.lt)
      have HG2 := Lib.hid (grownBy_trans HG1.out (grownBy_below hb _))
      have hfg2 := HS2.out.free
      have hc2 := HS2.out.cell (i := k * 2 + 1) (by omega)
      have HS3 : Hid (Own (w2.setCell ⟨g, k * 2 + 1, none⟩ (.string (mkT (m + 2 * k + 1)))) g c n 2 61 (mvF (fun i => if i < k + 1 then (m : Int) + 2 * i else M i) (fun i => if i < k + 1 then mkT (m + 2 * i + 1) else L i))) := by
        have h := (HS2.out.set (k * 2 + 1) (.string (mkT (m + 2 * k + 1)))).congr (f' := mvF (upd (fun i => if i < k then (m : Int) + 2 * i else M i) k ((fun i : Nat => (m : Int) + 2 * i) k)) (upd (fun i => if i < k then mkT (m + 2 * i + 1) else L i) k ((fun i => mkT (m + 2 * i + 1)) k))) fun i _ => mvF_upd i
        rw [upd_stepF (fun i : Nat => (m : Int) + 2 * i) M k, upd_stepF (fun i => mkT (m + 2 * i + 1)) L k] at h
        exact h
      clear hb hfg c0 c1
      go_wp2_with fail
      go_roundw
      case rel => exact ⟨k + 1, by omega, by go_num, by go_num, HS3, grownBy_trans HG2.out (grownBy_setCell _ _ _ _)⟩
      case measure => simp [intOf]; omega
    · obtain e : k = n := by omega
      subst e
      go_wp2_with fail
      go_ret
      exact ⟨rfl, HO.out.congr (mvF_congr (fun i hi => by simp [hi]) (fun i hi => by simp [hi])), HG.out⟩
theorem markNoteS_zero (ao : Option Addr) (c m : Nat) (w : World) :
    Calls Try.prog 24 #[.slice ao 0 c, .int .i64 m] w fun e w' => e = .returned (.int .i64 m) ∧ w = w' := by
  go_enter Try.func24, Try.ntmps24
  go_wp2_with fail
  go_loop [1, 5] (fun l i => i = .int .i64 0 ∧ l = .int .i64 m) (fun _ _ => 0)
  case atStart => exact ⟨rfl, rfl⟩
  case round =>
    obtain ⟨rfl, rfl⟩ := hrel
    go_wp2_with fail
    go_ret
    exact ⟨rfl, rfl⟩
theorem markIntS_zero (ao : Option Addr) (c : Nat) (m : Int) (w : World) :
    Calls Try.prog 25 #[.slice ao 0 c, .int .i64 m] w fun e w' => e = .returned (.int .i64 m) ∧ w = w' := by
  go_enter Try.func25, Try.ntmps25
  go_wp2_with fail
  go_loop [1, 5] (fun l i => i = .int .i64 0 ∧ l = .int .i64 m) (fun _ _ => 0)
  case atStart => exact ⟨rfl, rfl⟩
  case round =>
    obtain ⟨rfl, rfl⟩ := hrel
    go_wp2_with fail
    go_ret
    exact ⟨rfl, rfl⟩
theorem heldIntS_zero (ao : Option Addr) (c : Nat) (m : Int) (w : World) :
    Calls Try.prog 26 #[.slice ao 0 c, .int .i64 m] w fun e w' => e = .returned (.int .i64 m) ∧ w = w' := by
  go_enter Try.func26, Try.ntmps26
  go_wp2_with fail
  go_loop [1, 5] (fun l i => i = .int .i64 0 ∧ l = .int .i64 m) (fun _ _ => 0)
  case atStart => exact ⟨rfl, rfl⟩
  case round =>
    obtain ⟨rfl, rfl⟩ := hrel
    go_wp2_with fail
    go_ret
    exact ⟨rfl, rfl⟩
/-- a row of ints of its own, or nil -/
def RowI (w : World) (v : Value) (n : Nat) (f : Nat → Int) (g : Option Nat) : Prop :=
  (∃ b c, g = some b ∧ v = .slice (some ⟨b, 0, none⟩) n c ∧ Own w b c n 1 3 (fun i => .int .i64 (f i))) ∨ (g = none ∧ n = 0 ∧ v = .slice none 0 0)
theorem RowI.below {w w' : World} {v : Value} {n : Nat} {f : Nat → Int} {g : Option Nat} (h : RowI w v n f g) (hb : Below w.heap.size w w') : RowI w' v n f g := by
  rcases h with ⟨b, c, e, e2, h⟩ | h
  · exact .inl ⟨b, c, e, e2, h.below hb h.lt⟩
  · exact .inr h
theorem RowI.grown {w w' : World} {v : Value} {n : Nat} {f : Nat → Int} {g row : Option Nat} (h : RowI w v n f g) (hb : w.grownBy w' row) (hne : ∀ b, g = some b → row ≠ some b) : RowI w' v n f g := by
  rcases h with ⟨b, c, e, e2, h⟩ | h
  · exact .inl ⟨b, c, e, e2, h.kept hb (fun q => hne b e q.symm)⟩
  · exact .inr h
theorem RowI.reads {w : World} {v : Value} {n : Nat} {f : Nat → Int} {g : Option Nat} (h : RowI w v n f g) : SL w v n f := by
  rcases h with ⟨b, c, e, e2, h⟩ | ⟨e, e2, e3⟩
  · exact .inl ⟨b, 0, c, e2, IC.of_own h⟩
  · exact .inr ⟨e2, _, _, e3⟩
theorem markI_row (v : Value) (n : Nat) (f : Nat → Int) (g : Option Nat) (m : Int) (w : World) (hn : n ≤ 1000000000) (h0 : 0 ≤ m) (h1 : m ≤ 1000000000) (h : RowI w v n f g) :
    Calls Try.prog 25 #[v, .int .i64 m] w fun e w' => e = .returned (.int .i64 (m + n)) ∧ RowI w' v n (fun i => m + i) g ∧ w.grownBy w' g := by
  rcases h with ⟨b, c, rfl, rfl, h⟩ | ⟨rfl, rfl, rfl⟩
  · exact (markIntS_any b c n f m w hn h0 h1 h).mono fun e w' ⟨e1, e2, e3⟩ => ⟨e1, .inl ⟨b, c, rfl, rfl, e2⟩, e3⟩
  · exact (markIntS_zero none 0 m w).mono fun e w' ⟨e1, e2⟩ => ⟨by rw [e1]; simp, .inr ⟨rfl, rfl, rfl⟩, by rw [e2]; exact World.grownBy.refl _ _⟩
theorem heldI_row (v : Value) (n : Nat) (g : Option Nat) (m : Int) (w : World) (hn : n ≤ 1000000000) (h0 : 0 ≤ m) (h1 : m ≤ 1000000000) (h : RowI w v n (fun i => m + i) g) :
    Calls Try.prog 26 #[v, .int .i64 m] w fun e w' => e = .returned (.int .i64 (m + n)) ∧ w = w' := by
  rcases h with ⟨b, c, rfl, rfl, h⟩ | ⟨rfl, rfl, rfl⟩
  · exact (heldIntS_any b 0 n c _ m w hn h0 h1 (IC.of_own h)).mono fun e w' ⟨e1, e2⟩ => ⟨by rw [e1, heldV_yes (fun k _ => by simp)], e2⟩
  · exact (heldIntS_zero none 0 m w).mono fun e w' ⟨e1, e2⟩ => ⟨by rw [e1]; simp, e2⟩
theorem RowI.lt {w : World} {v : Value} {n : Nat} {f : Nat → Int} {g : Option Nat} (h : RowI w v n f g) : ∀ b, g = some b → b < w.heap.size := fun b e => by
  rcases h with ⟨b', c, e1, e2, h⟩ | ⟨e1, _⟩
  · rw [e1] at e; cases e; exact h.lt
  · rw [e1] at e; cases e
theorem Bx.grown {w w' : World} {b : Nat} {t : TypeId} {cs : Array Value} {row : Option Nat} (h : Bx w b t cs) (hb : w.grownBy w' row) (hne : row ≠ some b) : Bx w' b t cs :=
  h.of_block (hb.block b h.lt (fun e => hne e.symm))
theorem below_grown {B : Nat} {w0 w w' : World} {row : Option Nat} (h : Below B w0 w) (hg : w.grownBy w' row) (hr : ∀ c, row = some c → B ≤ c) (hB : B ≤ w0.heap.size) : Below B w0 w' := by
  refine h.trans ⟨hg.os, hg.tape, hg.output, hg.size, fun k hk => hg.block k (Nat.lt_of_lt_of_le hk (Nat.le_trans hB h.size)) (fun e => ?_)⟩
  have := hr k e.symm
  omega
theorem mvF_one (M : Nat → Int) (L : Nat → ByteArray) (i : Nat) : (mvF M L i).oneCell' = true := by unfold mvF; split <;> rfl
def mkMM (m : Nat) (i : Nat) : Int := (m : Int) + 2 * i
def mkMS (m : Nat) (i : Nat) : ByteArray := mkT (m + 2 * i + 1)
theorem bne_same (s : ByteArray) : (s.toList != s.toList) = false := by simp
set_option linter.unusedSimpArgs false in
theorem heldNoteS_marks (g c n m : Nat) (w : World) (hn : n ≤ 1000000000) (h1 : m ≤ 1000000000) (ho : Own w g c n 2 61 (mvF (mkMM m) (mkMS m))) :
    Calls Try.prog 51 #[.slice (some ⟨g, 0, none⟩) n c, .int .i64 m] w fun e w' => e = .returned (.int .i64 ((m : Int) + 2 * n)) ∧ Below w.heap.size w w' := by
  have HO0 := Lib.hid ho
  clear ho
  go_enter Try.func51, Try.ntmps51
  go_wp2_with fail
  go_loopw [1, 5] (fun l i wr => ∃ k : Nat, k ≤ n ∧ i = .int .i64 k ∧ l = .int .i64 ((m : Int) + 2 * k) ∧ Hid (Below w.heap.size w wr)) (fun _ i _ => n - (intOf i).toNat)
  case atStart => exact ⟨0, Nat.zero_le _, rfl, by go_num, Lib.hid (Below.refl _ _)⟩
  case round =>
    obtain ⟨k, hk, rfl, rfl, HB⟩ := hrel
    by_cases hlt : k < n
    · have HO : Hid (Own wr g c n 2 61 (mvF (mkMM m) (mkMS m))) := HO0.out.below HB.out HO0.out.lt
      have hcg : wr.cell? ⟨g, k * 2, none⟩ = some (.int .i64 ((m : Int) + 2 * k)) ∧ wr.cell? ⟨g, k * 2 + 1, none⟩ = some (.string (mkT (m + 2 * k + 1))) := HO.out.mv hlt
      have hgl := HO.out.lt
      obtain ⟨c0, c1⟩ := hcg
      have e1 : ((m : Int) + 2 * (k : Int) != (m : Int) + 2 * (k : Int)) = false := by simp
      have HMT : Hid (∀ W, Calls Try.prog 73 #[.int .i64 ((m : Int) + 2 * k + 1)] W fun e w' => e = .returned (.string (mkT (m + 2 * k + 1))) ∧ Below W.heap.size W w') := fun W => by
        have h := markText_any (m + 2 * k + 1) W (by omega)
        rwa [show (((m + 2 * k + 1 : Nat) : Int)) = (m : Int) + 2 * k + 1 by omega] at h
      generalize mkT (m + 2 * k + 1) = s at *
      have e2 := bne_same s
      go_wp2_with fail
      refine wp_region_held_drew (S := (fun w' => w'.cell? ⟨g, k * 2 + 1, none⟩ = some (.string s))) (by kernel_rfl) ?_ (fun hHeld => ?_)
      · try dsimp only
        go_keep
      refine wpAnyH_take (i := 0) (oi := ?_) (v := ?_) ?_ (by kernel_rfl) (by kernel_rfl) (by kernel_rfl) ?_ ?_ (by assumption) ?_
      rotate_left 2
      · simp only [List.getElem?_toArray, List.getElem?_cons_succ, List.getElem?_cons_zero]; rfl
      · exact fun _ _ _ h => h
      · first
          | (refine Or.inr ⟨?_, ?_⟩ <;> rfl)
          | (refine Or.inl ⟨?_, ?_⟩; · rfl
             intro w hSw; (try dsimp only at hSw); go_simp; (try with_reducible rfl); done)
      try simp only [Act.put, List.setIfInBounds_toArray, List.set_cons_zero, List.set_cons_succ]
      refine wpAnyH_take (i := 1) (oi := ?_) (v := ?_) ?_ (by kernel_rfl) (by kernel_rfl) (by kernel_rfl) ?_ ?_ (by assumption) ?_
      rotate_left 2
      · simp only [List.getElem?_toArray, List.getElem?_cons_succ, List.getElem?_cons_zero]; rfl
      · exact fun _ _ _ h => h
      · first
          | (refine Or.inr ⟨?_, ?_⟩ <;> rfl)
          | (refine Or.inl ⟨?_, ?_⟩; · rfl
             intro w hSw; (try dsimp only at hSw); go_simp; (try with_reducible rfl); done)
      try simp only [Act.put, List.setIfInBounds_toArray, List.set_cons_zero, List.set_cons_succ]
      refine wpAnyH_take (i := 2) (oi := ?_) (v := ?_) ?_ (by kernel_rfl) (by kernel_rfl) (by kernel_rfl) ?_ ?_ (by assumption) ?_
      rotate_left 2
      · simp only [List.getElem?_toArray, List.getElem?_cons_succ, List.getElem?_cons_zero]; rfl
      · exact fun _ _ _ h => h
      · first
          | (refine Or.inr ⟨?_, ?_⟩ <;> rfl)
          | (refine Or.inl ⟨?_, ?_⟩; · rfl
             intro w hSw; (try dsimp only at hSw); go_simp; (try with_reducible rfl); done)
      try simp only [Act.put, List.setIfInBounds_toArray, List.set_cons_zero, List.set_cons_succ]
      refine wpAnyH_take (i := 3) (oi := ?_) (v := ?_) ?_ (by kernel_rfl) (by kernel_rfl) (by kernel_rfl) ?_ ?_ (by assumption) ?_
      rotate_left 2
      · simp only [List.getElem?_toArray, List.getElem?_cons_succ, List.getElem?_cons_zero]; rfl
      · exact fun _ _ _ h => h
      · first
          | (refine Or.inr ⟨?_, ?_⟩ <;> rfl)
          | (refine Or.inl ⟨?_, ?_⟩; · rfl
             intro w hSw; (try dsimp only at hSw); go_simp; (try with_reducible rfl); done)
      try simp only [Act.put, List.setIfInBounds_toArray, List.set_cons_zero, List.set_cons_succ]
      refine wpAnyH_take (i := 4) (oi := ?_) (v := ?_) ?_ (by kernel_rfl) (by kernel_rfl) (by kernel_rfl) ?_ ?_ (by assumption) ?_
      rotate_left 2
      · simp only [List.getElem?_toArray, List.getElem?_cons_succ, List.getElem?_cons_zero]; rfl
      · exact fun _ _ _ h => h
      · first
          | (refine Or.inr ⟨?_, ?_⟩ <;> rfl)
          | (refine Or.inl ⟨?_, ?_⟩; · rfl
             intro w hSw; (try dsimp only at hSw); go_simp; (try with_reducible rfl); done)
      try simp only [Act.put, List.setIfInBounds_toArray, List.set_cons_zero, List.set_cons_succ]
      refine wpAnyH_take (i := 5) (oi := ?_) (v := ?_) ?_ (by kernel_rfl) (by kernel_rfl) (by kernel_rfl) ?_ ?_ (by assumption) ?_
      rotate_left 2
      · simp only [List.getElem?_toArray, List.getElem?_cons_succ, List.getElem?_cons_zero]; rfl
      · exact fun _ _ _ h => h
      · first
          | (refine Or.inr ⟨?_, ?_⟩ <;> rfl)
          | (refine Or.inl ⟨?_, ?_⟩; · rfl
             intro w hSw; (try dsimp only at hSw); go_simp; (try with_reducible rfl); done)
      try simp only [Act.put, List.setIfInBounds_toArray, List.set_cons_zero, List.set_cons_succ]
      refine wpAnyH_ready (rs := [6]) (by kernel_rfl) (by simp) ?_
      refine AllReadyH.cons (o := ?_) ?_ (fun K hK => ?_) AllReadyH.nil
      rotate_left 1
      · simp only [List.getElem?_toArray, List.getElem?_cons_succ, List.getElem?_cons_zero]; rfl
      go_simp
      go_at_call 73
      go_must (refine Calls.mono (HMT.out _) ?_)
      rintro e w2 ⟨rfl, hb⟩
      replace hb : Below wr.heap.size wr w2 := (Below.refl _ wr).drew.trans hb
      have HB2 := Lib.hid (HB.out.trans (hb.mono HB.out.size))
      have c2 : w2.cell? ⟨g, k * 2 + 1, none⟩ = some (.string s) := by rw [hb.cell (p := ⟨g, k * 2 + 1, none⟩) hgl]; exact c1
      clear hb
      refine hK.out _ _ ?_ (fun hHeld => ?_)
      · try dsimp only
        go_keep
      clear hK K
      try simp only [Act.put, List.setIfInBounds_toArray, List.set_cons_zero, List.set_cons_succ]
      refine wpAnyH_take (i := 7) (oi := ?_) (v := ?_) ?_ (by kernel_rfl) (by kernel_rfl) (by kernel_rfl) ?_ ?_ (by assumption) ?_
      rotate_left 2
      · simp only [List.getElem?_toArray, List.getElem?_cons_succ, List.getElem?_cons_zero]; rfl
      · exact fun _ _ _ h => h
      · first
          | (refine Or.inr ⟨?_, ?_⟩ <;> rfl)
          | (refine Or.inl ⟨?_, ?_⟩; · rfl
             intro w hSw; (try dsimp only at hSw); go_simp; (try with_reducible rfl); done)
      try simp only [Act.put, List.setIfInBounds_toArray, List.set_cons_zero, List.set_cons_succ]
      refine wpAnyH_done (by kernel_rfl) ?_ _
      go_wp2_with fail
      go_roundw
      case rel => exact ⟨k + 1, by omega, by go_num, by go_num, HB2⟩
      case measure => simp [intOf]; omega
    · obtain e : k = n := by omega
      subst e
      go_wp2_with fail
      go_ret
      exact ⟨rfl, HB.out⟩
theorem heldNoteS_zero (ao : Option Addr) (c m : Nat) (w : World) :
    Calls Try.prog 51 #[.slice ao 0 c, .int .i64 m] w fun e w' => e = .returned (.int .i64 m) ∧ w = w' := by
  go_enter Try.func51, Try.ntmps51
  go_wp2_with fail
  go_loop [1, 5] (fun l i => i = .int .i64 0 ∧ l = .int .i64 m) (fun _ _ => 0)
  case atStart => exact ⟨rfl, rfl⟩
  case round =>
    obtain ⟨rfl, rfl⟩ := hrel
    go_wp2_with fail
    go_ret
    exact ⟨rfl, rfl⟩
/-- a row of moves of its own, told by its numbers and letters; or nil -/
def RowN (w : World) (v : Value) (q : Nat) (M : Nat → Int) (L : Nat → ByteArray) (g : Option Nat) : Prop :=
  (∃ b c, g = some b ∧ v = .slice (some ⟨b, 0, none⟩) q c ∧ Own w b c q 2 61 (mvF M L)) ∨ (g = none ∧ q = 0 ∧ v = .slice none 0 0)
theorem RowN.below {w w' : World} {v : Value} {q : Nat} {M : Nat → Int} {L : Nat → ByteArray} {g : Option Nat} (h : RowN w v q M L g) (hb : Below w.heap.size w w') : RowN w' v q M L g := by
  rcases h with ⟨b, c, e, e2, h⟩ | h
  · exact .inl ⟨b, c, e, e2, h.below hb h.lt⟩
  · exact .inr h
theorem RowN.grown {w w' : World} {v : Value} {q : Nat} {M : Nat → Int} {L : Nat → ByteArray} {g row : Option Nat} (h : RowN w v q M L g) (hb : w.grownBy w' row) (hne : ∀ b, g = some b → row ≠ some b) : RowN w' v q M L g := by
  rcases h with ⟨b, c, e, e2, h⟩ | h
  · exact .inl ⟨b, c, e, e2, h.kept hb (fun q => hne b e q.symm)⟩
  · exact .inr h
theorem RowN.reads {w : World} {v : Value} {q : Nat} {M : Nat → Int} {L : Nat → ByteArray} {g : Option Nat} (h : RowN w v q M L g) : MLs w v q M L := by
  rcases h with ⟨b, c, e, e2, h⟩ | ⟨e, e2, e3⟩
  · exact .inl ⟨b, 0, c, e2, MvsC.of_own h⟩
  · exact .inr ⟨e2, _, _, e3⟩
theorem RowN.shape {w : World} {v : Value} {q : Nat} {M : Nat → Int} {L : Nat → ByteArray} {g : Option Nat} (h : RowN w v q M L g) : ∃ ao c, v = .slice ao q c := h.reads.shape
theorem markM_row (v : Value) (q : Nat) (M : Nat → Int) (L : Nat → ByteArray) (g : Option Nat) (m : Nat) (w : World) (hn : q ≤ 1000000000) (h1 : m ≤ 1000000000) (h : RowN w v q M L g) :
    Calls Try.prog 24 #[v, .int .i64 m] w fun e w' => e = .returned (.int .i64 ((m : Int) + 2 * q)) ∧ RowN w' v q (mkMM m) (mkMS m) g ∧ w.grownBy w' g := by
  rcases h with ⟨b, c, rfl, rfl, h⟩ | ⟨rfl, rfl, rfl⟩
  · exact (markNoteS_any b c q M L m w hn h1 h).mono fun e w' ⟨e1, e2, e3⟩ => ⟨e1, .inl ⟨b, c, rfl, rfl, e2⟩, e3⟩
  · exact (markNoteS_zero none 0 m w).mono fun e w' ⟨e1, e2⟩ => ⟨by rw [e1]; simp, .inr ⟨rfl, rfl, rfl⟩, by rw [e2]; exact World.grownBy.refl _ _⟩
theorem heldM_row (v : Value) (q : Nat) (g : Option Nat) (m : Nat) (w : World) (hn : q ≤ 1000000000) (h1 : m ≤ 1000000000) (h : RowN w v q (mkMM m) (mkMS m) g) :
    Calls Try.prog 51 #[v, .int .i64 m] w fun e w' => e = .returned (.int .i64 ((m : Int) + 2 * q)) ∧ Below w.heap.size w w' := by
  rcases h with ⟨b, c, rfl, rfl, h⟩ | ⟨rfl, rfl, rfl⟩
  · exact heldNoteS_marks b c q m w hn h1 h
  · exact (heldNoteS_zero none 0 m w).mono fun e w' ⟨e1, e2⟩ => ⟨by rw [e1]; simp, by rw [e2]; exact Below.refl _ _⟩
end Go.Proofs.Ytokddeoliieofaa
