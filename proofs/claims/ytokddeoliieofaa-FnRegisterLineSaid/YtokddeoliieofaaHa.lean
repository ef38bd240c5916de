/-
  RegisterOf of the program.
-/
import Derived.Test.YtokddeoliieofaaKp
import Derived.Test.YtokddeoliieofaaXb
namespace Go.Proofs.Ytokddeoliieofaa
open Go.RowKit

/-- append of one element in a region that draws its order -/
theorem step_pushR {P : Program} {w : World} {t e : TypeId} {z : Value} {s bytes : Nat} (he : Elem P t e z s bytes) {ops : Array Oper} {o : Oper} {a : Act} {K : Act → World → Prop} {Q : Exit → Act → World → Prop} {E : Prop} (hgd : o.guard = none) (so xo : Operand)
    (ho : o.op = .call { callee := .builtin .append, args := #[so, xo], argTypes := #[t, t] }) {g cap n : Nat} {f : Nat → Value} (hown : Own w g cap n s e f) (hs : a.eval so = .slice (some ⟨g, 0, none⟩) n cap) (vs : List Value)
    (hx : a.eval xo = .slice (some ⟨w.heap.size, 0, none⟩) 1 1) (hnew : ∀ j, j < s → vs[j]? = some (f (n * s + j))) (h1 : ∀ j, j < s → (f (n * s + j)).oneCell' = true)
    (h63 : n + 1 ≤ maxLen) (hbytes : (n + 1) * bytes ≤ 140737488355328)
    (h : ∀ g' cap' w', Own w' g' cap' (n + 1) s e f → w.grownBy w' (some g) → ((g' = g ∧ cap' = cap) ∨ w.heap.size < g') → K (a.put o.dst (.slice (some ⟨g', 0, none⟩) (n + 1) cap')) w') : if Region.wanted o (yielded ops a.tmps) = true then Oper.wp P o a (w.alloc (.cells vs.toArray e)) K Q else E := by
  refine step_app he hgd so xo ho (hown.alloc _) hs ⟨w.heap.size, 0, none⟩ 1 1 hx (fun j hj => ?_) (fun j hj => h1 j (by omega)) h63 hbytes (fun g' cap' w' h2 h3 h4 => ?_)
  · rw [addr_add, Nat.zero_add]
    have hh : (w.alloc (.cells vs.toArray e)).heap[w.heap.size]? = some (.cells vs.toArray e (0, 0)) := heap_alloc_new _ _
    simp only [World.cell?, hh]
    simpa using hnew j (by omega)
  · refine h g' cap' w' h2 (grownBy_trans (World.grownBy_alloc w _ _) h3) ?_
    rcases h4 with h4 | h4
    · exact .inl h4
    · right
      have : (w.alloc (.cells vs.toArray e)).heap.size = w.heap.size + 1 := by simp
      omega
set_option linter.unusedSimpArgs false in
theorem regVal_any (b off c : Nat) (ns : List (Int × ByteArray)) (w : World) (hn : ns.length ≤ 1000000000000) (hc : NtC w b off ns) :
    Calls Try.prog 54 #[.slice (some ⟨b, off, none⟩) ns.length c] w fun e w' => e = .returned (.bool (rgV ns)) ∧ Below w.heap.size w w' := by
  have HSO := Lib.hid (registerOf_any b off c ns w hn hc)
  clear hc
  go_enter Try.func54, Try.ntmps54
  go_wp2_with fail
  refine HSO.out.mono ?_
  rintro e w1 ⟨⟨r, rfl, hr⟩, hb1⟩
  have HB := Lib.hid hb1
  clear hr hb1
  go_wp2_with fail
  go_ret
  exact ⟨rfl, HB.out⟩
/-- the notes of a section's moves, before a place -/
def roF (ms : List (Int × ByteArray)) (ts : Nat → Int) (k : Int) : Nat → List (Int × ByteArray)
  | 0 => []
  | i + 1 => if mvM ms i = k then roF ms ts k i ++ [(ts i, mvS ms i)] else roF ms ts k i
theorem roF_len (ms : List (Int × ByteArray)) (ts : Nat → Int) (k : Int) : ∀ i, (roF ms ts k i).length ≤ i
  | 0 => Nat.le_refl _
  | i + 1 => by
    have := roF_len ms ts k i
    simp only [roF]
    split
    · simp; omega
    · omega
def roL (ms : List (Int × ByteArray)) (ts : Nat → Int) (k : Int) : List (Int × ByteArray) := if rgV (roF ms ts k ms.length) = true then roF ms ts k ms.length else []
/-- between two rounds of RegisterOf -/
structure RoI (w wr : World) (g cap : Nat) (xs : List (Int × ByteArray)) : Prop where
  ow : OwnN wr g cap xs
  gz : w.heap.size ≤ g
  bl : Below w.heap.size w wr
theorem RoI.keep {w wr wa : World} {g cap : Nat} {xs : List (Int × ByteArray)} (h : RoI w wr g cap xs) (hb : Below wr.heap.size wr wa) : RoI w wa g cap xs :=
  ⟨Own.below h.ow hb (Own.lt h.ow), h.gz, h.bl.trans (hb.mono h.bl.size)⟩
theorem RoI.push {w wr wa : World} {g cap g' c' : Nat} {xs : List (Int × ByteArray)} {z : Int × ByteArray} (h : RoI w wr g cap xs) (HA : Own wa g' c' (xs.length + 1) 2 61 (mvF (nM (xs ++ [z])) (nL (xs ++ [z])))) (hgr : wr.grownBy wa (some g)) (hd : g' = g ∨ wr.heap.size ≤ g') :
    RoI w wa g' c' (xs ++ [z]) := by
  have hgz := h.gz
  have hbs := h.bl.size
  refine ⟨?_, ?_, h.bl.trans (below_of_grown hgr hgz hbs)⟩
  · unfold OwnN
    rw [List.length_append]
    exact HA
  · rcases hd with q | q <;> omega
set_option linter.unusedSimpArgs false in
set_option maxRecDepth 100000 in
set_option maxHeartbeats 4000000 in
theorem regOf_any (bm om cm bt ot ct : Nat) (ms : List (Int × ByteArray)) (ts : Nat → Int) (k : Int) (w : World) (hn : ms.length ≤ 1000000) (hm : MvsC w bm om ms.length (mvM ms) (mvS ms)) (ht : IC w bt ot ms.length ts) :
    Calls Try.prog 60 #[.slice (some ⟨bm, om, none⟩) ms.length cm, .slice (some ⟨bt, ot, none⟩) ms.length ct, .int .i64 k] w (RuRes (roL ms ts k) (rgV (roF ms ts k ms.length)) w) := by
  have HM : Hid (∀ W, Below w.heap.size w W → MvsC W bm om ms.length (mvM ms) (mvS ms)) := fun W h => hm.keep h
  have HT : Hid (∀ W, Below w.heap.size w W → IC W bt ot ms.length ts) := fun W h => ht.keep h
  have HI0 : Hid (RoI w (w.alloc (.cells #[] 61)) w.heap.size 0 []) := ⟨own_empty _ _ _ _, Nat.le_refl _, below_all _ _⟩
  clear hm ht
  go_enter Try.func60, Try.ntmps60
  go_wp2_with fail
  go_loopw [8, 9, 10, 20] (fun o _ _ i wr => ∃ j g cap : Nat, j ≤ ms.length ∧ i = .int .i64 j ∧ o = .slice (some ⟨g, 0, none⟩) (roF ms ts k j).length cap ∧ Hid (RoI w wr g cap (roF ms ts k j))) (fun _ _ _ i _ => ms.length - (intOf i).toNat)
  case atStart => exact ⟨0, w.heap.size, 0, Nat.zero_le _, rfl, rfl, HI0⟩
  case round =>
    obtain ⟨j, g, cap, hj, rfl, rfl, HI⟩ := hrel
    by_cases hlt : j < ms.length
    · have hji : (j : Int) < (ms.length : Int) := by omega
      obtain ⟨c0, c1⟩ := HM.out _ HI.out.bl j hlt
      have hct := HT.out _ HI.out.bl j hlt
      have HN : Hid (roF ms ts k (j + 1) = if mvM ms j = k then roF ms ts k j ++ [(ts j, mvS ms j)] else roF ms ts k j) := rfl
      have hxl := roF_len ms ts k j
      have HCT : Hid (∀ W, Below w.heap.size w W → W.cell? ⟨bt, ot + j, none⟩ = some (.int .i64 (ts j))) := fun W h => HT.out W h j hlt
      generalize mvM ms j = m at *
      generalize mvS ms j = l at *
      generalize ts j = t at *
      generalize roF ms ts k j = xs at *
      have HX : Hid (Bx (wr.alloc (.cells #[.int .i64 m, .string l] 123)) wr.heap.size 123 #[.int .i64 m, .string l]) := Bx.new _ _ _
      have HI1 : Hid (RoI w (wr.alloc (.cells #[.int .i64 m, .string l] 123)) g cap xs) := HI.out.keep (below_all _ _)
      have hxc := HX.out.cell
      by_cases hmk : m = k
      · have hb : (m == k) = true := beq_iff_eq.2 hmk
        have HN2 : Hid (roF ms ts k (j + 1) = xs ++ [(t, l)]) := by show _ = _; rw [HN.out, if_pos hmk]
        clear hmk HN
        go_wp2_with fail
        have hk1 : (j : Int) < (ms.length : Int) := by omega
        clear hxc
        generalize wr.alloc (.cells #[.int .i64 m, .string l] 123) = W1 at *
        have hbs := HI1.out.bl.size
        have hgl : g < wr.heap.size := Own.lt HI.out.ow
        have HBd : Hid (Below W1.heap.size W1 W1.drew) := (Below.refl _ _).drew
        have HCC : Hid (∀ W, Below W1.heap.size W1 W → W.cell? ⟨bt, ot + j, none⟩ = some (.int .i64 t) ∧ W.cell? ⟨wr.heap.size, 1, none⟩ = some (.string l)) := fun W h => ⟨HCT.out W (HI1.out.bl.trans (h.mono HI1.out.bl.size)), (HX.out.below h HX.out.lt).cell 1⟩
        have HO : Hid (Own W1.drew g cap xs.length 2 61 (mvF (nM (xs ++ [(t, l)])) (nL (xs ++ [(t, l)])))) := Own.below (B := W1.heap.size) (OwnN.ext HI1.out.ow (t, l)) (Below.refl _ _).drew (Own.lt HI1.out.ow)
        have HNN : Hid (∀ q, q < 2 → [Value.int .i64 t, .string l][q]? = some (mvF (nM (xs ++ [(t, l)])) (nL (xs ++ [(t, l)])) (xs.length * 2 + q))) := ntF_new xs (t, l)
        refine wp_region_held_drew (S := fun W => W.cell? ⟨bt, ot + j, none⟩ = some (.int .i64 t) ∧ W.cell? ⟨wr.heap.size, 1, none⟩ = some (.string l)) (by kernel_rfl) (HCC.out _ HBd.out) (fun hHeld => ?_)
        refine wpAnyH_take (i := 0) (oi := ?_) (v := ?_) ?_ (by kernel_rfl) (by kernel_rfl) (by kernel_rfl) ?_ ?_ (by assumption) ?_
        rotate_left 2
        · simp only [List.getElem?_toArray, List.getElem?_cons_succ, List.getElem?_cons_zero]; rfl
        · exact fun _ _ _ h => h
        · first
            | (refine Or.inr ⟨?_, ?_⟩ <;> rfl)
            | (refine Or.inl ⟨?_, ?_⟩; · rfl
               intro w hSw; (try dsimp only at hSw); go_simp; (try with_reducible rfl); done)
        try simp only [Act.put, List.setIfInBounds_toArray, List.set_cons_zero, List.set_cons_succ]
        refine wpAnyH_take (i := 1) (oi := ?_) (v := ?_) ?_ (by kernel_rfl) (by kernel_rfl) (by kernel_rfl) ?_ ?_ (by assumption) ?_
        rotate_left 2
        · simp only [List.getElem?_toArray, List.getElem?_cons_succ, List.getElem?_cons_zero]; rfl
        · exact fun _ _ _ h => h
        · first
            | (refine Or.inr ⟨?_, ?_⟩ <;> rfl)
            | (refine Or.inl ⟨?_, ?_⟩; · rfl
               intro w hSw; (try dsimp only at hSw); go_simp; (try with_reducible rfl); done)
        try simp only [Act.put, List.setIfInBounds_toArray, List.set_cons_zero, List.set_cons_succ]
        refine wpAnyH_take (i := 2) (oi := ?_) (v := ?_) ?_ (by kernel_rfl) (by kernel_rfl) (by kernel_rfl) ?_ ?_ (by assumption) ?_
        rotate_left 2
        · simp only [List.getElem?_toArray, List.getElem?_cons_succ, List.getElem?_cons_zero]; rfl
        · exact fun _ _ _ h => h
        · first
            | (refine Or.inr ⟨?_, ?_⟩ <;> rfl)
            | (refine Or.inl ⟨?_, ?_⟩; · rfl
               intro w hSw; (try dsimp only at hSw); go_simp; (try with_reducible rfl); done)
        try simp only [Act.put, List.setIfInBounds_toArray, List.set_cons_zero, List.set_cons_succ]
        refine wpAnyH_take (i := 3) (oi := ?_) (v := ?_) ?_ (by kernel_rfl) (by kernel_rfl) (by kernel_rfl) ?_ ?_ (by assumption) ?_
        rotate_left 2
        · simp only [List.getElem?_toArray, List.getElem?_cons_succ, List.getElem?_cons_zero]; rfl
        · exact fun _ _ _ h => h
        · first
            | (refine Or.inr ⟨?_, ?_⟩ <;> rfl)
            | (refine Or.inl ⟨?_, ?_⟩; · rfl
               intro w hSw; (try dsimp only at hSw); go_simp; (try with_reducible rfl); done)
        try simp only [Act.put, List.setIfInBounds_toArray, List.set_cons_zero, List.set_cons_succ]
        refine wpAnyH_take (i := 4) (oi := ?_) (v := ?_) ?_ (by kernel_rfl) (by kernel_rfl) (by kernel_rfl) ?_ ?_ (by assumption) ?_
        rotate_left 2
        · simp only [List.getElem?_toArray, List.getElem?_cons_succ, List.getElem?_cons_zero]; rfl
        · exact fun _ _ _ h => h
        · first
            | (refine Or.inr ⟨?_, ?_⟩ <;> rfl)
            | (refine Or.inl ⟨?_, ?_⟩; · rfl
               intro w hSw; (try dsimp only at hSw); go_simp; (try with_reducible rfl); done)
        try simp only [Act.put, List.setIfInBounds_toArray, List.set_cons_zero, List.set_cons_succ]
        refine wpAnyH_take (i := 5) (oi := ?_) (v := ?_) ?_ (by kernel_rfl) (by kernel_rfl) (by kernel_rfl) ?_ ?_ (by assumption) ?_
        rotate_left 2
        · simp only [List.getElem?_toArray, List.getElem?_cons_succ, List.getElem?_cons_zero]; rfl
        · exact fun _ _ _ h => h
        · first
            | (refine Or.inr ⟨?_, ?_⟩ <;> rfl)
            | (refine Or.inl ⟨?_, ?_⟩; · rfl
               intro w hSw; (try dsimp only at hSw); go_simp; (try with_reducible rfl); done)
        try simp only [Act.put, List.setIfInBounds_toArray, List.set_cons_zero, List.set_cons_succ]
        refine wpAnyH_take (i := 6) (oi := ?_) (v := ?_) ?_ (by kernel_rfl) (by kernel_rfl) (by kernel_rfl) ?_ ?_ (by assumption) ?_
        rotate_left 2
        · simp only [List.getElem?_toArray, List.getElem?_cons_succ, List.getElem?_cons_zero]; rfl
        · exact fun _ _ _ h => h
        · first
            | (refine Or.inr ⟨?_, ?_⟩ <;> rfl)
            | (refine Or.inl ⟨?_, ?_⟩; · rfl
               intro w hSw; (try dsimp only at hSw); go_simp; (try with_reducible rfl); done)
        try simp only [Act.put, List.setIfInBounds_toArray, List.set_cons_zero, List.set_cons_succ]
        refine wpAnyH_take (i := 7) (oi := ?_) (v := ?_) ?_ (by kernel_rfl) (by kernel_rfl) (by kernel_rfl) ?_ ?_ (by assumption) ?_
        rotate_left 2
        · simp only [List.getElem?_toArray, List.getElem?_cons_succ, List.getElem?_cons_zero]; rfl
        · exact fun _ _ _ h => h
        · first
            | (refine Or.inr ⟨?_, ?_⟩ <;> rfl)
            | (refine Or.inl ⟨?_, ?_⟩; · rfl
               intro w hSw; (try dsimp only at hSw); go_simp; (try with_reducible rfl); done)
        try simp only [Act.put, List.setIfInBounds_toArray, List.set_cons_zero, List.set_cons_succ]
        refine wpAnyH_ready (rs := [8]) (by kernel_rfl) (by simp) ?_
        refine AllReadyH.cons (o := ?_) ?_ (fun K hK => ?_) AllReadyH.nil
        rotate_left 1
        · simp only [List.getElem?_toArray, List.getElem?_cons_succ, List.getElem?_cons_zero]; rfl
        go_simp
        skip
        refine hK.out _ _ ?_ (fun hHeld => ?_)
        · try dsimp only
          exact HCC.out _ (HBd.out.alloc HBd.out.size _)
        clear hK K
        try simp only [Act.put, List.setIfInBounds_toArray, List.set_cons_zero, List.set_cons_succ]
        refine wpAnyH_ready (rs := [9]) (by kernel_rfl) (by simp) ?_
        refine AllReadyH.cons (o := ?_) ?_ (fun K hK => ?_) AllReadyH.nil
        rotate_left 1
        · simp only [List.getElem?_toArray, List.getElem?_cons_succ, List.getElem?_cons_zero]; rfl
        refine step_pushR (w := W1.drew) elMv rfl (.tmp 29) (.tmp 37) rfl HO.out rfl [.int .i64 t, .string l] rfl HNN.out (fun _ _ => mvF_one _ _ _) (by unfold maxLen; omega) (by omega) ?_
        intro g' c' wa HA hgr hd
        have HI2 : Hid (RoI w wa g' c' (xs ++ [(t, l)])) := (HI1.out.keep HBd.out).push HA hgr (hd.imp And.left Nat.le_of_lt)
        have hm0 := HCT.out _ HI2.out.bl
        have hm1 := ((HX.out.below HBd.out HX.out.lt).kept hgr (by omega)).cell 1
        clear HA hgr hd
        refine hK.out _ _ ?_ (fun hHeld => ?_)
        · try dsimp only
          go_keep
        clear hK K
        try simp only [Act.put, List.setIfInBounds_toArray, List.set_cons_zero, List.set_cons_succ]
        refine wpAnyH_take (i := 10) (oi := ?_) (v := ?_) ?_ (by kernel_rfl) (by kernel_rfl) (by kernel_rfl) ?_ ?_ (by assumption) ?_
        rotate_left 2
        · simp only [List.getElem?_toArray, List.getElem?_cons_succ, List.getElem?_cons_zero]; rfl
        · exact fun _ _ _ h => h
        · first
            | (refine Or.inr ⟨?_, ?_⟩ <;> rfl)
            | (refine Or.inl ⟨?_, ?_⟩; · rfl
               intro w hSw; (try dsimp only at hSw); go_simp; (try with_reducible rfl); done)
        try simp only [Act.put, List.setIfInBounds_toArray, List.set_cons_zero, List.set_cons_succ]
        refine wpAnyH_done (by kernel_rfl) ?_ _
        go_wp2_with fail
        go_roundw
        case rel => exact ⟨j + 1, g', c', by omega, by go_num, by rw [HN2.out]; simp, by rw [HN2.out]; exact HI2.out⟩
        case measure => simp [intOf]; omega
      · have hb : (m == k) = false := beq_eq_false_iff_ne.2 hmk
        have HN2 : Hid (roF ms ts k (j + 1) = xs) := by show _ = _; rw [HN.out, if_neg hmk]
        clear hmk HN
        go_wp2_with fail
        go_roundw
        case rel => exact ⟨j + 1, g, cap, by omega, by go_num, by rw [HN2.out], by rw [HN2.out]; exact HI1.out⟩
        case measure => simp [intOf]; omega
    · obtain rfl : j = ms.length := by omega
      have HV := Lib.hid (regVal_any g 0 cap (roF ms ts k ms.length) wr (by have := roF_len ms ts k ms.length; omega) (OwnN.nt HI.out.ow))
      have hbs := HI.out.bl.size
      have HL0 : Hid (roL ms ts k = if rgV (roF ms ts k ms.length) = true then roF ms ts k ms.length else []) := rfl
      generalize roF ms ts k ms.length = xs at *
      cases hv : rgV xs
      · rw [hv] at HV
        have HL : Hid (roL ms ts k = []) := by show _ = _; rw [HL0.out, hv]; rfl
        have HVX := Lib.hid hv
        clear hv
        go_wp2_with fail
        refine HV.out.mono ?_
        rintro e w2 ⟨rfl, hb2⟩
        have HB2 := Lib.hid (HI.out.bl.trans (hb2.mono hbs))
        clear hb2
        have hb2s := HB2.out.size
        go_wp2_with fail
        go_ret2
        exact ⟨⟨w2.heap.size, 0, by rw [HL.out, HVX.out]; rfl, by rw [HL.out]; exact own_empty _ _ _ _, hb2s⟩, HB2.out.alloc hb2s _⟩
      · rw [hv] at HV
        have HL : Hid (roL ms ts k = xs) := by show _ = _; rw [HL0.out, hv]; rfl
        have HVX := Lib.hid hv
        clear hv
        go_wp2_with fail
        refine HV.out.mono ?_
        rintro e w2 ⟨rfl, hb2⟩
        have HI2 := Lib.hid (HI.out.keep hb2)
        clear hb2
        go_wp2_with fail
        go_ret2
        exact ⟨⟨g, cap, by rw [HL.out, HVX.out]; rfl, by rw [HL.out]; exact HI2.out.ow, HI2.out.gz⟩, HI2.out.bl⟩
end Go.Proofs.Ytokddeoliieofaa
