/-
  Parts of the proof: Ha Jr Js Ju. No condition.
-/
import Derived.Lib.ItoaMem
import Derived.Lib.AppendIntMem
import Derived.Test.YtlkdmpfifpkpaaaGreatDoorV23
namespace Go.Proofs.YtlkdmpfifpkpaaaGreatDoor
open Go.RowKit
theorem step_pushR {P : Program} {w : World} {t e : TypeId} {z : Value} {s bytes : Nat} (he : Elem P t e z s bytes) {ops : Array Oper} {o : Oper} {a : Act} {K : Act → World → Prop} {Q : Exit → Act → World → Prop} {E : Prop} (hgd : o.guard = none) (so xo : Operand)
    (ho : o.op = .call { callee := .builtin .append, args := #[so, xo], argTypes := #[t, t] }) {g cap n : Nat} {f : Nat → Value} (hown : Own w g cap n s e f) (hs : a.eval so = .slice (some ⟨g, 0, none⟩) n cap) (vs : List Value)
    (hx : a.eval xo = .slice (some ⟨w.heap.size, 0, none⟩) 1 1) (hnew : ∀ j, j < s → vs[j]? = some (f (n * s + j))) (h1 : ∀ j, j < s → (f (n * s + j)).oneCell' = true)
    (h63 : n + 1 ≤ maxLen) (hbytes : (n + 1) * bytes ≤ 140737488355328)
    (h : ∀ g' cap' w', Own w' g' cap' (n + 1) s e f → w.grownBy w' (some g) → ((g' = g ∧ cap' = cap) ∨ w.heap.size < g') → K (a.put o.dst (.slice (some ⟨g', 0, none⟩) (n + 1) cap')) w') : if Region.wanted o (yielded ops a.tmps) = true then Oper.wp P o a (w.alloc (.cells vs.toArray e)) K Q else E := by
  refine step_app he hgd so xo ho (hown.alloc _) hs ⟨w.heap.size, 0, none⟩ 1 1 hx (fun j hj => ?_) (fun j hj => h1 j (by omega)) h63 hbytes (fun g' cap' w' h2 h3 h4 => ?_)
  ·rw [addr_add, Nat.zero_add]
   have hh : (w.alloc (.cells vs.toArray e)).heap[w.heap.size]? = some (.cells vs.toArray e (0, 0)) := heap_alloc_new _ _
   simp only [World.cell?, hh]
   simpa using hnew j (by omega)
  ·refine h g' cap' w' h2 (grownBy_trans (World.grownBy_alloc w _ _) h3) ?_
   rcases h4 with h4 | h4
   ·exact .inl h4
   ·right
    have : (w.alloc (.cells vs.toArray e)).heap.size = w.heap.size + 1 := by simp
    omega
set_option linter.unusedSimpArgs false in
theorem regVal_any (b off c : Nat) (ns : List (Int × ByteArray)) (w : World) (hn : ns.length ≤ 1000000000000) (hc : NtC w b off ns) :
    Calls Tryz.prog 149 #[.slice (some ⟨b, off, none⟩) ns.length c] w fun e w' => e = .returned (.bool (rgV ns)) ∧ Below w.heap.size w w' := by
  have HSO := Lib.hid (registerOf_any b off c ns w hn hc)
  clear hc
  go_enter Tryz.func149, Tryz.ntmps149
  go_wp2_with fail
  refine HSO.out.mono ?_
  rintro e w1 ⟨⟨r, rfl, hr⟩, hb1⟩
  have HB := Lib.hid hb1
  clear hr hb1
  go_wp2_with fail
  go_ret
  exact ⟨rfl, HB.out⟩
def roF (ms : List (Int × ByteArray)) (ts : Nat → Int) (k : Int) : Nat → List (Int × ByteArray)
  | 0 => []
  | i + 1 => if mvM ms i = k then roF ms ts k i ++ [(ts i, mvS ms i)] else roF ms ts k i
theorem roF_len (ms : List (Int × ByteArray)) (ts : Nat → Int) (k : Int) : ∀ i, (roF ms ts k i).length ≤ i
  | 0 => Nat.le_refl _
  | i + 1 => by
   have := roF_len ms ts k i
   simp only [roF]
   split
   ·simp; omega
   ·omega
def roL (ms : List (Int × ByteArray)) (ts : Nat → Int) (k : Int) : List (Int × ByteArray) := if rgV (roF ms ts k ms.length) = true then roF ms ts k ms.length else []
structure RoI (w wr : World) (g cap : Nat) (xs : List (Int × ByteArray)) : Prop where
  ow : OwnN wr g cap xs
  gz : w.heap.size ≤ g
  bl : Below w.heap.size w wr
theorem RoI.keep {w wr wa : World} {g cap : Nat} {xs : List (Int × ByteArray)} (h : RoI w wr g cap xs) (hb : Below wr.heap.size wr wa) : RoI w wa g cap xs :=
 ⟨Own.below h.ow hb (Own.lt h.ow), h.gz, h.bl.trans (hb.mono h.bl.size)⟩
theorem RoI.push {w wr wa : World} {g cap g' c' : Nat} {xs : List (Int × ByteArray)} {z : Int × ByteArray} (h : RoI w wr g cap xs) (HA : Own wa g' c' (xs.length + 1) 2 155 (mvF (nM (xs ++ [z])) (nL (xs ++ [z])))) (hgr : wr.grownBy wa (some g)) (hd : g' = g ∨ wr.heap.size ≤ g') :
    RoI w wa g' c' (xs ++ [z]) := by
  have hgz := h.gz
  have hbs := h.bl.size
  refine ⟨?_, ?_, h.bl.trans (below_of_grown hgr hgz hbs)⟩
  ·unfold OwnN
   rw [List.length_append]
   exact HA
  ·rcases hd with q | q <;> omega
set_option linter.unusedSimpArgs false in
set_option maxRecDepth 100000 in
set_option maxHeartbeats 4000000 in
theorem regOf_any (bm om cm bt ot ct : Nat) (ms : List (Int × ByteArray)) (ts : Nat → Int) (k : Int) (w : World) (hn : ms.length ≤ 1000000) (hm : MvsC w bm om ms.length (mvM ms) (mvS ms)) (ht : IC w bt ot ms.length ts) :
    Calls Tryz.prog 128 #[.slice (some ⟨bm, om, none⟩) ms.length cm, .slice (some ⟨bt, ot, none⟩) ms.length ct, .int .i64 k] w (RuRes (roL ms ts k) (rgV (roF ms ts k ms.length)) w) := by
  have HM : Hid (∀ W, Below w.heap.size w W → MvsC W bm om ms.length (mvM ms) (mvS ms)) := fun W h => hm.keep h
  have HT : Hid (∀ W, Below w.heap.size w W → IC W bt ot ms.length ts) := fun W h => ht.keep h
  have HI0 : Hid (RoI w (w.alloc (.cells #[] 155)) w.heap.size 0 []) := ⟨own_empty _ _ _ _, Nat.le_refl _, below_all _ _⟩
  clear hm ht
  go_enter Tryz.func128, Tryz.ntmps128
  go_wp2_with fail
  go_loopw [8, 9, 10, 20] (fun o _ _ i wr => ∃ j g cap : Nat, j ≤ ms.length ∧ i = .int .i64 j ∧ o = .slice (some ⟨g, 0, none⟩) (roF ms ts k j).length cap ∧ Hid (RoI w wr g cap (roF ms ts k j))) (fun _ _ _ i _ => ms.length - (intOf i).toNat)
  case atStart => exact ⟨0, w.heap.size, 0, Nat.zero_le _, rfl, rfl, HI0⟩
  case round =>
   obtain ⟨j, g, cap, hj, rfl, rfl, HI⟩ := hrel
   by_cases hlt : j < ms.length
   ·have hji : (j : Int) < (ms.length : Int) := by omega
    obtain ⟨c0, c1⟩ := HM.out _ HI.out.bl j hlt
    have hct := HT.out _ HI.out.bl j hlt
    have HN : Hid (roF ms ts k (j + 1) = if mvM ms j = k then roF ms ts k j ++ [(ts j, mvS ms j)] else roF ms ts k j) := rfl
    have hxl := roF_len ms ts k j
    have HCT : Hid (∀ W, Below w.heap.size w W → W.cell? ⟨bt, ot + j, none⟩ = some (.int .i64 (ts j))) := fun W h => HT.out W h j hlt
    generalize mvM ms j = m at *
    generalize mvS ms j = l at *
    generalize ts j = t at *
    generalize roF ms ts k j = xs at *
    have HX : Hid (Bx (wr.alloc (.cells #[.int .i64 m, .string l] 94)) wr.heap.size 94 #[.int .i64 m, .string l]) := Bx.new _ _ _
    have HI1 : Hid (RoI w (wr.alloc (.cells #[.int .i64 m, .string l] 94)) g cap xs) := HI.out.keep (below_all _ _)
    have hxc := HX.out.cell
    by_cases hmk : m = k
    ·have hb : (m == k) = true := beq_iff_eq.2 hmk
     have HN2 : Hid (roF ms ts k (j + 1) = xs ++ [(t, l)]) := by show _ = _; rw [HN.out, if_pos hmk]
     clear hmk HN
     go_wp2_with fail
     have hk1 : (j : Int) < (ms.length : Int) := by omega
     clear hxc
     generalize wr.alloc (.cells #[.int .i64 m, .string l] 94) = W1 at *
     have hbs := HI1.out.bl.size
     have hgl : g < wr.heap.size := Own.lt HI.out.ow
     have HBd : Hid (Below W1.heap.size W1 W1.drew) := (Below.refl _ _).drew
     have HCC : Hid (∀ W, Below W1.heap.size W1 W → W.cell? ⟨bt, ot + j, none⟩ = some (.int .i64 t) ∧ W.cell? ⟨wr.heap.size, 1, none⟩ = some (.string l)) := fun W h => ⟨HCT.out W (HI1.out.bl.trans (h.mono HI1.out.bl.size)), (HX.out.below h HX.out.lt).cell 1⟩
     have HO : Hid (Own W1.drew g cap xs.length 2 155 (mvF (nM (xs ++ [(t, l)])) (nL (xs ++ [(t, l)])))) := Own.below (B := W1.heap.size) (OwnN.ext HI1.out.ow (t, l)) (Below.refl _ _).drew (Own.lt HI1.out.ow)
     have HNN : Hid (∀ q, q < 2 → [Value.int .i64 t, .string l][q]? = some (mvF (nM (xs ++ [(t, l)])) (nL (xs ++ [(t, l)])) (xs.length * 2 + q))) := ntF_new xs (t, l)
     refine wp_region_held_drew (S := fun W => W.cell? ⟨bt, ot + j, none⟩ = some (.int .i64 t) ∧ W.cell? ⟨wr.heap.size, 1, none⟩ = some (.string l)) (by kernel_rfl) (HCC.out _ HBd.out) (fun hHeld => ?_)
     refine tkR 0 ?_
     refine tkR 1 ?_
     refine tkR 2 ?_
     refine tkR 3 ?_
     refine tkR 4 ?_
     refine tkR 5 ?_
     refine tkR 6 ?_
     refine tkR 7 ?_
     refine r1R 8 (fun K hK => ?_)
     go_simp
     skip
     refine oR hK ?_ (fun hHeld => ?_)
     ·try dsimp only
      exact HCC.out _ (HBd.out.alloc HBd.out.size _)
     clear hK K
     refine r1R 9 (fun K hK => ?_)
     refine step_pushR (w := W1.drew) elMv rfl (.tmp 29) (.tmp 37) rfl HO.out rfl [.int .i64 t, .string l] rfl HNN.out (fun _ _ => mvF_one _ _ _) (by unfold maxLen; omega) (by omega) ?_
     intro g' c' wa HA hgr hd
     have HI2 : Hid (RoI w wa g' c' (xs ++ [(t, l)])) := (HI1.out.keep HBd.out).push HA hgr (hd.imp And.left Nat.le_of_lt)
     have hm0 := HCT.out _ HI2.out.bl
     have hm1 := ((HX.out.below HBd.out HX.out.lt).kept hgr (by omega)).cell 1
     clear HA hgr hd
     refine oR hK ?_ (fun hHeld => ?_)
     ·try dsimp only
      go_keep
     clear hK K
     refine tkR 10 ?_
     refine wpAnyH_done (by kernel_rfl) ?_ _
     go_wp2_with fail
     go_roundw
     case rel => exact ⟨j + 1, g', c', by omega, by go_num, by rw [HN2.out]; simp, by rw [HN2.out]; exact HI2.out⟩
     case measure => simp [intOf]; omega
    ·have hb : (m == k) = false := beq_eq_false_iff_ne.2 hmk
     have HN2 : Hid (roF ms ts k (j + 1) = xs) := by show _ = _; rw [HN.out, if_neg hmk]
     clear hmk HN
     go_wp2_with fail
     go_roundw
     case rel => exact ⟨j + 1, g, cap, by omega, by go_num, by rw [HN2.out], by rw [HN2.out]; exact HI1.out⟩
     case measure => simp [intOf]; omega
   ·obtain rfl : j = ms.length := by omega
    have HV := Lib.hid (regVal_any g 0 cap (roF ms ts k ms.length) wr (by have := roF_len ms ts k ms.length; omega) (OwnN.nt HI.out.ow))
    have hbs := HI.out.bl.size
    have HL0 : Hid (roL ms ts k = if rgV (roF ms ts k ms.length) = true then roF ms ts k ms.length else []) := rfl
    generalize roF ms ts k ms.length = xs at *
    cases hv : rgV xs
    ·rw [hv] at HV
     have HL : Hid (roL ms ts k = []) := by show _ = _; rw [HL0.out, hv]; rfl
     have HVX := Lib.hid hv
     clear hv
     go_wp2_with fail
     refine HV.out.mono ?_
     rintro e w2 ⟨rfl, hb2⟩
     have HB2 := Lib.hid (HI.out.bl.trans (hb2.mono hbs))
     clear hb2
     have hb2s := HB2.out.size
     go_wp2_with fail
     go_ret2
     exact ⟨⟨w2.heap.size, 0, by rw [HL.out, HVX.out]; rfl, by rw [HL.out]; exact own_empty _ _ _ _, hb2s⟩, HB2.out.alloc hb2s _⟩
    ·rw [hv] at HV
     have HL : Hid (roL ms ts k = xs) := by show _ = _; rw [HL0.out, hv]; rfl
     have HVX := Lib.hid hv
     clear hv
     go_wp2_with fail
     refine HV.out.mono ?_
     rintro e w2 ⟨rfl, hb2⟩
     have HI2 := Lib.hid (HI.out.keep hb2)
     clear hb2
     go_wp2_with fail
     go_ret2
     exact ⟨⟨g, cap, by rw [HL.out, HVX.out]; rfl, by rw [HL.out]; exact HI2.out.ow, HI2.out.gz⟩, HI2.out.bl⟩
set_option linter.unusedSimpArgs false in
set_option maxRecDepth 100000 in
set_option maxHeartbeats 4000000 in
theorem regOf_none (am : Option Addr) (cm : Nat) (bt : Option Addr) (ct : Nat) (ts : Nat → Int) (k : Int) (w : World) :
    Calls Tryz.prog 128 #[.slice am 0 cm, .slice bt 0 ct, .int .i64 k] w (RuRes (roL [] ts k) (rgV (roF [] ts k ([] : List (Int × ByteArray)).length)) w) := by
  have HI0 : Hid (RoI w (w.alloc (.cells #[] 155)) w.heap.size 0 []) := ⟨own_empty _ _ _ _, Nat.le_refl _, below_all _ _⟩
  go_enter Tryz.func128, Tryz.ntmps128
  go_wp2_with fail
  go_loopw [8, 9, 10, 20] (fun o _ _ i wr => ∃ g cap : Nat, i = .int .i64 0 ∧ o = .slice (some ⟨g, 0, none⟩) 0 cap ∧ Hid (RoI w wr g cap [])) (fun _ _ _ i _ => 0)
  case atStart => exact ⟨w.heap.size, 0, rfl, rfl, HI0⟩
  case round =>
   obtain ⟨g, cap, rfl, rfl, HI⟩ := hrel
   have HV := Lib.hid (regVal_any g 0 cap [] wr (Nat.zero_le _) (OwnN.nt HI.out.ow))
   have hbs := HI.out.bl.size
   have HL : Hid (roL [] ts k = []) := by show _ = _; unfold roL; split <;> rfl
   have HVX : Hid (rgV (roF [] ts k 0) = rgV []) := rfl
   go_wp2_with fail
   refine HV.out.mono ?_
   rintro e w2 ⟨rfl, hb2⟩
   cases hv : rgV []
   ·rw [hv] at HVX
    clear hv
    have HB2 := Lib.hid (HI.out.bl.trans (hb2.mono hbs))
    clear hb2
    have hb2s := HB2.out.size
    go_wp2_with fail
    go_ret2
    exact ⟨⟨w2.heap.size, 0, by rw [HL.out, HVX.out]; rfl, by rw [HL.out]; exact own_empty _ _ _ _, hb2s⟩, HB2.out.alloc hb2s _⟩
   ·rw [hv] at HVX
    clear hv
    have HI2 := Lib.hid (HI.out.keep hb2)
    clear hb2
    go_wp2_with fail
    go_ret2
    exact ⟨⟨g, cap, by rw [HL.out, HVX.out]; rfl, by rw [HL.out]; exact HI2.out.ow, HI2.out.gz⟩, HI2.out.bl⟩
structure WF (m : Int) (w : World) : Prop where
  mx : w.cell? ⟨0, 0, none⟩ = some (.int .i64 m)
  tab : Lib.TabIs Tryz.prog w "internal/strconv.uint64pow10" .u64 Lib.pow10Tab
theorem var_keep {w w' : World} {nm : String} {r : Array Value} (h : w.var? Tryz.prog nm = some r) (hb : Below w.heap.size w w') : w'.var? Tryz.prog nm = some r := by
 unfold World.var? at h ⊢
 cases hg : Tryz.prog.globalNamed nm with
 | none => rw [hg] at h; cases h
 | some g =>
  rw [hg] at h
  simp only [Option.bind_some] at h ⊢
  have hlt : g < w.heap.size := by
   rcases Nat.lt_or_ge g w.heap.size with h' | h'
   ·exact h'
   ·simp [Array.getElem?_eq_none h'] at h
  rw [hb.block g hlt]
  exact h
theorem WF.below {m : Int} {w w' : World} (h : WF m w) (hb : Below w.heap.size w w') : WF m w' :=
 ⟨by rw [hb.cell (p := ⟨0, 0, none⟩) (World.block_lt_of_cell? w ⟨0, 0, none⟩ h.mx)]; exact h.mx, var_keep h.tab hb⟩
def itT (n : Int) : ByteArray := ⟨(Lib.itoa n).toArray⟩
theorem itT_size (n : Int) (h0 : -9223372036854775808 ≤ n) (h1 : n ≤ 9223372036854775807) : (itT n).size ≤ 21 := by
 have := Lib.itoa_length_le n h0 h1
 unfold itT
 show (Lib.itoa n).toArray.size ≤ 21
 simpa using this
theorem itoa_any {m : Int} (n : Int) (h0 : -9223372036854775808 ≤ n) (h1 : n ≤ 9223372036854775807) (w : World) (hW : WF m w) :
    Calls Tryz.prog 38 #[.int .i64 n] w fun e w' => e = .returned (.string (itT n)) ∧ Below w.heap.size w w' :=
  (Tryz.strconv_Itoa n h0 h1 w hW.tab).mono fun _ _ ⟨e1, k, os, e2⟩ => ⟨e1, by rw [e2]; exact Lib.below_grow _ _ (Nat.le_refl _) _ _⟩
def OwT (w : World) (g cap n : Nat) (tx : Nat → ByteArray) : Prop := Own w g cap n 1 9 (fun i => .string (tx i))
def jnT (tx : Nat → ByteArray) (n : Nat) : ByteArray := ⟨(Lib.join ((List.range n).map fun i => (tx i).data.toList) [32]).toArray⟩
theorem lens_le (B : Nat) : ∀ xs : List (List UInt8), (∀ x ∈ xs, x.length ≤ B) → Lib.lens xs ≤ xs.length * B
  | [], _ => by simp [Lib.lens]
  | x :: r, h => by
   have h1 := lens_le B r (fun y hy => h y (List.mem_cons_of_mem _ hy))
   have h2 := h x (List.mem_cons_self ..)
   have h3 : Lib.lens (x :: r) = x.length + Lib.lens r := by simp [Lib.lens]
   rw [h3, List.length_cons, Nat.succ_mul]
   omega
theorem join_len (xs : List (List UInt8)) (c : UInt8) (B : Nat) (h : ∀ x ∈ xs, x.length ≤ B) : (Lib.join xs [c]).length ≤ xs.length * (B + 1) := by
 cases xs with
 | nil => simp [Lib.join_nil]
 | cons x r =>
  have := lens_le B (x :: r) h
  rw [Lib.join_length, Nat.mul_add]
  simp only [List.length_cons, List.length_nil] at this ⊢
  omega
theorem join_any (g c n : Nat) (tx : Nat → ByteArray) (w : World) (hn : n ≤ 1000) (hB : ∀ i, i < n → (tx i).size ≤ 1000) (h : OwT w g c n tx) :
    Calls Tryz.prog 127 #[.slice (some ⟨g, 0, none⟩) n c, .string ⟨#[32]⟩] w fun e w' => e = .returned (.string (jnT tx n)) ∧ Below w.heap.size w w' := by
  have q := Tryz.strings_Join g 0 c ((List.range n).map tx) ⟨#[32]⟩ w (fun j x hj => ?_) h.lt (by simp; omega) (by simpa using h.1) ?_
  ·simpa [jnT, Function.comp_def] using q
  ·rw [List.getElem?_map] at hj
   rcases Nat.lt_or_ge j n with hlt | hge
   ·rw [List.getElem?_range hlt] at hj
    cases hj
    rw [Nat.zero_add]
    exact h.cell (i := j) (by omega)
   ·rw [List.getElem?_eq_none (by simpa using hge)] at hj
    cases hj
  ·have := join_len ((((List.range n).map tx).map (·.data.toList))) 32 1000 (fun x hx => by
    simp only [List.mem_map, List.mem_range] at hx
    obtain ⟨_, ⟨i, hi, rfl⟩, rfl⟩ := hx
    simpa using hB i hi)
   simp only [List.length_map, List.length_range] at this
   have h2 : n * (1000 + 1) ≤ 1000 * 1001 := Nat.mul_le_mul_right _ hn
   show (Lib.join _ [32]).length ≤ _
   omega
theorem elStr : Elem Tryz.prog 60 9 (.string ⟨#[]⟩) 1 16 := ⟨Tryz.underlying60, by kernel_rfl, rfl, by decide⟩
structure TdI (w wr : World) (g cap j : Nat) (tx : Nat → ByteArray) : Prop where
  ow : OwT wr g cap j tx
  gz : w.heap.size ≤ g
  bl : Below w.heap.size w wr
theorem TdI.keep {w wr wa : World} {g cap j : Nat} {tx : Nat → ByteArray} (h : TdI w wr g cap j tx) (hb : Below wr.heap.size wr wa) : TdI w wa g cap j tx :=
 ⟨Own.below h.ow hb (Own.lt h.ow), h.gz, h.bl.trans (hb.mono h.bl.size)⟩
theorem TdI.push {w wr wa : World} {g cap g' c' j : Nat} {tx : Nat → ByteArray} (h : TdI w wr g cap j tx) (HA : OwT wa g' c' (j + 1) tx) (hgr : wr.grownBy wa (some g)) (hd : g' = g ∨ wr.heap.size ≤ g') : TdI w wa g' c' (j + 1) tx := by
 have hgz := h.gz
 have hbs := h.bl.size
 refine ⟨HA, ?_, h.bl.trans (below_of_grown hgr hgz hbs)⟩
 rcases hd with q | q <;> omega
def bkW (ns : List (Int × ByteArray)) (i : Nat) : ByteArray := itT (nM ns i) ++ nL ns i
def bkN (st : Ses) (k : Int) : List (Int × ByteArray) := roL st.ms (iF st.ts) k
def bkG (st : Ses) (k : Int) : Bool := decide (k < st.x.n) && rgV (roF st.ms (iF st.ts) k st.ms.length)
def bkO (st : Ses) (l : ByteArray) : ByteArray := if bkG st (nmF l) = true then jnT (bkW (bkN st (nmF l))) (bkN st (nmF l)).length else noT
theorem regOf_ses {z s g1 c1 g2 c2 : Nat} {vm vt : Value} {st : Ses} {w : World} (h : SsC z w s g1 c1 g2 c2 vm vt st) (hl : st.ts.length = st.ms.length) (hms : st.ms.length ≤ 1000000) (k : Int) :
    Calls Tryz.prog 128 #[vm, vt, .int .i64 k] w (RuRes (bkN st k) (rgV (roF st.ms (iF st.ts) k st.ms.length)) w) := by
  have hz : ∀ am cm bt ct, st.ms = [] → Calls Tryz.prog 128 #[.slice am 0 cm, .slice bt 0 ct, .int .i64 k] w (RuRes (bkN st k) (rgV (roF st.ms (iF st.ts) k st.ms.length)) w) := fun am cm bt ct e => by
   unfold bkN
   rw [e]
   exact regOf_none am cm bt ct (iF st.ts) k w
  rcases h.mv with ⟨g, cm, rfl, _, ho⟩ | ⟨e, rfl⟩
  ·rcases h.tv with ⟨g', ct, rfl, _, ho'⟩ | ⟨e, rfl⟩
   ·rw [hl] at ho' ⊢
    exact regOf_any g 0 cm g' 0 ct st.ms (iF st.ts) k w hms (MvsC.of_own ho) (IC.of_own ho')
   ·have e' : st.ms = [] := List.length_eq_zero_iff.1 (by omega)
    have q := hz (some ⟨g, 0, none⟩) cm none 0 e'
    rw [show st.ms.length = 0 by omega] at q ⊢
    exact q
  ·have e' : st.ms = [] := List.length_eq_zero_iff.1 e
   obtain ⟨at', ct, hvt⟩ := h.tv.shape
   have q := hz none 0 at' ct e'
   rw [hvt, show st.ts.length = 0 by omega]
   exact q
theorem rgV_len1 {ns : List (Int × ByteArray)} (h : rgV ns = true) {i : Nat} (hi : i < ns.length) : (0 ≤ nM ns i ∧ nM ns i ≤ 2000) ∧ (nL ns i).size ≤ 1 := by
 have hall := (rgV_true.1 h).2
 have hpos : ∀ j, j < ns.length → 0 ≤ nM ns j := fun j => by
  induction j with
  | zero =>
   intro h0
   have q := (okN_true.1 (hall 0 h0)).1.1
   unfold prM at q
   simpa using q
  | succ j ih =>
   intro h0
   have q := (okN_true.1 (hall (j + 1) h0)).1.1
   rw [prM_succ] at q
   have := ih (by omega)
   omega
 have q := okN_true.1 (hall i hi)
 have e := evB_size q.2
 exact ⟨⟨hpos i hi, q.1.2⟩, by omega⟩
theorem bkN_rgV {st : Ses} {k : Int} (h : rgV (roF st.ms (iF st.ts) k st.ms.length) = true) : rgV (bkN st k) = true := by
 unfold bkN roL
 rw [if_pos h, h]
theorem bkW_size {ns : List (Int × ByteArray)} (h : rgV ns = true) {i : Nat} (hi : i < ns.length) : (bkW ns i).size ≤ 1000 := by
 obtain ⟨⟨h1, h2⟩, h3⟩ := rgV_len1 h hi
 have := itT_size (nM ns i) (by omega) (by omega)
 unfold bkW
 rw [ByteArray.size_append]
 omega
set_option linter.unusedSimpArgs false in
set_option maxRecDepth 100000 in
set_option maxHeartbeats 4000000 in
theorem doBook_any (z s bw n c : Nat) (l : ByteArray) (m : Int) (st : Ses) (own : Nat → Prop) (w : World) (hn : 2 ≤ n) (hW : WF m w) (hS : StS z st own w s) (hl : st.ts.length = st.ms.length) (hms : st.ms.length ≤ 1000) (hw : w.cell? ⟨bw, 1, none⟩ = some (.string l)) :
    Calls Tryz.prog 102 #[.pointer (some ⟨s, 0, none⟩), .slice (some ⟨bw, 0, none⟩) n c] w (Md z st (bkO st l) s own w) := by
  have HS := Lib.hid hS
  have HWF := Lib.hid hW
  have hnm := nmF_bd l
  have hn1 : (1 : Int) < (n : Int) := by omega
  have hn2 : 1 < n := by omega
  obtain ⟨g1, c1, g2, c2, vm, vt, h1, _⟩ := hS
  obtain ⟨am, cm, hvm⟩ := h1.mv.shape
  obtain ⟨at', ct, hvt⟩ := h1.tv.shape
  subst hvm hvt
  have HSC := Lib.hid h1
  have hsb := h1.box.lt
  have hsc := h1.box.cell
  clear h1 hW
  have HBd : Hid (Below w.heap.size w w.drew) := (Below.refl _ _).drew
  have HBO : Hid (bkO st l = if bkG st (nmF l) = true then jnT (bkW (bkN st (nmF l))) (bkN st (nmF l)).length else noT) := rfl
  have HBG : Hid (bkG st (nmF l) = (decide (nmF l < st.x.n) && rgV (roF st.ms (iF st.ts) (nmF l) st.ms.length))) := rfl
  have HOW : Hid (own = own) := rfl
  have HCC : Hid (∀ W, Below w.heap.size w W → W.cell? ⟨s, 4, none⟩ = some (.slice am st.ms.length cm) ∧ W.cell? ⟨s, 5, none⟩ = some (.slice at' st.ts.length ct)) := fun W h => ⟨(HSC.out.box.below h HSC.out.box.lt).cell 4, (HSC.out.box.below h HSC.out.box.lt).cell 5⟩
  have HRO : Hid (∀ W, Below w.heap.size w W → Calls Tryz.prog 128 #[.slice am st.ms.length cm, .slice at' st.ts.length ct, .int .i64 (nmF l)] W fun e W' => ∃ gx cx, e = .returned (.tuple #[.slice (some ⟨gx, 0, none⟩) (bkN st (nmF l)).length cx, .bool (rgV (roF st.ms (iF st.ts) (nmF l) st.ms.length))]) ∧ Hid (OwnN W' gx cx (bkN st (nmF l))) ∧ Hid (Below W.heap.size W W')) := fun W h => (regOf_ses (HSC.out.fr (Fr.of_below h (fun _ => False)) (fun _ _ h => h)) hl (by omega) (nmF l)).mono fun e W' ⟨⟨gx, cx, h1, h2, _⟩, h3⟩ => ⟨gx, cx, h1, h2, h3⟩
  clear hl
  have HNO : Hid (∀ W e, Below w.heap.size w W → bkG st (nmF l) = false → e = .returned (.string noT) → Md z st (bkO st l) s own w e W) := fun W e h h2 h3 => ⟨by rw [h3, HBO.out, if_neg (by rw [h2]; decide)], own, HS.out.keep (Fr.of_below h _), Fr.of_below h own, fun _ hq => .inl hq⟩
  go_enter Tryz.func102, Tryz.ntmps102
  go_wp2_with fail
  refine (numberOf_any l _).mono ?_
  rintro e w' ⟨rfl, rfl⟩
  by_cases hk : nmF l < (st.x.n : Int)
  ·have hk2 : ¬ (st.x.n : Int) ≤ nmF l := by omega
   rw [show decide (nmF l < (st.x.n : Int)) = true from decide_eq_true hk, Bool.true_and] at HBG
   have HRG : Hid (rgV (roF st.ms (iF st.ts) (nmF l) st.ms.length) = true → rgV (bkN st (nmF l)) = true) := bkN_rgV
   have HNU : Hid (nmF l = nmF l) := rfl
   clear hk
   generalize hnk : nmF l = nk at *
   clear hnk HNU
   generalize bkN st nk = xs at *
   generalize hrv : rgV (roF st.ms (iF st.ts) nk st.ms.length) = rv at *
   clear hrv
   go_wp2_with fail
   refine wp_region_held_drew (S := fun W => W.cell? ⟨s, 4, none⟩ = some (.slice am st.ms.length cm) ∧ W.cell? ⟨s, 5, none⟩ = some (.slice at' st.ts.length ct)) (by kernel_rfl) (HCC.out _ HBd.out) (fun hHeld => ?_)
   refine tkR 0 ?_
   refine tkR 1 ?_
   refine tkR 2 ?_
   refine tkR 3 ?_
   refine tkR 4 ?_
   refine tkR 5 ?_
   refine tkR 6 ?_
   refine tkR 7 ?_
   refine tkR 8 ?_
   refine r1R 9 (fun K hK => ?_)
   go_simp
   go_at_call 128
   go_must (refine Calls.mono (HRO.out _ HBd.out) ?_)
   rintro e w2 ⟨gx, cx, rfl, HOX, HB12⟩
   have HB2 : Hid (Below w.heap.size w w2) := HBd.out.trans (HB12.out.mono HBd.out.size)
   refine oR hK ?_ (fun hHeld => ?_)
   ·try dsimp only
    exact HCC.out _ HB2.out
   clear hK K
   refine tkR 10 ?_
   refine tkR 11 ?_
   refine tkR 12 ?_
   refine tkR 13 ?_
   refine tkR 14 ?_
   refine wpAnyH_done (by kernel_rfl) ?_ _
   clear hHeld HB12 hsc hsb
   cases rv
   ·go_wp2_with fail
    go_ret
    exact HNO.out _ _ HB2.out HBG.out rfl
   ·have HRV := Lib.hid (HRG.out rfl)
    have hxl : xs.length ≤ 30 := (rgV_true.1 HRV.out).1
    have hmk := fun w => run_mk0 elStr xs.length (by omega) (by omega) w
    go_wp2_with fail
    have HN : Hid (∀ W, Below w2.heap.size w2 W → NtC W gx 0 xs) := fun W h => (OwnN.nt HOX.out).keep h
    have HI0 : Hid (TdI w2 (w2.alloc (.cells (madeCells #[.string ⟨#[]⟩] (xs.length * 1)) 9)) w2.heap.size xs.length 0 (bkW xs)) := ⟨own_made _ _ _ _ _ _ (by unfold maxLen; omega), Nat.le_refl _, below_all _ _⟩
    have HWF2 := Lib.hid (HWF.out.below HB2.out)
    have HBS : Hid (∀ i, i < xs.length → (bkW xs i).size ≤ 1000) := fun i hi => bkW_size HRV.out hi
    have HNB : Hid (∀ i, i < xs.length → (0 ≤ nM xs i ∧ nM xs i ≤ 2000)) := fun i hi => (rgV_len1 HRV.out hi).1
    go_loopw [8, 10, 43] (fun o _ i wr => ∃ j g cap : Nat, j ≤ xs.length ∧ i = .int .i64 j ∧ o = .slice (some ⟨g, 0, none⟩) j cap ∧ Hid (TdI w2 wr g cap j (bkW xs))) (fun _ _ i _ => xs.length - (intOf i).toNat)
    case atStart => exact ⟨0, w2.heap.size, xs.length, Nat.zero_le _, rfl, rfl, by simpa using HI0⟩
    case round =>
     obtain ⟨j, g, cap, hj, rfl, rfl, HI⟩ := hrel
     by_cases hlt : j < xs.length
     ·have hji : (j : Int) < (xs.length : Int) := by omega
      obtain ⟨c0, c1⟩ := HN.out _ HI.out.bl j hlt
      rw [Nat.zero_add] at c0 c1
      have HTX : Hid (bkW xs j = itT (nM xs j) ++ nL xs j) := rfl
      have HMB := Lib.hid (HNB.out j hlt)
      generalize nM xs j = m1 at *
      generalize nL xs j = l1 at *
      have HX : Hid (Bx (wr.alloc (.cells #[.int .i64 m1, .string l1] 155)) wr.heap.size 155 #[.int .i64 m1, .string l1]) := Bx.new _ _ _
      have HI1 : Hid (TdI w2 (wr.alloc (.cells #[.int .i64 m1, .string l1] 155)) g cap j (bkW xs)) := HI.out.keep (below_all _ _)
      go_wp2_with fail
      clear c0 c1
      have hgl : g < wr.heap.size := Own.lt HI.out.ow
      have hsz : ¬ 9223372036854775807 < (itT m1).size + l1.size := by rw [← ByteArray.size_append]; have := HBS.out j hlt; rw [HTX.out] at this; omega
      generalize wr.alloc (.cells #[.int .i64 m1, .string l1] 155) = W1 at *
      have HBd1 : Hid (Below W1.heap.size W1 W1.drew) := (Below.refl _ _).drew
      have HC1 : Hid (∀ W, Below W1.heap.size W1 W → W.cell? ⟨wr.heap.size, 0, none⟩ = some (.int .i64 m1) ∧ W.cell? ⟨wr.heap.size, 1, none⟩ = some (.string l1)) := fun W h => ⟨(HX.out.below h HX.out.lt).cell 0, (HX.out.below h HX.out.lt).cell 1⟩
      refine wp_region_held_drew (S := fun W => W.cell? ⟨wr.heap.size, 0, none⟩ = some (.int .i64 m1) ∧ W.cell? ⟨wr.heap.size, 1, none⟩ = some (.string l1)) (by kernel_rfl) (HC1.out _ HBd1.out) (fun hHeld => ?_)
      refine tkR 0 ?_
      refine tkR 1 ?_
      refine tkR 2 ?_
      refine tkR 4 ?_
      refine tkR 5 ?_
      refine r1R 3 (fun K hK => ?_)
      go_simp
      go_at_call 38
      go_must (refine Calls.mono (itoa_any m1 (by have := HMB.out; omega) (by have := HMB.out; omega) _ (HWF2.out.below ((HI1.out.bl.trans (HBd1.out.mono HI1.out.bl.size)))) ) ?_)
      rintro e wi ⟨rfl, hbi⟩
      have HBi : Hid (Below W1.heap.size W1 wi) := HBd1.out.trans (hbi.mono HBd1.out.size)
      clear hbi
      refine oR hK ?_ (fun hHeld => ?_)
      ·try dsimp only
       exact HC1.out _ HBi.out
      clear hK K
      refine tkR 6 ?_
      refine r1R 7 (fun K hK => ?_)
      go_simp
      skip
      refine oR hK ?_ (fun hHeld => ?_)
      ·try dsimp only
       exact HC1.out _ (HBi.out.alloc HBi.out.size _)
      clear hK K
      have HIi := Lib.hid (HI1.out.keep HBi.out)
      refine r1R 8 (fun K hK => ?_)
      refine step_pushR (w := wi) elStr rfl (.tmp 47) (.tmp 54) rfl HIi.out.ow rfl [.string (itT m1 ++ l1)] rfl (fun q hq => by
       obtain rfl : q = 0 := by omega
       simp [HTX.out]) (fun _ _ => rfl) (by unfold maxLen; omega) (by omega) ?_
      intro g' c' wa HA hgr hd
      have HI2 := HIi.out.push HA hgr (hd.imp And.left Nat.le_of_lt)
      have HSW : Hid (wa.cell? ⟨wr.heap.size, 0, none⟩ = some (.int .i64 m1) ∧ wa.cell? ⟨wr.heap.size, 1, none⟩ = some (.string l1)) := ⟨((HX.out.below HBi.out HX.out.lt).kept hgr (by simp; omega)).cell 0, ((HX.out.below HBi.out HX.out.lt).kept hgr (by simp; omega)).cell 1⟩
      clear HA hgr hd
      refine hK.out _ _ HSW.out (fun hHeld => ?_)
      clear hK K
      try simp only [Act.put, List.setIfInBounds_toArray, List.set_cons_zero, List.set_cons_succ]
      refine tkR 9 ?_
      refine wpAnyH_done (by kernel_rfl) ?_ _
      go_wp2_with fail
      go_roundw
      case rel => exact ⟨j + 1, g', c', by omega, by go_num, by simp, HI2⟩
      case measure => simp [intOf]; omega
     ·obtain rfl : j = xs.length := by omega
      have HJ := Lib.hid (join_any g cap xs.length (bkW xs) wr (by omega) HBS.out HI.out.ow)
      go_wp2_with fail
      refine HJ.out.mono ?_
      rintro e w3 ⟨rfl, hb3⟩
      have HB3 := Lib.hid (HB2.out.trans ((HI.out.bl.trans (hb3.mono HI.out.bl.size)).mono HB2.out.size))
      clear hb3
      go_wp2_with fail
      go_ret
      exact ⟨by rw [HBO.out, if_pos HBG.out]; rfl, own, HS.out.keep (Fr.of_below HB3.out _), Fr.of_below HB3.out own, fun _ hq => .inl hq⟩
  ·have hk2 : (st.x.n : Int) ≤ nmF l := by omega
   rw [show decide (nmF l < (st.x.n : Int)) = false from decide_eq_false hk, Bool.false_and] at HBG
   go_wp2_with fail
   go_ret
   exact HNO.out _ _ (Below.refl _ _) HBG.out rfl
theorem gPow : Tryz.prog.globalNamed "internal/strconv.uint64pow10" = some 1 := by kernel_rfl
theorem WF.size {m : Int} {w : World} (h : WF m w) : 2 ≤ w.heap.size := by
 have h1 := h.tab
 unfold Lib.TabIs World.var? at h1
 rw [gPow] at h1
 simp only [Option.bind_some] at h1
 rcases Nat.lt_or_ge 1 w.heap.size with h' | h'
 ·omega
 ·simp [Array.getElem?_eq_none h'] at h1
theorem WF.fr {S : Nat → Prop} {m : Int} {w w' : World} (h : WF m w) (hf : Fr S w w') (hS : ∀ q, S q → 2 ≤ q) : WF m w' := by
 have hs := h.size
 refine ⟨?_, ?_⟩
 ·have hb := hf.block 0 (by omega) (fun e => by have := hS 0 e; omega)
  have hm := h.mx
  simp only [World.cell?] at hm ⊢
  rw [hb]
  exact hm
 ·have hb := hf.block 1 (by omega) (fun e => by have := hS 1 e; omega)
  have h1 := h.tab
  unfold Lib.TabIs World.var? at h1 ⊢
  rw [gPow] at h1 ⊢
  simp only [Option.bind_some] at h1 ⊢
  rw [hb]
  exact h1
def Ans (st : Ses) (t : ByteArray) (st' : Ses) (o : ByteArray) : Prop :=
 ∀ (z s : Nat) (m : Int) (own : Nat → Prop) (w : World), z ≤ w.heap.size → 2 ≤ z → WF m w → StS z st own w s → Calls Tryz.prog 37 #[.pointer (some ⟨s, 0, none⟩), .string t] w (Md z st' o s own w)
structure SesOk (st : Ses) : Prop where
  xv : vldL st.x = true
  t0 : 0 ≤ st.tm
  t1 : st.tm ≤ 2000
  ml : st.ms.length ≤ 100
  tl : st.ts.length = st.ms.length
theorem SesOk.xn {st : Ses} (h : SesOk st) : st.x.n ≤ 5 ∧ st.x.m ≤ 5 := by
 obtain ⟨_, h2, h3, _⟩ := vldL_true h.xv
 exact ⟨h2, h3⟩
def ses0 : Ses := { x := newL 1 0, tm := 0, ms := [], ts := [] }
theorem ans_none {st : Ses} {t : ByteArray} (ht : t.size ≤ 1000) (hc : cmdK (wd0 t) (wdL t).length = 9) : Ans st t st whatT :=
 fun z s m own w _ _ hW hS => line_none z s t m st own w ht hW.mx hc hS
theorem ans_line {st : Ses} {t : ByteArray} (ht : t.size ≤ 1000) (hc : cmdK (wd0 t) (wdL t).length = 0) (hl : (wdL t).length = 3) : Ans st t (lwS st (wdI t 1) (wdI t 2)) (lwO (wdI t 1) (wdI t 2)) :=
 fun z s m own w hz _ hW hS => line_some z s 0 t m st _ _ own w ht hW.mx hc (by omega) hS fun W bw hS2 hb hw _ =>
  doLine_any z s bw (wdL t).length (wdL t).length (wdI t 1) (wdI t 2) st own W (by omega) (Nat.le_trans hz hb.size) hS2 (hw 1 (by omega)) (hw 2 (by omega))
theorem ans_wait {st : Ses} {t : ByteArray} (ht : t.size ≤ 1000) (hk : SesOk st) (hc : cmdK (wd0 t) (wdL t).length = 1) (hl : (wdL t).length = 2) : Ans st t (wtS st (wdI t 1)) (wtO st (wdI t 1)) :=
 fun z s m own w _ _ hW hS => line_some z s 1 t m st _ _ own w ht hW.mx hc (by omega) hS fun W bw hS2 _ hw _ =>
  doWait_any z s bw (wdL t).length (wdL t).length (wdI t 1) st own W (by omega) hS2 ⟨hk.t0, hk.t1⟩ (hw 1 (by omega))
theorem ans_do {st : Ses} {t : ByteArray} (ht : t.size ≤ 1000) (hk : SesOk st) (hc : cmdK (wd0 t) (wdL t).length = 2) (hl : (wdL t).length = 3) : Ans st t (mvSS st (wdI t 1) (wdI t 2)) (mvSO st (wdI t 1) (wdI t 2)) :=
 fun z s m own w hz _ hW hS => line_some z s 2 t m st _ _ own w ht hW.mx hc (by omega) hS fun W bw hS2 hb hw _ =>
  doMove_any z s bw (wdL t).length (wdL t).length (wdI t 1) (wdI t 2) st own W (by omega) (Nat.le_trans hz hb.size) hS2 (by have := hk.xn; omega) (by have := hk.ml; omega) (by have := hk.ml; have := hk.tl; omega) (hw 1 (by omega)) (hw 2 (by omega))
theorem ans_book {st : Ses} {t : ByteArray} (ht : t.size ≤ 1000) (hk : SesOk st) (hc : cmdK (wd0 t) (wdL t).length = 6) (hl : (wdL t).length = 2) : Ans st t st (bkO st (wdI t 1)) :=
 fun z s m own w _ _ hW hS => line_some z s 6 t m st _ _ own w ht hW.mx hc (by omega) hS fun W bw hS2 hb hw _ =>
  doBook_any z s bw (wdL t).length (wdL t).length (wdI t 1) m st own W (by omega) (hW.below hb) hS2 hk.tl (by have := hk.ml; omega) (hw 1 (by omega))
end Go.Proofs.YtlkdmpfifpkpaaaGreatDoor

