/-
  RegisterJoin of the program.
-/
import Derived.Test.YtokddeoliieofaaKu
namespace Go.Proofs.Ytokddeoliieofaa
open Go.RowKit

/-- two lists make one register -/
def jnV (xa xb : List (Int × ByteArray)) : Bool := rgV xa && (rgV xb && rgV (xa ++ xb))
def jnL (xa xb : List (Int × ByteArray)) : List (Int × ByteArray) := if jnV xa xb = true then xa ++ xb else []
/-- between two rounds of the program's RegisterJoin -/
structure JnI (w wr : World) (r r2 : Nat) (es fs : List Nat) (xa xb : List (Int × ByteArray)) (i : Nat) : Prop where
  a : RgC wr r es (xa ++ xb.take i)
  b : RgC wr r2 fs xb
  ab : RgB w.heap.size r es
  bl : Below w.heap.size w wr
  d1 : r2 ≠ r
  d2 : ∀ q, q < es.length → r2 ≠ es.getD q 0
  d3 : ∀ j, j < fs.length → fs.getD j 0 ≠ r
  d4 : ∀ j, j < fs.length → ∀ q, q < es.length → fs.getD j 0 ≠ es.getD q 0
theorem JnI.next {w wr w' : World} {r r2 b i : Nat} {es fs : List Nat} {xa xb : List (Int × ByteArray)} (h : JnI w wr r r2 es fs xa xb i) (hp : PutK wr w' r es) (hb : wr.heap.size ≤ b) (hr : RgC w' r (es ++ [b]) (xa ++ xb.take (i + 1))) (hbl : Below w.heap.size wr w') :
    JnI w w' r r2 (es ++ [b]) fs xa xb (i + 1) := by
  have h2 := hp.reg h.b h.d1 h.d2 h.d3 h.d4
  have hl2 := h.b.box.lt
  have hlf : ∀ j, j < fs.length → fs.getD j 0 < wr.heap.size := fun j hj => (h.b.ent j hj).lt
  have hbs := h.bl.size
  refine ⟨hr, h2, h.ab.push (by omega), h.bl.trans hbl, h.d1, fun q hq => ?_, h.d3, fun j hj q hq => ?_⟩
  · simp at hq
    rcases Nat.lt_or_ge q es.length with h3 | h3
    · rw [gD_old h3]; exact h.d2 q h3
    · obtain rfl : q = es.length := by omega
      rw [gD_new]; omega
  · simp at hq
    have := hlf j hj
    rcases Nat.lt_or_ge q es.length with h3 | h3
    · rw [gD_old h3]; exact h.d4 j hj q h3
    · obtain rfl : q = es.length := by omega
      rw [gD_new]; omega
set_option linter.unusedSimpArgs false in
set_option maxRecDepth 100000 in
set_option maxHeartbeats 4000000 in
theorem join_any (b1 o1 c1 b2 o2 c2 : Nat) (xa xb : List (Int × ByteArray)) (w : World) (hn1 : xa.length ≤ 1000000) (hn2 : xb.length ≤ 1000000) (hc1 : NtC w b1 o1 xa) (hc2 : NtC w b2 o2 xb) :
    Calls Try.prog 37 #[.slice (some ⟨b1, o1, none⟩) xa.length c1, .slice (some ⟨b2, o2, none⟩) xb.length c2] w (RuRes (jnL xa xb) (jnV xa xb) w) := by
  have HRA := Lib.hid (registerOf_any b1 o1 c1 xa w (by omega) hc1)
  have HRB : Hid (∀ W, Below w.heap.size w W → Calls Try.prog 64 #[.slice (some ⟨b2, o2, none⟩) xb.length c2] W (RgRes (rgV xb) xb W)) := fun W h => registerOf_any b2 o2 c2 xb W (by omega) (hc2.keep h)
  clear hc1 hc2
  go_enter Try.func37, Try.ntmps37
  go_wp2_with fail
  refine HRA.out.mono ?_
  rintro e w1 ⟨⟨r, rfl, hr⟩, hb1⟩
  have HB1 := Lib.hid hb1
  clear hb1
  cases hva : rgV xa
  · have HW : Hid (jnV xa xb = false) := by show _ = _; unfold jnV; rw [hva]; rfl
    have HV : Hid (jnL xa xb = []) := by show _ = _; unfold jnL; rw [HW.out]; rfl
    clear hva hr
    go_wp2_with fail
    refine (HRB.out _ HB1.out).mono ?_
    rintro e w2 ⟨⟨r2, rfl, hr2⟩, hb2⟩
    have HB2 := Lib.hid (HB1.out.trans (hb2.mono HB1.out.size))
    have hbs := HB2.out.size
    clear hr2 hb2
    go_wp2_with fail
    go_ret2
    exact ⟨⟨w2.heap.size, 0, by rw [HV.out, HW.out]; rfl, by rw [HV.out]; exact own_empty _ _ _ _, hbs⟩, HB2.out.alloc hbs _⟩
  cases hvb : rgV xb
  · have HW : Hid (jnV xa xb = false) := by show _ = _; unfold jnV; rw [hvb]; simp
    have HV : Hid (jnL xa xb = []) := by show _ = _; unfold jnL; rw [HW.out]; rfl
    rw [hvb] at HRB
    clear hva hvb hr
    go_wp2_with fail
    refine (HRB.out _ HB1.out).mono ?_
    rintro e w2 ⟨⟨r2, rfl, hr2⟩, hb2⟩
    have HB2 := Lib.hid (HB1.out.trans (hb2.mono HB1.out.size))
    have hbs := HB2.out.size
    clear hr2 hb2
    go_wp2_with fail
    go_ret2
    exact ⟨⟨w2.heap.size, 0, by rw [HV.out, HW.out]; rfl, by rw [HV.out]; exact own_empty _ _ _ _, hbs⟩, HB2.out.alloc hbs _⟩
  have HW : Hid (jnV xa xb = rgV (xa ++ xb)) := by show _ = _; unfold jnV; rw [hva, hvb]; rfl
  have hl1 := (rgV_true.1 hva).1
  have hl2 := (rgV_true.1 hvb).1
  rw [hvb] at HRB
  obtain ⟨r', es, e, h1, h2⟩ := hr hl1
  cases e
  have HR1 := Lib.hid h1
  have HR2 := Lib.hid h2
  clear hr h1 h2 hva hvb
  go_wp2_with fail
  refine (HRB.out _ HB1.out).mono ?_
  rintro e w2 ⟨⟨r2, rfl, hr2⟩, hb2⟩
  obtain ⟨r2', fs, e, g1, g2⟩ := hr2 hl2
  cases e
  have HI0 : Hid (JnI w w2 r r2 es fs xa xb 0) := by
    have hlr := HR1.out.box.lt
    have hle : ∀ q, q < es.length → es.getD q 0 < w1.heap.size := fun q hq => (HR1.out.ent q hq).lt
    have g21 := g2.1
    refine ⟨by rw [List.take_zero, List.append_nil]; exact HR1.out.below hb2 (Nat.le_refl _), g1, HR2.out, HB1.out.trans (hb2.mono HB1.out.size), by omega, fun q hq => ?_, fun j hj => ?_, fun j hj q hq => ?_⟩
    · have := hle q hq; omega
    · have := g2.2 j hj; omega
    · have := g2.2 j hj; have := hle q hq; omega
  have HL := Lib.hid g1.len
  have hfl : fs.length ≤ 30 := by rw [HL.out]; exact hl2
  have hrc := g1.box.cell
  clear hr2 g1 g2 hb2
  go_wp2_with fail
  clear hrc
  go_loopw [10] (fun e wr => ∃ i : Nat, i ≤ fs.length ∧ e = pE fs i ∧ ∃ es', Hid (JnI w wr r r2 es' fs xa xb i)) (fun e _ => fs.length - ixE fs e)
  case atStart => exact ⟨0, Nat.zero_le _, rfl, es, HI0⟩
  case round =>
    obtain ⟨i, hi, he, es', HI⟩ := hrel
    have HIX := Lib.hid (HI.out.b.ix hi)
    by_cases hlt : i < fs.length
    · have HE := Lib.hid he
      rw [pE_some hlt] at he
      subst he
      have hec := (HI.out.b.ent i hlt).cell
      have HEX : Hid (∀ (W : World) (i' : List Nat × Nat), JnI w W r r2 (i'.1) fs xa xb i'.2 → Bx W (fs.getD i 0) 100 #[.int .i64 (nM xb i), .string (nL xb i), pE fs (i + 1)]) := fun W i' h => h.b.ent i hlt
      have HIN : Hid (i < xb.length) := by show _ < _; rw [← HL.out]; exact hlt
      have HNX := Lib.hid (HI.out.b.ix (i := i + 1) (by omega))
      have HTK : Hid (xb.take (i + 1) = xb.take i ++ [(nM xb i, nL xb i)]) := by show _ = _; rw [nM_at HIN.out, nL_at HIN.out]; exact List.take_succ_eq_append_getElem HIN.out
      have hlz : (xa ++ xb.take i).length ≤ 1000000 := by simp; omega
      generalize fs.getD i 0 = eb at *
      generalize nM xb i = x at *
      generalize nL xb i = l at *
      have HPT := Lib.hid (put_any2 w.heap.size r es' (xa ++ xb.take i) (x, l) wr HI.out.a hlz HI.out.ab HI.out.bl.size)
      go_wp2_with fail
      refine HPT.out.mono ?_
      rintro e w3 ⟨rfl, ⟨bn, hbn, hrg⟩, hb3, hpk⟩
      have HI2 : Hid (JnI w w3 r r2 (es' ++ [bn]) fs xa xb (i + 1)) := HI.out.next hpk hbn (by rw [HTK.out, ← List.append_assoc]; exact hrg) hb3
      have hea := (HEX.out w3 (es' ++ [bn], i + 1) HI2.out).cell
      clear hrg hb3 hpk hbn hec
      go_wp2_with fail
      go_roundw
      case rel => exact ⟨i + 1, by omega, rfl, es' ++ [bn], HI2⟩
      case measure => rw [HE.out, HIX.out, HNX.out]; omega
    · rw [pE_none (by omega)] at he
      subst he
      obtain rfl : i = xb.length := by rw [← HL.out]; omega
      have HA : Hid (RgC wr r es' (xa ++ xb)) := by have h := HI.out.a; rwa [List.take_length] at h
      have hml : (xa ++ xb).length ≤ 60 := by simp; omega
      have HVD := Lib.hid (valid_any r es' (xa ++ xb) wr HA.out (by omega))
      have HLI := Lib.hid (list_any r es' (xa ++ xb) wr HA.out (by omega))
      have hbs := HI.out.bl.size
      cases hv2 : rgV (xa ++ xb)
      · have HV : Hid (jnL xa xb = []) := by show _ = _; unfold jnL; rw [HW.out, hv2]; rfl
        rw [hv2] at HVD HW
        clear hv2
        go_wp2_with fail
        refine HVD.out.mono ?_
        rintro e w4 ⟨rfl, rfl⟩
        go_wp2_with fail
        go_ret2
        exact ⟨⟨wr.heap.size, 0, by rw [HV.out, HW.out]; rfl, by rw [HV.out]; exact own_empty _ _ _ _, hbs⟩, HI.out.bl.alloc hbs _⟩
      · have HV : Hid (jnL xa xb = xa ++ xb) := by show _ = _; unfold jnL; rw [HW.out, hv2]; rfl
        rw [hv2] at HVD HW
        clear hv2
        go_wp2_with fail
        refine HVD.out.mono ?_
        rintro e w4 ⟨rfl, rfl⟩
        go_wp2_with fail
        refine HLI.out.mono ?_
        rintro e w5 ⟨⟨g, cap, rfl, ho, hg⟩, hb5⟩
        have HO := Lib.hid ho
        have HB5 := Lib.hid (HI.out.bl.trans (hb5.mono hbs))
        clear hb5 ho
        go_wp2_with fail
        go_ret2
        exact ⟨⟨g, cap, by rw [HV.out, HW.out, List.length_append]; rfl, by rw [HV.out]; exact HO.out, by omega⟩, HB5.out⟩
end Go.Proofs.Ytokddeoliieofaa
