/-
  RegisterJoin of the reference.
-/
import Derived.Test.YtokddeoliieofaaKv
namespace Go.Proofs.Ytokddeoliieofaa
open Go.RowKit

theorem nM_left {xa xb : List (Int × ByteArray)} {k : Nat} (h : k < xa.length) : nM (xa ++ xb) k = nM xa k ∧ nL (xa ++ xb) k = nL xa k := by
  unfold nM nL
  rw [List.getElem?_append_left h]
  exact ⟨rfl, rfl⟩
theorem nM_right {xa xb : List (Int × ByteArray)} (k : Nat) : nM (xa ++ xb) (xa.length + k) = nM xb k ∧ nL (xa ++ xb) (xa.length + k) = nL xb k := by
  unfold nM nL
  rw [List.getElem?_append_right (by omega), Nat.add_sub_cancel_left]
  exact ⟨rfl, rfl⟩
theorem nt_l {w : World} {b off : Nat} {xa xb : List (Int × ByteArray)} (h : NtC w b off xa) : ∀ j, j < xa.length * 2 → w.cell? ((⟨b, off, none⟩ : Addr).add j) = some (mvF (nM (xa ++ xb)) (nL (xa ++ xb)) (0 * 2 + j)) := fun j hj => by
  rw [nt_new h (Nat.le_refl _) j hj, mvF_congr (n := xa.length) (fun k hk => (nM_left (xb := xb) hk).1) (fun k hk => (nM_left (xb := xb) hk).2) (0 * 2 + j) (by omega)]
theorem nt_r {w : World} {b off : Nat} {xa xb : List (Int × ByteArray)} (h : NtC w b off xb) : ∀ j, j < xb.length * 2 → w.cell? ((⟨b, off, none⟩ : Addr).add j) = some (mvF (nM (xa ++ xb)) (nL (xa ++ xb)) (xa.length * 2 + j)) := fun j hj => by
  rw [nt_new h (Nat.le_refl _) j hj]
  unfold mvF
  rw [show (xa.length * 2 + j) % 2 = (0 * 2 + j) % 2 by omega, show (xa.length * 2 + j) / 2 = xa.length + (0 * 2 + j) / 2 by omega, (nM_right _).1, (nM_right _).2]
theorem NtC.old {w w' : World} {b off B : Nat} {ns : List (Int × ByteArray)} (h : NtC w b off ns) (hb : Below B w w') (hd : ns.length = 0 ∨ b < B) : NtC w' b off ns := fun k hk => by
  have hbB : b < B := by rcases hd with q | q <;> omega
  obtain ⟨h1, h2⟩ := h k hk
  exact ⟨(World.cell?_of_block (hb.block b hbB)).trans h1, (World.cell?_of_block (hb.block b hbB)).trans h2⟩
theorem NtC.lt {w : World} {b off : Nat} {ns : List (Int × ByteArray)} (h : NtC w b off ns) : ns.length = 0 ∨ b < w.heap.size := by
  rcases Nat.eq_zero_or_pos ns.length with q | q
  · exact .inl q
  · exact .inr (World.block_lt_of_cell? w ⟨b, off + 0 * 2, none⟩ (h 0 q).1)
set_option linter.unusedSimpArgs false in
set_option maxRecDepth 100000 in
set_option maxHeartbeats 4000000 in
theorem specJoin_any (b1 o1 c1 b2 o2 c2 : Nat) (xa xb : List (Int × ByteArray)) (w : World) (hn1 : xa.length ≤ 1000) (hn2 : xb.length ≤ 1000) (hc1 : NtC w b1 o1 xa) (hc2 : NtC w b2 o2 xb) :
    Calls Try.prog 38 #[.slice (some ⟨b1, o1, none⟩) xa.length c1, .slice (some ⟨b2, o2, none⟩) xb.length c2] w (RuRes (jnL xa xb) (jnV xa xb) w) := by
  have HA : Hid (∀ W, Below w.heap.size w W → NtC W b1 o1 xa) := fun W h => hc1.old h hc1.lt
  have HC : Hid (∀ W, Below w.heap.size w W → NtC W b2 o2 xb) := fun W h => hc2.old h hc2.lt
  have HVA : Hid (∀ W, Below w.heap.size w W → Calls Try.prog 67 #[.slice (some ⟨b1, o1, none⟩) xa.length c1] W fun e w' => e = .returned (.bool (rgV xa)) ∧ W = w') := fun W h => specValid_any b1 o1 c1 xa W (by omega) (HA.out W h)
  have HVB : Hid (∀ W, Below w.heap.size w W → Calls Try.prog 67 #[.slice (some ⟨b2, o2, none⟩) xb.length c2] W fun e w' => e = .returned (.bool (rgV xb)) ∧ W = w') := fun W h => specValid_any b2 o2 c2 xb W (by omega) (HC.out W h)
  have HVC : Hid (∀ W g cap, OwnN W g cap (xa ++ xb) → Calls Try.prog 67 #[.slice (some ⟨g, 0, none⟩) (xa.length + xb.length) cap] W fun e w' => e = .returned (.bool (rgV (xa ++ xb))) ∧ W = w') := fun W g cap h => by
    have q := specValid_any g 0 cap (xa ++ xb) W (by simp; omega) h.nt
    rwa [List.length_append] at q
  have HLA : Hid (∀ a, ∀ j, j < xa.length * 2 → (w.alloc a).cell? ((⟨b1, o1, none⟩ : Addr).add j) = some (mvF (nM (xa ++ xb)) (nL (xa ++ xb)) (0 * 2 + j))) := fun a => nt_l (HA.out _ (below_all _ _))
  clear hc1 hc2
  go_enter Try.func38, Try.ntmps38
  go_wp2_with (first
    | (at_builtin; refine wpList_app elMv rfl (.tmp 7) (.tmp 8) (by rfl) (own_empty w 2 _ (mvF (nM (xa ++ xb)) (nL (xa ++ xb)))) (by rfl) ⟨b1, o1, none⟩ xa.length c1 (by rfl) (HLA.out _) (fun _ _ => mvF_one _ _ _) (by unfold maxLen; omega) (by omega) ?_; intro ga ca wa hA hgr hd; rw [Nat.zero_add] at hA; have HAo := Lib.hid hA; have HBa : Hid (Below w.heap.size w wa) := (below_all _ _).trans (below_of_grown hgr (Nat.le_refl _) (by simp)); have hda : w.heap.size ≤ ga := (by rw [World.size_alloc] at hd; omega); clear hA hgr hd)
    | (at_builtin; refine wpList_app elMv rfl (.tmp 9) (.tmp 10) (by rfl) HAo.out (by rfl) ⟨b2, o2, none⟩ xb.length c2 (by rfl) (nt_r (HC.out _ HBa.out)) (fun _ _ => mvF_one _ _ _) (by unfold maxLen; omega) (by omega) ?_; intro gb cb wb hA hgr hd; have HBo := Lib.hid hA; have HBb : Hid (Below w.heap.size w wb) := HBa.out.trans (below_of_grown hgr hda HBa.out.size); have hdb : w.heap.size ≤ gb := (by have := HBa.out.size; omega); clear hA hgr hd))
  have HOW : Hid (OwnN wb gb cb (xa ++ xb)) := by show OwnN _ _ _ _; unfold OwnN; rw [List.length_append]; exact HBo.out
  have hbs := HBb.out.size
  clear HAo HBa HBo
  cases hva : rgV xa
  · have HW : Hid (jnV xa xb = false) := by show _ = _; unfold jnV; rw [hva]; rfl
    have HV : Hid (jnL xa xb = []) := by show _ = _; unfold jnL; rw [HW.out]; rfl
    rw [hva] at HVA
    clear hva
    refine (HVA.out _ HBb.out).mono ?_
    rintro e w' ⟨rfl, rfl⟩
    go_wp2_with fail
    go_ret2
    exact ⟨⟨wb.heap.size, 0, by rw [HV.out, HW.out]; rfl, by rw [HV.out]; exact own_empty _ _ _ _, hbs⟩, HBb.out.alloc hbs _⟩
  rw [hva] at HVA
  cases hvb : rgV xb
  · have HW : Hid (jnV xa xb = false) := by show _ = _; unfold jnV; rw [hvb]; simp
    have HV : Hid (jnL xa xb = []) := by show _ = _; unfold jnL; rw [HW.out]; rfl
    rw [hvb] at HVB
    clear hva hvb
    refine (HVA.out _ HBb.out).mono ?_
    rintro e w' ⟨rfl, rfl⟩
    go_wp2_with fail
    refine (HVB.out _ HBb.out).mono ?_
    rintro e w' ⟨rfl, rfl⟩
    go_wp2_with fail
    go_ret2
    exact ⟨⟨wb.heap.size, 0, by rw [HV.out, HW.out]; rfl, by rw [HV.out]; exact own_empty _ _ _ _, hbs⟩, HBb.out.alloc hbs _⟩
  rw [hvb] at HVB
  have HW : Hid (jnV xa xb = rgV (xa ++ xb)) := by show _ = _; unfold jnV; rw [hva, hvb]; rfl
  clear hva hvb
  refine (HVA.out _ HBb.out).mono ?_
  rintro e w' ⟨rfl, rfl⟩
  go_wp2_with fail
  refine (HVB.out _ HBb.out).mono ?_
  rintro e w' ⟨rfl, rfl⟩
  go_wp2_with fail
  refine (HVC.out _ _ _ HOW.out).mono ?_
  rintro e w' ⟨rfl, rfl⟩
  cases hvc : rgV (xa ++ xb)
  · rw [hvc] at HW
    have HV : Hid (jnL xa xb = []) := by show _ = _; unfold jnL; rw [HW.out]; rfl
    clear hvc
    go_wp2_with fail
    go_ret2
    exact ⟨⟨wb.heap.size, 0, by rw [HV.out, HW.out]; rfl, by rw [HV.out]; exact own_empty _ _ _ _, hbs⟩, HBb.out.alloc hbs _⟩
  · rw [hvc] at HW
    have HV : Hid (jnL xa xb = xa ++ xb) := if_pos HW.out
    clear hvc
    go_wp2_with fail
    go_ret2
    exact ⟨⟨gb, cb, by rw [HV.out, HW.out, List.length_append]; rfl, by rw [HV.out]; exact HOW.out, hdb⟩, HBb.out⟩
end Go.Proofs.Ytokddeoliieofaa
