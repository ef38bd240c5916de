/-
  The walk of the law FnExactSingleStarts.
-/
import Derived.Test.YtdmofgogpdodfaaG
import Derived.Test.YtdmofgogpdodfaaM
namespace Go.Proofs.Ytdmofgogpdodfaa
open Go.RowKit

theorem eqSl_refl (n : Nat) (f : Nat → Int) : eqSl n n f f = true := eqSl_true.2 ⟨rfl, fun _ _ => rfl⟩
theorem stN_le (x : Sg) (s : ByteArray) (hs : s.size ≤ 1048576) : stN x s ≤ 1048576 := by unfold stN; split <;> omega
theorem StRes.oi {x : Sg} {s : ByteArray} {w w' : World} {e : Ending} (h : StRes x s w e w') :
    ∃ v, e = .returned (.tuple #[v, .bool (stOk x s)]) ∧ OI w.heap.size w'.heap.size w' v (stN x s) (stT x (bt s)) ∧ Below w.heap.size w w' := by
  obtain ⟨g, cap, he, hg, ho, hb⟩ := h
  exact ⟨_, he, .inl ⟨g, cap, rfl, hg, ho.lt, ho⟩, hb⟩

set_option maxRecDepth 100000 in
set_option maxHeartbeats 2000000 in
theorem lawStarts_any (v : Value) (x : Sg) (w : World) (s : ByteArray) (hsz : s.size ≤ 1048576) (hv : SgN w v x) (ha : x.na ≤ 9223372036854775807) (hb : x.nb ≤ 9223372036854775807) :
    Calls Try.prog 11 #[v, .string s] w fun e w' => e = .returned (.bool true) ∧ Below w.heap.size w w' := by
  have hv0 := hv
  obtain ⟨va, vb, rfl, _, _⟩ := hv
  have HV := Lib.hid hv0
  clear hv0
  have hN := stN_le x s hsz
  have hbb : ∀ a, Below w.heap.size w (w.alloc a) := fun a => (Below.refl _ _).alloc (Nat.le_refl _) _
  have HBB := Lib.hid hbb
  clear hbb
  go_enter Try.func11, Try.ntmps11
  go_wp2_with fail
  refine (szSingle_any _ x _ (HV.out.keep (HBB.out _)) (by omega) (by omega)).mono ?_
  rintro e w1 ⟨rfl, hb1⟩
  rw [World.size_alloc] at hb1
  have hc := box_cells hb1 (by omega)
  have hz1 : w.heap.size + 1 ≤ w1.heap.size := by have := hb1.size; simpa using this
  have HB1 := Lib.hid hb1
  clear hb1
  by_cases hs : x.na + x.nb ≤ 1048576
  · rw [show szSg x = 1048576 - x.na - x.nb from if_pos hs]
    go_wp2_with fail
    refine (toSingle_any _ x _ (HV.out.keep ((HBB.out _).trans (HB1.out.mono (by omega)))) (by omega) (by omega)).mono ?_
    rintro e w2 ⟨u2, rfl, hF2, hb2⟩
    have HB2 := Lib.hid (HB1.out.trans (hb2.mono (by omega)))
    have hz2 := hb2.size
    clear hb2 hc
    have hc := box_cells HB2.out (by omega)
    go_wp2_with fail
    refine (specStarts_any _ x _ s hsz hF2.reads (by omega) (by omega)).mono ?_
    intro e w3 hst
    obtain ⟨vw, rfl, hw3, hb3⟩ := hst.oi
    clear hF2 hst
    have HB3 := Lib.hid (HB2.out.trans (hb3.mono (by omega)))
    have hz3 := hb3.size
    have HW3 := Lib.hid hw3
    clear hb3 hc hw3
    have hc := box_cells HB3.out (by omega)
    go_wp2_with fail
    refine (toSingle_any _ x _ (HV.out.keep ((HBB.out _).trans (HB3.out.mono (by omega)))) (by omega) (by omega)).mono ?_
    rintro e w4 ⟨u4, rfl, hF4, hb4⟩
    have HB4 := Lib.hid (HB3.out.trans (hb4.mono (by omega)))
    have hz4 := hb4.size
    have HF4 := Lib.hid hF4
    have HW4 := Lib.hid (HW3.out.keep hb4)
    obtain ⟨ga, ca4, gb, cb4, rfl, _⟩ := hF4
    clear hb4 hc
    have hc := box_cells HB4.out (by omega)
    have hbb4 : ∀ o, Below w4.heap.size w4 (w4.alloc o) := fun o => (Below.refl _ _).alloc (Nat.le_refl _) _
    have HBB4 := Lib.hid hbb4
    clear hbb4
    go_wp2_with fail
    refine (implStarts_any _ x _ s hsz (HF4.out.reads.keep (HBB4.out _)) (by omega) (by omega)).mono ?_
    intro e w5 hst
    obtain ⟨vg, rfl, hg5, hb5⟩ := hst.oi
    clear hst
    rw [World.size_alloc] at hb5 hg5
    have HX5 := Lib.hid hb5
    have hz5 : w4.heap.size + 1 ≤ w5.heap.size := by have := hb5.size; simpa using this
    have HG5 := Lib.hid hg5
    have HB45 : Hid (Below w4.heap.size w4 w5) := (HBB4.out _).trans (hb5.mono (by omega))
    have HB5 := Lib.hid (HB4.out.trans (HB45.out.mono (by omega)))
    have HW5 := Lib.hid (HW4.out.keep HB45.out)
    have HI5 := Lib.hid (HF4.out.i.keep HB45.out)
    clear hb5 hc hg5
    have hc := box_cells HB5.out (by omega)
    have hd := box_cells HX5.out (by omega)
    go_wp2_with fail
    refine (eqIntS_SL _ _ _ _ _ _ _ (by omega) (by omega) HG5.out.sl HW5.out.sl).mono ?_
    rintro e w' ⟨rfl, q1, rfl⟩
    rw [eqSl_refl]
    go_wp2_with fail
    go_region_held3 (fun w' => w'.cell? ⟨w.heap.size, 0, none⟩ = some va ∧ w'.cell? ⟨w.heap.size, 1, none⟩ = some vb ∧
        w'.cell? ⟨w.heap.size, 2, none⟩ = some (.int .i64 x.run) ∧ w'.cell? ⟨w.heap.size, 3, none⟩ = some (.int .i64 x.head) ∧
        w'.cell? ⟨w4.heap.size, 0, none⟩ = some (.slice (some ⟨ga, 0, none⟩) x.na ca4) ∧ w'.cell? ⟨w4.heap.size, 1, none⟩ = some (.slice (some ⟨gb, 0, none⟩) x.nb cb4) ∧
        w'.cell? ⟨w4.heap.size, 2, none⟩ = some (.int .i64 x.run) ∧ w'.cell? ⟨w4.heap.size, 3, none⟩ = some (.int .i64 x.head)) (go_keep)
      (first | (go_at_call 17; refine (toSingle_any _ x _ (HV.out.keep ((HBB.out _).trans ((below_drewN HB5.out q1).drew.mono (by omega)))) (by omega) (by omega)).mono ?_; rintro e w6 ⟨u6, rfl, hF6, hb6⟩; have hz6 : w5.heap.size ≤ w6.heap.size := hb6.size; have hc6 := box_keep (w := (w5.drewN q1).drew) hc hb6 (by simp; omega); have hd6 := box_keep (w := (w5.drewN q1).drew) hd hb6 (by simp; omega))
             | (go_at_call 19; refine (eqSingle_any _ _ x x _ (((HF4.out.reads.keep (below_drewN HB45.out q1).drew).n).keep hb6) hF6.reads.n (by omega) (by omega) (by omega) (by omega)).mono ?_; rintro e w7 ⟨rfl, hb7⟩; rw [eqSg_refl]; have hc7 := box_keep hc6 hb7 (by omega); have hd7 := box_keep hd6 hb7 (by omega)))
    have HB57 : Hid (Below w5.heap.size w5 w7) := (below_drewN (Below.refl _ w5) q1).drew.trans ((hb6.trans (hb7.mono (by simp; omega))).mono (by simp))
    have hz7 := hb7.size
    have HB7 := Lib.hid (HB5.out.trans (HB57.out.mono (by omega)))
    have HW7 := Lib.hid (HW5.out.keep HB57.out)
    have HG7 := Lib.hid (HG5.out.keep HB57.out)
    have HI7 := Lib.hid (HI5.out.keep HB57.out)
    clear hb6 hb7 hF6 hc hd hc6 hd6
    go_wp2_with fail
    refine (markSingle_any _ _ _ x 1 _ (by omega) (by omega) (by omega) (by omega) HI7.out (by omega)).mono ?_
    rintro e w8 ⟨rfl, _, hf8⟩
    have hz8 := hf8.size
    have HB8 := Lib.hid (HB7.out.trans (hf8.below (by omega) (fun k hk hs => by omega)))
    have HW8 := Lib.hid (HW7.out.frm hf8 (fun k hk hs => by have := HW7.out.range k hk; omega))
    have HG8 := Lib.hid (HG7.out.frm hf8 (fun k hk hs => by have := HG7.out.range k hk; omega))
    clear hf8 hc7 hd7
    go_wp2_with fail
    refine (eqIntS_SL _ _ _ _ _ _ _ (by omega) (by omega) HG8.out.sl HW8.out.sl).mono ?_
    rintro e w' ⟨rfl, q2, rfl⟩
    rw [eqSl_refl]
    go_wp2_with fail
    refine (markIntS_OI (w4.heap.size + 1) w5.heap.size vg _ _ 1 _ (by omega) (by omega) (by omega) (HG8.out.keep (below_drewN (Below.refl _ _) q2))).mono ?_
    rintro e w9 ⟨rfl, hm9, hf9⟩
    have hz9 : w8.heap.size ≤ w9.heap.size := hf9.size
    have hr9 := HG8.out.range
    have HB9 := Lib.hid ((below_drewN HB8.out q2).trans (hf9.below (by simp; omega) (fun k hk hs => by have := hr9 k hs; omega)))
    have HW9 := Lib.hid ((HW8.out.keep (below_drewN (Below.refl _ _) q2)).frm hf9 (fun k hk hs => by have := HW8.out.range k hk; have := hr9 k hs; omega))
    have HM9 := Lib.hid hm9
    clear hm9 hf9 hr9
    have hc9 := box_cells HB9.out (by omega)
    go_wp2_with fail
    refine (heldIntS_SL vg _ _ 1 _ (by omega) (by omega) (by omega) HM9.out.sl).mono ?_
    rintro e w' ⟨rfl, rfl⟩
    rw [heldV_yes (fun k _ => by simp)]
    go_wp2_with fail
    refine (toSingle_any _ x _ (HV.out.keep ((HBB.out _).trans (HB9.out.mono (by omega)))) (by omega) (by omega)).mono ?_
    rintro e w10 ⟨u10, rfl, hF10, hb10⟩
    have hz10 := hb10.size
    have HB10 := Lib.hid (HB9.out.trans (hb10.mono (by omega)))
    have HW10 := Lib.hid (HW9.out.keep hb10)
    have HM10 := Lib.hid (HM9.out.keep hb10)
    clear hb10 hc9
    go_wp2_with fail
    refine (implStarts_any _ x _ s hsz hF10.reads (by omega) (by omega)).mono ?_
    intro e w11 hst
    obtain ⟨vh, rfl, hh11, hb11⟩ := hst.oi
    clear hst hF10
    have hz11 := hb11.size
    have HB11 := Lib.hid (HB10.out.trans (hb11.mono (by omega)))
    have HW11 := Lib.hid (HW10.out.keep hb11)
    have HM11 := Lib.hid (HM10.out.keep hb11)
    have HH11 := Lib.hid hh11
    clear hb11 hh11
    go_wp2_with fail
    refine (eqIntS_SL _ _ _ _ _ _ _ (by omega) (by omega) HH11.out.sl HW11.out.sl).mono ?_
    rintro e w' ⟨rfl, q3, rfl⟩
    rw [eqSl_refl]
    go_wp2_with fail
    refine (heldIntS_SL vg _ _ 1 _ (by omega) (by omega) (by omega) (HM11.out.keep (below_drewN (Below.refl _ _) q3)).sl).mono ?_
    rintro e w' ⟨rfl, rfl⟩
    rw [heldV_yes (fun k _ => by simp)]
    go_wp2_with fail
    go_ret
    exact ⟨rfl, below_drewN ((HBB.out _).trans (HB11.out.mono (by omega))) _⟩
  · rw [show szSg x = -1 from if_neg hs]
    go_wp2_with fail
    go_ret
    exact ⟨rfl, (HBB.out _).trans (HB1.out.mono (by omega))⟩

theorem lawStarts_long (v : Value) (x : Sg) (w : World) (s : ByteArray) (hsz : ¬ s.size ≤ 1048576) (hs2 : s.size ≤ 9223372036854775807) (hv : SgN w v x) :
    Calls Try.prog 11 #[v, .string s] w fun e w' => e = .returned (.bool true) ∧ Below w.heap.size w w' := by
  obtain ⟨va, vb, rfl, _, _⟩ := hv
  go_enter Try.func11, Try.ntmps11
  go_wp2_with fail
  go_ret
  exact ⟨rfl, (Below.refl _ _).alloc (Nat.le_refl _) _⟩
end Go.Proofs.Ytdmofgogpdodfaa
