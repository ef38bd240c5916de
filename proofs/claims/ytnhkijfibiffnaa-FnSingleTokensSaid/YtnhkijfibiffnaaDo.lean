/-
  Walks of the draws of orders: bounds alone.
-/
import Derived.Test.YtnhkijfibiffnaaDs
import Derived.Test.YtnhkijfibiffnaaOd
namespace Go.Proofs.Ytnhkijfibiffnaa
open Go.RowKit
attribute [local go_sem ↓] Go.wp_at_zero Go.wp_at_succ

theorem of_any (R m g n c : Nat) (F : Nat → ByteArray) (w : World) (hn : 1 ≤ n ∧ n ≤ 100) (hm : m ≤ 100000) (hr : RdL w R m) (hgR : g ≠ R) (hl : g < w.heap.size) (hc : ∀ k, k < n → w.cell? ⟨g, k, none⟩ = some (.string (F k))) (hF : ∀ k, k < n → (F k).size ≤ 1) :
    Calls Try.prog 84 #[.pointer (some ⟨R, 0, none⟩), .slice (some ⟨g, 0, none⟩) n c] w fun e w' => ∃ s : ByteArray, e = .returned (.string s) ∧ s.size ≤ 1 ∧ RdL w' R (m + 1) ∧ w.grownBy w' (some R) := by
  have HC := Lib.hid hc
  have HF := Lib.hid hF
  clear hc hF
  go_enter Try.func84, Try.ntmps84
  go_wp2_with fail
  refine (pickN_any R m n _ (by omega) (by omega) hr).mono ?_
  rintro e w1 ⟨k, rfl, hk, hr1, hg1⟩
  have hck : w1.cell? ⟨g, k, none⟩ = some (.string (F k)) := (gcell hg1 g k hl hgR).trans (HC.out k hk)
  have HR1 := Lib.hid hr1
  have HG1 := Lib.hid hg1
  clear hr1 hg1
  go_wp2_with fail
  go_ret
  exact ⟨F k, rfl, HF.out k hk, HR1.out, HG1.out⟩

theorem app_size (a b : ByteArray) : (a ++ b).size = a.size + b.size := by
  show (a.append b).size = _
  exact ByteArray.size_append
/-- a drawn text -/
def DStr (R M L : Nat) (w : World) (e : Ending) (w' : World) : Prop := ∃ s : ByteArray, e = .returned (.string s) ∧ s.size ≤ L ∧ RdL w' R M ∧ w.grownBy w' (some R)
set_option maxRecDepth 100000 in
set_option maxHeartbeats 1000000 in
theorem l92Dirs_any (R m n : Nat) (w : World) (hn : n ≤ 100) (hm : m ≤ 10000) (hr : RdL w R m) :
    Calls Try.prog 82 #[.pointer (some ⟨R, 0, none⟩), .int .i64 n] w (DStr R (m + n + 3) (n + 1) w) := by
  have hlR := hr.lt
  have HR0 := Lib.hid hr
  clear hr
  go_enter Try.func82, Try.ntmps82
  go_wp2_with fail
  refine (pickN_any R m (n + 1) _ (by omega) (by omega) HR0.out).mono ?_
  rintro e w1 ⟨q, rfl, hq, hr1, hg1⟩
  have HR1 := Lib.hid hr1
  have HG1 := Lib.hid hg1
  clear hr1 hg1
  go_wp2_with fail
  go_loopw [5, 7] (fun so si wr => ∃ (k : Nat) (s : ByteArray), k ≤ q ∧ si = .int .i64 k ∧ so = .string s ∧ s.size ≤ k ∧ RdL wr R (m + 1 + k) ∧ w.grownBy wr (some R)) (fun _ si _ => q - (intOf si).toNat)
  case atStart => exact ⟨0, ⟨#[]⟩, Nat.zero_le _, rfl, rfl, Nat.le_refl 0, HR1.out, HG1.out⟩
  case round =>
    obtain ⟨k, s, hk, rfl, rfl, hs, hr, hb⟩ := hrel
    have HR := Lib.hid hr
    have HB := Lib.hid hb
    have hlr := hr.lt
    have hss : s.size ≤ 1000 := by omega
    clear hr hb
    by_cases hlt : k < q
    · go_wp2_with fail
      refine (of_any R (m + 1 + k) wr.heap.size 2 2 (fun i => if i = 0 then ⟨#[85]⟩ else ⟨#[68]⟩) _ (by omega) (by omega) (HR.out.alloc _) (by omega) (by simp) (fun i hi => by
        rw [box_new]
        have : i = 0 ∨ i = 1 := by omega
        rcases this with rfl | rfl <;> rfl) (fun i hi => by split <;> decide)).mono ?_
      rintro e w2 ⟨t, rfl, ht, hr2, hg2⟩
      have HR2 := Lib.hid hr2
      have HB2 := Lib.hid (grownBy_trans (grownBy_trans HB.out (World.grownBy_alloc wr _ _)) hg2)
      clear hr2 hg2
      go_wp2_with fail
      go_roundw
      case rel => exact ⟨k + 1, s ++ t, by omega, by go_num, rfl, by rw [app_size]; omega, HR2.out, HB2.out⟩
      case measure => simp [intOf]; omega
    · obtain rfl : k = q := by omega
      go_wp2_with fail
      refine (pickN_any R (m + 1 + k) 20 _ (by omega) (by omega) HR.out).mono ?_
      rintro e w2 ⟨u, rfl, hu, hr2, hg2⟩
      have HR2 := Lib.hid hr2
      have HB2 := Lib.hid (grownBy_trans HB.out hg2)
      have hl2 := hr2.lt
      clear hr2 hg2
      by_cases h0 : u = 0
      · subst h0
        go_wp2_with fail
        refine (of_any R (m + 1 + k + 1) w2.heap.size 3 3 (fun i => if i = 0 then ⟨#[120]⟩ else if i = 1 then ⟨#[117]⟩ else ⟨#[32]⟩) _ (by omega) (by omega) (HR2.out.alloc _) (by omega) (by simp) (fun i hi => by
          rw [box_new]
          have : i = 0 ∨ i = 1 ∨ i = 2 := by omega
          rcases this with rfl | rfl | rfl <;> rfl) (fun i hi => by split <;> (try split) <;> decide)).mono ?_
        rintro e w3 ⟨t, rfl, ht, hr3, hg3⟩
        have HR3 := Lib.hid hr3
        have HB3 := Lib.hid (grownBy_trans (grownBy_trans HB2.out (World.grownBy_alloc w2 _ _)) hg3)
        clear hr3 hg3
        go_wp2_with fail
        go_ret
        exact ⟨s ++ t, rfl, by rw [app_size]; omega, HR3.out.mono (by omega), HB3.out⟩
      · have h0' : ((u : Int) == 0) = false := by simp; omega
        clear h0
        go_wp2_with fail
        go_ret
        exact ⟨s, rfl, by omega, HR2.out.mono (by omega), HB2.out⟩

/-- what l92Order has made so far -/
structure OrM (w0 : World) (R : Nat) (wr : World) (S : Nat) (ga ca gb cb : Nat) (x : Sg) (M : Nat) : Prop where
  res : Bx wr w0.heap.size 25 #[.slice none 0 0, .slice none 0 0, .int .i64 0, .int .i64 0]
  box : Bx wr S 25 #[.slice (some ⟨ga, 0, none⟩) x.na ca, .slice (some ⟨gb, 0, none⟩) x.nb cb, .int .i64 x.run, .int .i64 x.head]
  F : SgF (w0.heap.size + 1) wr (.agg #[.slice (some ⟨ga, 0, none⟩) x.na ca, .slice (some ⟨gb, 0, none⟩) x.nb cb, .int .i64 x.run, .int .i64 x.head]) x
  rd : RdL wr R M
  lR : R < w0.heap.size
  lS : w0.heap.size < S
  gr : w0.grownBy wr (some R)
section
variable {w0 wr w' : World} {R S ga ca gb cb M M' : Nat} {x : Sg}
theorem OrM.pick (h : OrM w0 R wr S ga ca gb cb x M) (hr : RdL w' R M') (hg : wr.grownBy w' (some R)) : OrM w0 R w' S ga ca gb cb x M' := by
  have := h.lR
  have := h.lS
  exact ⟨h.res.kept hg (by omega), h.box.kept hg (by omega), h.F.grown hg (by omega), hr, h.lR, h.lS, grownBy_trans h.gr hg⟩
theorem OrM.below (h : OrM w0 R wr S ga ca gb cb x M) {B : Nat} (hb : Below B wr w') (hB : B = wr.heap.size) : OrM w0 R w' S ga ca gb cb x M := by
  subst hB
  exact ⟨h.res.below hb h.res.lt, h.box.below hb h.box.lt, h.F.keep hb, h.rd.keep hb, h.lR, h.lS, grow_below h.gr hb h.gr.size⟩
theorem OrM.drew (h : OrM w0 R wr S ga ca gb cb x M) : OrM w0 R wr.drew S ga ca gb cb x M := h.below (below_drewN (Below.refl _ _) 1) rfl
theorem OrM.drewN (h : OrM w0 R wr S ga ca gb cb x M) (q : Nat) : OrM w0 R (wr.drewN q) S ga ca gb cb x M := h.below (below_drewN (Below.refl _ _) q) rfl
end
/-- a drawn single line and a text -/
def DOr (R M : Nat) (w : World) (e : Ending) (w' : World) : Prop :=
  ∃ v x s, e = .returned (.tuple #[v, .string s]) ∧ SgF w.heap.size w' v x ∧ SgL x ∧ s.size ≤ 12 ∧ RdL w' R M ∧ w.grownBy w' (some R)
theorem OrM.done {w0 wr : World} {R S ga ca gb cb M M' : Nat} {x : Sg} (h : OrM w0 R wr S ga ca gb cb x M) (hM : M ≤ M') (hL : SgL x) {s : ByteArray} (hs : s.size ≤ 12) {v0 v1 v2 v3 : Value} :
    DOr R M' w0 (.returned (.tuple #[.agg #[.slice (some ⟨ga, 0, none⟩) x.na ca, .slice (some ⟨gb, 0, none⟩) x.nb cb, .int .i64 x.run, .int .i64 x.head], .string s]))
      ((((wr.setCell ⟨w0.heap.size, 0, none⟩ v0).setCell ⟨w0.heap.size, 1, none⟩ v1).setCell ⟨w0.heap.size, 2, none⟩ v2).setCell ⟨w0.heap.size, 3, none⟩ v3) := by
  have h3 := h.lR
  exact ⟨_, x, s, rfl, ((((h.F.setOther (by dsimp only; omega) _).setOther (by dsimp only; omega) _).setOther (by dsimp only; omega) _).setOther (by dsimp only; omega) _).mono (by omega), hL, hs, ((((h.rd.set h3).set h3).set h3).set h3).mono hM,
    grow_new (grow_new (grow_new (grow_new h.gr (grownBy_setCell _ _ _ _) (Nat.le_refl _)) (grownBy_setCell _ _ _ _) (Nat.le_refl _)) (grownBy_setCell _ _ _ _) (Nat.le_refl _)) (grownBy_setCell _ _ _ _) (Nat.le_refl _)⟩

theorem nthS_size (x : Sg) (r : Int) : (nthS x r).size ≤ x.na + x.nb := by
  cases h : nthOk x r
  · rw [nthS_no h]; exact Nat.zero_le _
  · rw [nthS_yes h, strOf_size]
    unfold nthFull
    rw [nthL_length]
    exact Nat.le_refl _
theorem many_bd {x : Sg} : -1 ≤ manyV x ∧ manyV x ≤ 4096 := by
  cases hs : sgOk x
  · rw [manyV_no hs]; omega
  · rw [manyV_yes hs]; have := sgOk_le hs; have := pasc_le x.na x.nb (by omega); omega
set_option maxRecDepth 100000 in
set_option maxHeartbeats 2000000 in
theorem l92Order_any (R m : Nat) (w : World) (hm : m ≤ 1000) (hr : RdL w R m) :
    Calls Try.prog 71 #[.pointer (some ⟨R, 0, none⟩)] w (DOr R (m + 24) w) := by
  have hlR := hr.lt
  have HR0 := Lib.hid hr
  clear hr
  go_enter Try.func71, Try.ntmps71
  go_wp2_with fail
  refine (l92Single_any R m _ (by omega) (HR0.out.alloc _)).mono ?_
  rintro e w1 ⟨v, x, rfl, hF, hna, hnb, hrh, hr1, hg1⟩
  have HF := Lib.hid hF
  have HLL : Hid (SgL x) := ⟨hna, hnb, ⟨hrh.1, hrh.2.1⟩, hrh.2.2⟩
  have hl1 : w.heap.size + 1 ≤ w1.heap.size := by have := hg1.size; simpa using this
  obtain ⟨ga, ca, gb, cb, rfl, _⟩ := hF
  have HM1 : Hid (OrM w R (w1.alloc (.cells #[.slice (some ⟨ga, 0, none⟩) x.na ca, .slice (some ⟨gb, 0, none⟩) x.nb cb, .int .i64 x.run, .int .i64 x.head] 25)) w1.heap.size ga ca gb cb x (m + 16)) :=
    ⟨((Bx.new w _ _).kept hg1 (by omega)).alloc _, Bx.new _ _ _, (HF.out.mono (by simp)).keep (below_all _ _), hr1.alloc _, hlR, by omega, grownBy_trans (grownBy_trans (World.grownBy_alloc _ _ _) hg1) (World.grownBy_alloc _ _ _)⟩
  clear hr1 hg1
  go_wp2_with fail
  refine (specMany_any _ x _ HM1.out.F.reads (by omega) (by omega)).mono ?_
  rintro e w2 ⟨rfl, hb2⟩
  have HM2 := Lib.hid (HM1.out.below hb2 rfl)
  clear hb2
  have hmb := many_bd (x := x)
  have hxc := HM2.out.box.cell
  have hne : w.heap.size ≠ w1.heap.size := by omega
  have hne2 : w1.heap.size ≠ w.heap.size := by omega
  by_cases hlow : manyV x < 1
  · go_wp2_with fail
    go_region_held3 (fun w' => w'.cell? ⟨w1.heap.size, 0, none⟩ = some (.slice (some ⟨ga, 0, none⟩) x.na ca) ∧ w'.cell? ⟨w1.heap.size, 1, none⟩ = some (.slice (some ⟨gb, 0, none⟩) x.nb cb) ∧
        w'.cell? ⟨w1.heap.size, 2, none⟩ = some (.int .i64 x.run) ∧ w'.cell? ⟨w1.heap.size, 3, none⟩ = some (.int .i64 x.head)) (go_keep)
      ((go_at_call 82; go_must (refine Calls.mono (l92Dirs_any R (m + 16) 4 _ (by omega) (by omega) (by exact HM2.out.rd.drew)) ?_); rintro e wa ⟨s, rfl, hs, hra, hga⟩; go_must (have HMa := Lib.hid (HM2.out.drew.pick hra hga)); have hxa := HMa.out.box.cell; have hrsa := HMa.out.res.free; have hrca := HMa.out.res.cell; clear hra hga))
    go_wp2_with fail
    exact bodyPost_ret (v := .tuple #[.agg #[.slice (some ⟨ga, 0, none⟩) x.na ca, .slice (some ⟨gb, 0, none⟩) x.nb cb, .int .i64 x.run, .int .i64 x.head], .string s]) (by simp [results, Try.results71, go_sem, hrca]) rfl (HMa.out.done (by omega) HLL.out (by omega))
  · go_wp2_with fail
    refine (pickN_any R (m + 16) 12 _ (by omega) (by omega) HM2.out.rd).mono ?_
    rintro e w3 ⟨u, rfl, hu, hr3, hg3⟩
    have HM3 := Lib.hid (HM2.out.pick hr3 hg3)
    clear hr3 hg3 hxc
    have hxc := HM3.out.box.cell
    by_cases h0 : u = 0
    · subst h0
      go_wp2_with fail
      go_region_held3 (fun w' => w'.cell? ⟨w1.heap.size, 0, none⟩ = some (.slice (some ⟨ga, 0, none⟩) x.na ca) ∧ w'.cell? ⟨w1.heap.size, 1, none⟩ = some (.slice (some ⟨gb, 0, none⟩) x.nb cb) ∧
          w'.cell? ⟨w1.heap.size, 2, none⟩ = some (.int .i64 x.run) ∧ w'.cell? ⟨w1.heap.size, 3, none⟩ = some (.int .i64 x.head)) (go_keep)
        ((go_at_call 82; go_must (refine Calls.mono (l92Dirs_any R (m + 16 + 1) 4 _ (by omega) (by omega) (by exact HM3.out.rd.drew)) ?_); rintro e wa ⟨s, rfl, hs, hra, hga⟩; go_must (have HMa := Lib.hid (HM3.out.drew.pick hra hga)); have hxa := HMa.out.box.cell; have hrsa := HMa.out.res.free; have hrca := HMa.out.res.cell; clear hra hga))
      go_wp2_with fail
      exact bodyPost_ret (v := .tuple #[.agg #[.slice (some ⟨ga, 0, none⟩) x.na ca, .slice (some ⟨gb, 0, none⟩) x.nb cb, .int .i64 x.run, .int .i64 x.head], .string s]) (by simp [results, Try.results71, go_sem, hrca]) rfl (HMa.out.done (by omega) HLL.out (by omega))
    · have h0' : ((u : Int) == 0) = false := by simp; omega
      have hok : sgOk x = true := by
        cases hs : sgOk x
        · rw [manyV_no hs] at hlow; omega
        · rfl
      have HS := Lib.hid hok
      have hmv : manyV x = (pasc x.na x.nb : Int) := manyV_yes hok
      have hP := pasc_pos x.na x.nb
      have hP2 := pasc_le x.na x.nb (by omega)
      obtain ⟨P, hPe⟩ : ∃ P, P = pasc x.na x.nb := ⟨_, rfl⟩
      rw [← hPe] at hmv hP hP2
      rw [hmv]
      have HPE := Lib.hid hPe
      clear h0 hok hmv hPe hmb hlow
      have hp1 : ¬ P = 0 := by omega
      have hp2 : (1 : Int) ≤ (P : Int) := by omega
      have hp3 : ¬ ((P : Int) = 0) := by omega
      go_wp2_with fail
      go_region_held3 (fun w' => w'.cell? ⟨w1.heap.size, 0, none⟩ = some (.slice (some ⟨ga, 0, none⟩) x.na ca) ∧ w'.cell? ⟨w1.heap.size, 1, none⟩ = some (.slice (some ⟨gb, 0, none⟩) x.nb cb) ∧
          w'.cell? ⟨w1.heap.size, 2, none⟩ = some (.int .i64 x.run) ∧ w'.cell? ⟨w1.heap.size, 3, none⟩ = some (.int .i64 x.head)) (go_keep)
        (first | (go_at_call 62; go_must (refine Calls.mono (pickN_any R (m + 16 + 1) 1000 _ (by omega) (by omega) (by exact HM3.out.rd.drew)) ?_); rintro e wa ⟨y, rfl, hy, hra, hga⟩; obtain ⟨r, hr⟩ : ∃ r, r = y % P := ⟨_, rfl⟩; have hrP : r < P := (by rw [hr]; exact Nat.mod_lt _ (by omega)); have hr1 : ((y : Int)).tmod (P : Int) = (r : Int) := (by rw [hr, Int.tmod_eq_emod_of_nonneg (by omega)]; rfl); have hr2 : ((y : Int)) % (P : Int) = (r : Int) := (by rw [hr]; rfl); clear hr; go_must (have HMa := Lib.hid (HM3.out.drew.pick hra hga)); have hxa := HMa.out.box.cell; clear hra hga)
               | (go_at_call 20; go_must (refine Calls.mono (specNth_any _ x _ (r : Int) (by omega) HMa.out.F.reads (by omega) (by omega)) ?_); rintro e wb ⟨rfl, hbb⟩; go_must (have HMb := Lib.hid (HMa.out.below hbb rfl)); have hxb := HMb.out.box.cell; clear hbb))
      have hsz := nthS_size x (r : Int)
      have hrsb := HMb.out.res.free
      have hrcb := HMb.out.res.cell
      go_wp2_with fail
      exact bodyPost_ret (v := .tuple #[.agg #[.slice (some ⟨ga, 0, none⟩) x.na ca, .slice (some ⟨gb, 0, none⟩) x.nb cb, .int .i64 x.run, .int .i64 x.head], .string (nthS x (r : Int))]) (by simp [results, Try.results71, go_sem, hrcb]) rfl (HMb.out.done (by omega) HLL.out (by omega))

set_option maxHeartbeats 1000000 in
theorem drawStarts_any (ao : Option Addr) (n c : Nat) (w : World) (hnc : n ≤ c) (hn : n ≤ 9223372036854775807) (hB : BSl w ao n) :
    Calls Try.prog 34 #[.slice ao n c] w fun e w' => ∃ v x s, e = .returned (.tuple #[v, .string s]) ∧ SgF w.heap.size w' v x ∧ SgL x ∧ s.size ≤ 12 ∧ Below w.heap.size w w' := by
  have hbb : ∀ a, Below w.heap.size w (w.alloc a) := fun a => below_all w a
  have HBS := Lib.hid (fun a => hB.keep (hbb a))
  have HBB := Lib.hid hbb
  clear hB hbb
  go_enter Try.func34, Try.ntmps34
  go_wp2_with fail
  refine (open_any ao n c _ hn hnc (HBS.out _)).mono ?_
  rintro e w1 ⟨R, rfl, hR, hr1, hb1⟩
  rw [World.size_alloc] at hR hb1
  have hbx := Lib.hid ((Bx.new w _ _).below hb1 (by omega))
  have HB1 := Lib.hid hb1
  have HR1 := Lib.hid hr1
  have hz1 : w.heap.size + 1 ≤ w1.heap.size := by have := hb1.size; simpa using this
  clear hb1 hr1
  go_wp2_with fail
  refine (l92Order_any R 0 _ (by omega) HR1.out).mono ?_
  rintro e w2 ⟨v, x, s, rfl, hF, hL, hs, hr2, hg2⟩
  have HF := Lib.hid hF
  have HL := Lib.hid hL
  have hb2 := (HBB.out _).trans (HB1.out.mono (by omega))
  have HB2 := Lib.hid (hb2.trans (below_of_grown hg2 (by omega) (by omega)))
  have hbx2 := hbx.out.kept hg2 (by omega)
  have hxc := hbx2.cell
  have hxf := hbx2.free
  obtain ⟨ga, ca, gb, cb, rfl, _⟩ := hF
  clear hg2 hr2 hL hb2 hbx2
  go_wp2_with fail
  exact bodyPost_ret (v := .tuple #[.agg #[.slice (some ⟨ga, 0, none⟩) x.na ca, .slice (some ⟨gb, 0, none⟩) x.nb cb, .int .i64 x.run, .int .i64 x.head], .string s]) (by simp [results, Try.results34, go_sem, hxc]) rfl ⟨_, x, s, rfl, (((((HF.out.mono (base' := w.heap.size + 1) (by omega)).setOther (by dsimp only; omega) _).setOther (by dsimp only; omega) _).setOther (by dsimp only; omega) _).setOther (by dsimp only; omega) _).mono (by omega), HL.out, hs, (((HB2.out.setCell (by dsimp only; omega) _).setCell (by dsimp only; omega) _).setCell (by dsimp only; omega) _).setCell (by dsimp only; omega) _⟩

set_option maxHeartbeats 1000000 in
theorem drawWait_any (ao : Option Addr) (n c : Nat) (w : World) (hnc : n ≤ c) (hn : n ≤ 9223372036854775807) (hB : BSl w ao n) :
    Calls Try.prog 49 #[.slice ao n c] w fun e w' => ∃ v x s, e = .returned (.tuple #[v, .string s]) ∧ SgF w.heap.size w' v x ∧ SgL x ∧ s.size ≤ 12 ∧ Below w.heap.size w w' := by
  have hbb : ∀ a, Below w.heap.size w (w.alloc a) := fun a => below_all w a
  have HBS := Lib.hid (fun a => hB.keep (hbb a))
  have HBB := Lib.hid hbb
  clear hB hbb
  go_enter Try.func49, Try.ntmps49
  go_wp2_with fail
  refine (open_any ao n c _ hn hnc (HBS.out _)).mono ?_
  rintro e w1 ⟨R, rfl, hR, hr1, hb1⟩
  rw [World.size_alloc] at hR hb1
  have hbx := Lib.hid ((Bx.new w _ _).below hb1 (by omega))
  have HB1 := Lib.hid hb1
  have HR1 := Lib.hid hr1
  have hz1 : w.heap.size + 1 ≤ w1.heap.size := by have := hb1.size; simpa using this
  clear hb1 hr1
  go_wp2_with fail
  refine (l92Order_any R 0 _ (by omega) HR1.out).mono ?_
  rintro e w2 ⟨v, x, s, rfl, hF, hL, hs, hr2, hg2⟩
  have HF := Lib.hid hF
  have HL := Lib.hid hL
  have hb2 := (HBB.out _).trans (HB1.out.mono (by omega))
  have HB2 := Lib.hid (hb2.trans (below_of_grown hg2 (by omega) (by omega)))
  have hbx2 := hbx.out.kept hg2 (by omega)
  have hxc := hbx2.cell
  have hxf := hbx2.free
  obtain ⟨ga, ca, gb, cb, rfl, _⟩ := hF
  clear hg2 hr2 hL hb2 hbx2
  go_wp2_with fail
  exact bodyPost_ret (v := .tuple #[.agg #[.slice (some ⟨ga, 0, none⟩) x.na ca, .slice (some ⟨gb, 0, none⟩) x.nb cb, .int .i64 x.run, .int .i64 x.head], .string s]) (by simp [results, Try.results49, go_sem, hxc]) rfl ⟨_, x, s, rfl, (((((HF.out.mono (base' := w.heap.size + 1) (by omega)).setOther (by dsimp only; omega) _).setOther (by dsimp only; omega) _).setOther (by dsimp only; omega) _).setOther (by dsimp only; omega) _).mono (by omega), HL.out, hs, (((HB2.out.setCell (by dsimp only; omega) _).setCell (by dsimp only; omega) _).setCell (by dsimp only; omega) _).setCell (by dsimp only; omega) _⟩

set_option maxHeartbeats 1000000 in
theorem drawEnd_any (ao : Option Addr) (n c : Nat) (w : World) (hnc : n ≤ c) (hn : n ≤ 9223372036854775807) (hB : BSl w ao n) :
    Calls Try.prog 40 #[.slice ao n c] w fun e w' => ∃ v x s, e = .returned (.tuple #[v, .string s]) ∧ SgF w.heap.size w' v x ∧ SgL x ∧ s.size ≤ 12 ∧ Below w.heap.size w w' := by
  have hbb : ∀ a, Below w.heap.size w (w.alloc a) := fun a => below_all w a
  have HBS := Lib.hid (fun a => hB.keep (hbb a))
  have HBB := Lib.hid hbb
  clear hB hbb
  go_enter Try.func40, Try.ntmps40
  go_wp2_with fail
  refine (open_any ao n c _ hn hnc (HBS.out _)).mono ?_
  rintro e w1 ⟨R, rfl, hR, hr1, hb1⟩
  rw [World.size_alloc] at hR hb1
  have hbx := Lib.hid ((Bx.new w _ _).below hb1 (by omega))
  have HB1 := Lib.hid hb1
  have HR1 := Lib.hid hr1
  have hz1 : w.heap.size + 1 ≤ w1.heap.size := by have := hb1.size; simpa using this
  clear hb1 hr1
  go_wp2_with fail
  refine (l92Order_any R 0 _ (by omega) HR1.out).mono ?_
  rintro e w2 ⟨v, x, s, rfl, hF, hL, hs, hr2, hg2⟩
  have HF := Lib.hid hF
  have HL := Lib.hid hL
  have hb2 := (HBB.out _).trans (HB1.out.mono (by omega))
  have HB2 := Lib.hid (hb2.trans (below_of_grown hg2 (by omega) (by omega)))
  have hbx2 := hbx.out.kept hg2 (by omega)
  have hxc := hbx2.cell
  have hxf := hbx2.free
  obtain ⟨ga, ca, gb, cb, rfl, _⟩ := hF
  clear hg2 hr2 hL hb2 hbx2
  go_wp2_with fail
  exact bodyPost_ret (v := .tuple #[.agg #[.slice (some ⟨ga, 0, none⟩) x.na ca, .slice (some ⟨gb, 0, none⟩) x.nb cb, .int .i64 x.run, .int .i64 x.head], .string s]) (by simp [results, Try.results40, go_sem, hxc]) rfl ⟨_, x, s, rfl, (((((HF.out.mono (base' := w.heap.size + 1) (by omega)).setOther (by dsimp only; omega) _).setOther (by dsimp only; omega) _).setOther (by dsimp only; omega) _).setOther (by dsimp only; omega) _).mono (by omega), HL.out, hs, (((HB2.out.setCell (by dsimp only; omega) _).setCell (by dsimp only; omega) _).setCell (by dsimp only; omega) _).setCell (by dsimp only; omega) _⟩

set_option maxHeartbeats 1000000 in
theorem drawRank_any (ao : Option Addr) (n c : Nat) (w : World) (hnc : n ≤ c) (hn : n ≤ 9223372036854775807) (hB : BSl w ao n) :
    Calls Try.prog 44 #[.slice ao n c] w fun e w' => ∃ v x s, e = .returned (.tuple #[v, .string s]) ∧ SgF w.heap.size w' v x ∧ SgL x ∧ s.size ≤ 12 ∧ Below w.heap.size w w' := by
  have hbb : ∀ a, Below w.heap.size w (w.alloc a) := fun a => below_all w a
  have HBS := Lib.hid (fun a => hB.keep (hbb a))
  have HBB := Lib.hid hbb
  clear hB hbb
  go_enter Try.func44, Try.ntmps44
  go_wp2_with fail
  refine (open_any ao n c _ hn hnc (HBS.out _)).mono ?_
  rintro e w1 ⟨R, rfl, hR, hr1, hb1⟩
  rw [World.size_alloc] at hR hb1
  have hbx := Lib.hid ((Bx.new w _ _).below hb1 (by omega))
  have HB1 := Lib.hid hb1
  have HR1 := Lib.hid hr1
  have hz1 : w.heap.size + 1 ≤ w1.heap.size := by have := hb1.size; simpa using this
  clear hb1 hr1
  go_wp2_with fail
  refine (l92Order_any R 0 _ (by omega) HR1.out).mono ?_
  rintro e w2 ⟨v, x, s, rfl, hF, hL, hs, hr2, hg2⟩
  have HF := Lib.hid hF
  have HL := Lib.hid hL
  have hb2 := (HBB.out _).trans (HB1.out.mono (by omega))
  have HB2 := Lib.hid (hb2.trans (below_of_grown hg2 (by omega) (by omega)))
  have hbx2 := hbx.out.kept hg2 (by omega)
  have hxc := hbx2.cell
  have hxf := hbx2.free
  obtain ⟨ga, ca, gb, cb, rfl, _⟩ := hF
  clear hg2 hr2 hL hb2 hbx2
  go_wp2_with fail
  exact bodyPost_ret (v := .tuple #[.agg #[.slice (some ⟨ga, 0, none⟩) x.na ca, .slice (some ⟨gb, 0, none⟩) x.nb cb, .int .i64 x.run, .int .i64 x.head], .string s]) (by simp [results, Try.results44, go_sem, hxc]) rfl ⟨_, x, s, rfl, (((((HF.out.mono (base' := w.heap.size + 1) (by omega)).setOther (by dsimp only; omega) _).setOther (by dsimp only; omega) _).setOther (by dsimp only; omega) _).setOther (by dsimp only; omega) _).mono (by omega), HL.out, hs, (((HB2.out.setCell (by dsimp only; omega) _).setCell (by dsimp only; omega) _).setCell (by dsimp only; omega) _).setCell (by dsimp only; omega) _⟩
end Go.Proofs.Ytnhkijfibiffnaa
