/-
  Parts of the proof: Jp. No condition.
-/
import Derived.Test.YtlkdmpfifpkpaaaGreatDoorV21
namespace Go.Proofs.YtlkdmpfifpkpaaaGreatDoor
open Go.RowKit
def rcS (st : Ses) (m : Int) (l : ByteArray) : Ses := { st with ms := st.ms ++ [(m, l)], ts := st.ts ++ [st.tm] }
theorem mv_ext (ms : List (Int × ByteArray)) (y : Int × ByteArray) (i : Nat) (h : i < ms.length * 2) : mvF (mvM ms) (mvS ms) i = mvF (mvM (ms ++ [y])) (mvS (ms ++ [y])) i :=
 mvF_congr (n := ms.length) (fun k hk => by unfold mvM; rw [List.getElem?_append_left hk]) (fun k hk => by unfold mvS; rw [List.getElem?_append_left hk]) i h
theorem iF_ext (l : List Int) (y : Int) (i : Nat) (h : i < l.length) : iF l i = iF (l ++ [y]) i := by unfold iF; rw [List.getElem?_append_left h]
theorem iF_cell (l : List Int) (y : Int) : ∀ j, j < 1 → [Value.int .i64 y][j]? = some (.int .i64 (iF (l ++ [y]) (l.length * 1 + j))) := fun j hj => by
 obtain rfl : j = 0 := by omega
 rw [show l.length * 1 + 0 = l.length from by omega, iF_new]
 rfl
theorem SsC.setM {z : Nat} {w w' w2 : World} {s g1 c1 g2 c2 : Nat} {vm vt vm' : Value} {st : Ses} {ms : List (Int × ByteArray)} (h : SsC z w s g1 c1 g2 c2 vm vt st) (hR : Rw z w' vm' ms.length 2 94 (mvF (mvM ms) (mvS ms))) (hF : Fr (fun q => vm.ownBlock = some q) w w') (hq : ∀ q, vm'.ownBlock = some q → vm.ownBlock = some q ∨ w.heap.size ≤ q) (he : w2 = w'.setCell ⟨s, 4, none⟩ vm') :
    SsC z w2 s g1 c1 g2 c2 vm' vt { st with ms := ms } ∧ Fr (fun q => vm.ownBlock = some q ∨ q = s) w w2 := by
  subst he
  have hs : vm.ownBlock ≠ some s := fun e => (h.dm s e).1 rfl
  have hb := h.box.fr hF hs
  have f := Fr.set w' ⟨s, 4, none⟩ vm'
  have hne : ∀ q, vm'.ownBlock = some q → q ≠ s ∧ q ≠ g1 ∧ q ≠ g2 ∧ vt.ownBlock ≠ some q := fun q hq' => by
   rcases hq q hq' with e | e
   ·exact h.dm q e
   ·have b1 := h.box.lt
    have b2 := h.bs.lt
    have b3 := h.tr.lt
    exact ⟨by omega, by omega, by omega, fun e' => by have := (h.tv.blk q e').2; omega⟩
  refine ⟨⟨?_, (h.bs.fr hF (fun e => (h.dm g1 e).2.1 rfl)).fr f (fun e => h.s1 e.symm), (h.tr.fr hF (fun e => (h.dm g2 e).2.2.1 rfl)).fr f (fun e => h.s2 e.symm), hR.fr f (fun q hq' e => (hne q hq').1 e), (h.tv.fr hF (fun q e e' => (h.dm q e').2.2.2 e)).fr f (fun q hq' e => (h.dt q hq').1 e), h.n12, h.s1, h.s2, hne, h.dt, h.z1, h.z2, h.zs⟩, (hF.mono (fun q _ e => .inl e)).trans (f.mono (fun q _ e => .inr e))⟩
  have hb2 : Bx (w'.setCell ⟨s, 4, none⟩ vm') s 56 _ := hb.set 4 vm'
  simpa using hb2
theorem SsC.setT {z : Nat} {w w' w2 : World} {s g1 c1 g2 c2 : Nat} {vm vt vt' : Value} {st : Ses} {ts : List Int} (h : SsC z w s g1 c1 g2 c2 vm vt st) (hR : Rw z w' vt' ts.length 1 3 (fun i => .int .i64 (iF ts i))) (hF : Fr (fun q => vt.ownBlock = some q) w w') (hq : ∀ q, vt'.ownBlock = some q → vt.ownBlock = some q ∨ w.heap.size ≤ q) (he : w2 = w'.setCell ⟨s, 5, none⟩ vt') :
    SsC z w2 s g1 c1 g2 c2 vm vt' { st with ts := ts } ∧ Fr (fun q => vt.ownBlock = some q ∨ q = s) w w2 := by
  subst he
  have hs : vt.ownBlock ≠ some s := fun e => (h.dt s e).1 rfl
  have hb := h.box.fr hF hs
  have f := Fr.set w' ⟨s, 5, none⟩ vt'
  have hmt : ∀ q, vm.ownBlock = some q → vt.ownBlock ≠ some q := fun q e => (h.dm q e).2.2.2
  have hne : ∀ q, vt'.ownBlock = some q → q ≠ s ∧ q ≠ g1 ∧ q ≠ g2 := fun q hq' => by
   rcases hq q hq' with e | e
   ·exact h.dt q e
   ·have b1 := h.box.lt
    have b2 := h.bs.lt
    have b3 := h.tr.lt
    exact ⟨by omega, by omega, by omega⟩
  refine ⟨⟨?_, (h.bs.fr hF (fun e => (h.dt g1 e).2.1 rfl)).fr f (fun e => h.s1 e.symm), (h.tr.fr hF (fun e => (h.dt g2 e).2.2 rfl)).fr f (fun e => h.s2 e.symm), (h.mv.fr hF (fun q e e' => hmt q e e')).fr f (fun q hq' e => (h.dm q hq').1 e), hR.fr f (fun q hq' e => (hne q hq').1 e), h.n12, h.s1, h.s2, fun q e => ⟨(h.dm q e).1, (h.dm q e).2.1, (h.dm q e).2.2.1, fun e' => ?_⟩, hne, h.z1, h.z2, h.zs⟩, (hF.mono (fun q _ e => .inl e)).trans (f.mono (fun q _ e => .inr e))⟩
  ·have hb2 : Bx (w'.setCell ⟨s, 5, none⟩ vt') s 56 _ := hb.set 5 vt'
   simpa using hb2
  ·rcases hq q e' with h' | h'
   ·exact hmt q e h'
   ·have := (h.mv.blk q e).2
    omega
theorem rec_end {z s g1 c1 g2 c2 : Nat} {vm vt vm' vt' : Value} {st st' : Ses} {own : Nat → Prop} {w w3 w4 : World} {a b : Nat} (h : SsC z w s g1 c1 g2 c2 vm vt st) (hO : ∀ q, own q ↔ ownS s g1 g2 vm vt q) (h4 : SsC z w4 s g1 c1 g2 c2 vm' vt' st') (f3 : Fr (fun q => vm.ownBlock = some q ∨ q = s) w w3) (f4 : Fr (fun q => vt.ownBlock = some q ∨ q = s) w3 w4)
    (ho : ∀ q, vm'.ownBlock = some q → vm.ownBlock = some q ∨ a ≤ q) (ho' : ∀ q, vt'.ownBlock = some q → vt.ownBlock = some q ∨ b ≤ q) (ha : w.heap.size ≤ a) (hb : w.heap.size ≤ b) :
    ∃ own', StS z st' own' w4 s ∧ Fr own w w4 ∧ ∀ q, own' q → own q ∨ w.heap.size ≤ q := by
  have _ := h
  refine ⟨_, ⟨g1, c1, g2, c2, vm', vt', h4, fun _ => Iff.rfl⟩, (f3.mono (fun q _ e => (hO q).2 ?_)).trans (f4.mono (fun q _ e => (hO q).2 ?_)), fun q hq => ?_⟩
  ·rcases e with e | e
   ·exact .inr (.inr (.inr (.inl e)))
   ·exact .inl e
  ·rcases e with e | e
   ·exact .inr (.inr (.inr (.inr e)))
   ·exact .inl e
  ·rcases hq with e | e | e | e | e
   ·exact .inl ((hO q).2 (.inl e))
   ·exact .inl ((hO q).2 (.inr (.inl e)))
   ·exact .inl ((hO q).2 (.inr (.inr (.inl e))))
   ·rcases ho q e with e | e
    ·exact .inl ((hO q).2 (.inr (.inr (.inr (.inl e)))))
    ·right; omega
   ·rcases ho' q e with e | e
    ·exact .inl ((hO q).2 (.inr (.inr (.inr (.inr e)))))
    ·right; omega
set_option linter.unusedSimpArgs false in
set_option maxRecDepth 100000 in
set_option maxHeartbeats 2000000 in
theorem record_any (z s : Nat) (m : Int) (l : ByteArray) (st : Ses) (own : Nat → Prop) (w : World) (hz : z ≤ w.heap.size) (hS : StS z st own w s) (hms : st.ms.length ≤ 1000) (hts : st.ts.length ≤ 1000) :
    Calls Tryz.prog 122 #[.pointer (some ⟨s, 0, none⟩), .agg #[.int .i64 m, .string l]] w fun e w' => e = .returned (.tuple #[]) ∧ ∃ own', StS z (rcS st m l) own' w' s ∧ Fr own w w' ∧ ∀ q, own' q → own q ∨ w.heap.size ≤ q := by
  obtain ⟨g1, c1, g2, c2, vm, vt, h1, h2⟩ := hS
  have HO := Lib.hid h2
  have HB0 : Hid (Below w.heap.size w (w.alloc (.cells #[.int .i64 m, .string l] 94))) := below_all _ _
  have HX0 : Hid (Bx (w.alloc (.cells #[.int .i64 m, .string l] 94)) w.heap.size 94 #[.int .i64 m, .string l]) := Bx.new _ _ _
  have HS := Lib.hid (h1.fr (Fr.of_below HB0.out (fun _ => False)) (fun _ _ h => h))
  have hzs : w.heap.size ≠ s := fun e => by have := h1.box.lt; omega
  have HSW := Lib.hid h1
  clear h1 h2
  go_enter Tryz.func122, Tryz.ntmps122
  go_wp2_with fail
  have HD0 : Hid (∀ W : World, Below W.heap.size W W.drew) := fun W => (Below.refl _ W).drew
  generalize hw1 : w.alloc (.cells #[.int .i64 m, .string l] 94) = w1 at *
  clear hw1
  obtain ⟨am, cm, hvm⟩ := HS.out.mv.shape
  obtain ⟨at', ct, hvt⟩ := HS.out.tv.shape
  subst hvm hvt
  have hvb : ∀ q, (Value.slice am st.ms.length cm).ownBlock = some q → q < w.heap.size := fun q e => (HSW.out.mv.blk q e).2
  have hvs : (Value.slice am st.ms.length cm).ownBlock ≠ some s := fun e => (HSW.out.dm s e).1 rfl
  have HCC : Hid (∀ W, Fr (fun q => (Value.slice am st.ms.length cm).ownBlock = some q ∨ q = s) w1 W → W.cell? ⟨w.heap.size, 0, none⟩ = some (.int .i64 m) ∧ W.cell? ⟨w.heap.size, 1, none⟩ = some (.string l)) := fun W h => ⟨(HX0.out.fr h (fun e => by rcases e with e | e; have := hvb _ e; omega; exact hzs e)).cell 0, (HX0.out.fr h (fun e => by rcases e with e | e; have := hvb _ e; omega; exact hzs e)).cell 1⟩
  refine wp_region_held_drew (S := fun W => W.cell? ⟨w.heap.size, 0, none⟩ = some (.int .i64 m) ∧ W.cell? ⟨w.heap.size, 1, none⟩ = some (.string l)) (by kernel_rfl) (HCC.out _ (Fr.of_below (HD0.out _) _)) (fun hHeld => ?_)
  have HB2 : Hid (Below w1.heap.size w1 (w1.drew.alloc (.cells #[.int .i64 m, .string l] 94))) := (HD0.out w1).alloc (HD0.out w1).size _
  have HS2 := Lib.hid (HS.out.fr (Fr.of_below (HD0.out _) (fun _ => False)) (fun _ _ h => h))
  have HR2 := Lib.hid (HS2.out.mv.congr (mv_ext st.ms (m, l)))
  have hz2 : z ≤ w1.drew.heap.size := by have := HB0.out.size; exact Nat.le_trans hz this
  have hs4 : w1.drew.cell? ⟨s, 4, none⟩ = some (.slice am st.ms.length cm) := HS2.out.box.cell 4
  have ha4 : (w1.alloc (.cells #[.int .i64 m, .string l] 94)).cell? ⟨s, 4, none⟩ = some (.slice am st.ms.length cm) := (HS.out.box.below (below_all _ _) HS.out.box.lt).cell 4
  refine tkR 0 ?_
  refine tkR 1 ?_
  refine tkR 2 ?_
  refine tkR 3 ?_
  refine tkR 5 ?_
  refine wpAnyH_ready (rs := [4, 6]) (by kernel_rfl) (by simp) ?_
  refine c1R (fun K hK => ?_) ?_
  ·go_simp
   skip
   refine oR hK ?_ (fun hHeld => ?_)
   ·try dsimp only
    exact hHeld
   clear hK K
   refine r1R 6 (fun K hK => ?_)
   go_simp
   skip
   refine oR hK ?_ (fun hHeld => ?_)
   ·try dsimp only
    exact HCC.out _ (Fr.of_below HB2.out _)
   clear hK K
   clear hs4 ha4
   refine r1R 7 (fun K hK => ?_)
   refine step_pushW (w := w1.drew) elMvL rfl (.tmp 8) (.tmp 10) rfl HR2.out rfl [.int .i64 m, .string l] rfl (mvF_new st.ms (m, l)) (fun _ _ => mvF_one _ _ _) (by omega) (by omega) hz2 ?_
   intro vm2 w2 hr2 hf2 ho2
   obtain ⟨am2, cm2, hvm2⟩ := hr2.shape
   subst hvm2
   have HP2 := Lib.hid (HS2.out.setM (w2 := w2.setCell ⟨s, 4, none⟩ (.slice am2 (st.ms.length + 1) cm2)) (ms := st.ms ++ [(m, l)]) (by rw [List.length_append]; exact hr2) hf2 ho2 rfl)
   have HF2 := Lib.hid ((Fr.of_below (HD0.out w1) (fun q => (Value.slice am st.ms.length cm).ownBlock = some q)).trans hf2)
   have HOm := Lib.hid ho2
   clear hr2 hf2 ho2
   refine hK.out _ _ (HCC.out _ (HF2.out.mono (fun _ _ h => .inl h))) (fun hHeld => ?_)
   clear hK K
   try simp only [Act.put, List.setIfInBounds_toArray, List.set_cons_zero, List.set_cons_succ]
   refine tkR 8 ?_
   refine tkR 9 ?_
   have hbx := (HS.out.box.fr HF2.out hvs)
   have hbl := hbx.lt
   have hbf := hbx.free
   have hs5 : w2.cell? ⟨s, 4, none⟩ = some (.slice am st.ms.length cm) := hbx.cell 4
   clear hbx
   refine r1R 10 (fun K hK => ?_)
   go_simp
   skip
   refine oR hK ?_ (fun hHeld => ?_)
   ·try dsimp only
    exact HCC.out _ ((HF2.out.mono (fun _ _ h => .inl h)).trans ((Fr.set w2 ⟨s, 4, none⟩ (.slice am2 (st.ms.length + 1) cm2)).mono (fun _ _ h => .inr h)))
   clear hK K
   refine wpAnyH_done (by kernel_rfl) ?_ _
   clear hHeld hbl hbf hs5 HS2 HR2 hz2 HB2 HX0 HCC
   have HF3 := Lib.hid ((Fr.of_below HB0.out (fun q => (Value.slice am st.ms.length cm).ownBlock = some q ∨ q = s)).trans ((Fr.of_below (HD0.out w1) _).trans HP2.out.2))
   have HP3 := Lib.hid HP2.out.1
   clear HP2 HF2
   generalize w2.setCell ⟨s, 4, none⟩ (.slice am2 (st.ms.length + 1) cm2) = w3 at *
   have hvb3 : ∀ q, (Value.slice at' st.ts.length ct).ownBlock = some q → q < w3.heap.size := fun q e => (HP3.out.tv.blk q e).2
   have hvs3 : (Value.slice at' st.ts.length ct).ownBlock ≠ some s := fun e => (HP3.out.dt s e).1 rfl
   have HC3 : Hid (∀ W, Fr (fun q => (Value.slice at' st.ts.length ct).ownBlock = some q) w3 W → W.cell? ⟨s, 3, none⟩ = some (.int .i64 st.tm)) := fun W h => (HP3.out.box.fr h hvs3).cell 3
   go_wp2_with fail
   refine wp_region_held_drew (S := fun W => W.cell? ⟨s, 3, none⟩ = some (.int .i64 st.tm)) (by kernel_rfl) (HC3.out _ (Fr.of_below (HD0.out _) _)) (fun hHeld => ?_)
   have HB4 : Hid (Below w3.heap.size w3 (w3.drew.alloc (.cells #[.int .i64 st.tm] 3))) := (HD0.out w3).alloc (HD0.out w3).size _
   have HS4 := Lib.hid (HP3.out.fr (Fr.of_below (HD0.out _) (fun _ => False)) (fun _ _ h => h))
   have HR4 := Lib.hid (HS4.out.tv.congr (g := fun i => .int .i64 (iF (st.ts ++ [st.tm]) i)) (fun i hi => by rw [iF_ext st.ts st.tm i (by simpa using hi)]))
   have hz3 : z ≤ w3.drew.heap.size := by have := HF3.out.size; exact Nat.le_trans hz this
   have hs4 : w3.drew.cell? ⟨s, 5, none⟩ = some (.slice at' st.ts.length ct) := HS4.out.box.cell 5
   have ha4 : (w3.alloc (.cells #[.int .i64 st.tm] 3)).cell? ⟨s, 5, none⟩ = some (.slice at' st.ts.length ct) := (HP3.out.box.below (below_all _ _) HP3.out.box.lt).cell 5
   have ht3 : w3.drew.cell? ⟨s, 3, none⟩ = some (.int .i64 st.tm) := HS4.out.box.cell 3
   refine tkR 0 ?_
   refine tkR 1 ?_
   refine tkR 2 ?_
   refine tkR 3 ?_
   refine tkR 5 ?_
   refine tkR 6 ?_
   refine tkR 7 ?_
   refine tkR 8 ?_
   refine wpAnyH_ready (rs := [4, 9]) (by kernel_rfl) (by simp) ?_
   refine c1R (fun K hK => ?_) ?_
   ·go_simp
    skip
    refine oR hK ?_ (fun hHeld => ?_)
    ·try dsimp only
     exact hHeld
    clear hK K
    refine r1R 9 (fun K hK => ?_)
    go_simp
    skip
    refine oR hK ?_ (fun hHeld => ?_)
    ·try dsimp only
     exact HC3.out _ (Fr.of_below HB4.out _)
    clear hK K
    clear hs4 ha4 ht3
    refine r1R 10 (fun K hK => ?_)
    refine step_pushW (w := w3.drew) elInt rfl (.tmp 18) (.tmp 23) rfl HR4.out rfl [.int .i64 st.tm] rfl (iF_cell st.ts st.tm) (fun _ _ => rfl) (by dsimp only; omega) (by omega) hz3 ?_
    intro vt2 w4 hr4 hf4 ho4
    obtain ⟨at2, ct2, hvt2⟩ := hr4.shape
    subst hvt2
    have HP5 := Lib.hid (HS4.out.setT (w2 := w4.setCell ⟨s, 5, none⟩ (.slice at2 (st.ts.length + 1) ct2)) (ts := st.ts ++ [st.tm]) (by rw [List.length_append]; exact hr4) hf4 ho4 rfl)
    have HF4 := Lib.hid ((Fr.of_below (HD0.out w3) (fun q => (Value.slice at' st.ts.length ct).ownBlock = some q)).trans hf4)
    have HOt := Lib.hid ho4
    clear hr4 hf4 ho4
    refine hK.out _ _ (HC3.out _ HF4.out) (fun hHeld => ?_)
    clear hK K
    try simp only [Act.put, List.setIfInBounds_toArray, List.set_cons_zero, List.set_cons_succ]
    refine tkR 11 ?_
    refine tkR 12 ?_
    have hbx := (HP3.out.box.fr HF4.out hvs3)
    have hbl := hbx.lt
    have hbf := hbx.free
    have hs5 : w4.cell? ⟨s, 5, none⟩ = some (.slice at' st.ts.length ct) := hbx.cell 5
    clear hbx
    refine r1R 13 (fun K hK => ?_)
    go_simp
    skip
    refine oR hK ?_ (fun hHeld => ?_)
    ·try dsimp only
     exact HP5.out.1.box.cell 3
    clear hK K
    refine wpAnyH_done (by kernel_rfl) ?_ _
    clear hHeld hbl hbf hs5
    go_wp2_with fail
    go_end0
    exact ⟨rfl, rec_end HSW.out HO.out HP5.out.1 HF3.out ((Fr.of_below (HD0.out w3) _).trans HP5.out.2) HOm.out HOt.out (by have := HB0.out.size; exact this) (by have := HF3.out.size; exact this)⟩
   ·refine c1R (fun K hK => ?_) ?_
    ·go_simp
     skip
     refine oR hK ?_ (fun hHeld => ?_)
     ·try dsimp only
      exact HC3.out _ (Fr.of_below HB4.out _)
     clear hK K
     refine r1R 4 (fun K hK => ?_)
     go_simp
     skip
     refine oR hK ?_ (fun hHeld => ?_)
     ·try dsimp only
      exact hHeld
     clear hK K
     clear hs4 ha4 ht3
     refine r1R 10 (fun K hK => ?_)
     refine step_pushW (w := w3.drew) elInt rfl (.tmp 18) (.tmp 23) rfl HR4.out rfl [.int .i64 st.tm] rfl (iF_cell st.ts st.tm) (fun _ _ => rfl) (by dsimp only; omega) (by omega) hz3 ?_
     intro vt2 w4 hr4 hf4 ho4
     obtain ⟨at2, ct2, hvt2⟩ := hr4.shape
     subst hvt2
     have HP5 := Lib.hid (HS4.out.setT (w2 := w4.setCell ⟨s, 5, none⟩ (.slice at2 (st.ts.length + 1) ct2)) (ts := st.ts ++ [st.tm]) (by rw [List.length_append]; exact hr4) hf4 ho4 rfl)
     have HF4 := Lib.hid ((Fr.of_below (HD0.out w3) (fun q => (Value.slice at' st.ts.length ct).ownBlock = some q)).trans hf4)
     have HOt := Lib.hid ho4
     clear hr4 hf4 ho4
     refine hK.out _ _ (HC3.out _ HF4.out) (fun hHeld => ?_)
     clear hK K
     try simp only [Act.put, List.setIfInBounds_toArray, List.set_cons_zero, List.set_cons_succ]
     refine tkR 11 ?_
     refine tkR 12 ?_
     have hbx := (HP3.out.box.fr HF4.out hvs3)
     have hbl := hbx.lt
     have hbf := hbx.free
     have hs5 : w4.cell? ⟨s, 5, none⟩ = some (.slice at' st.ts.length ct) := hbx.cell 5
     clear hbx
     refine r1R 13 (fun K hK => ?_)
     go_simp
     skip
     refine oR hK ?_ (fun hHeld => ?_)
     ·try dsimp only
      exact HP5.out.1.box.cell 3
     clear hK K
     refine wpAnyH_done (by kernel_rfl) ?_ _
     clear hHeld hbl hbf hs5
     go_wp2_with fail
     go_end0
     exact ⟨rfl, rec_end HSW.out HO.out HP5.out.1 HF3.out ((Fr.of_below (HD0.out w3) _).trans HP5.out.2) HOm.out HOt.out (by have := HB0.out.size; exact this) (by have := HF3.out.size; exact this)⟩
    ·exact AllReadyH.nil
  ·refine c1R (fun K hK => ?_) ?_
   ·go_simp
    skip
    refine oR hK ?_ (fun hHeld => ?_)
    ·try dsimp only
     exact HCC.out _ (Fr.of_below HB2.out _)
    clear hK K
    refine r1R 4 (fun K hK => ?_)
    go_simp
    skip
    refine oR hK ?_ (fun hHeld => ?_)
    ·try dsimp only
     exact hHeld
    clear hK K
    clear hs4 ha4
    refine r1R 7 (fun K hK => ?_)
    refine step_pushW (w := w1.drew) elMvL rfl (.tmp 8) (.tmp 10) rfl HR2.out rfl [.int .i64 m, .string l] rfl (mvF_new st.ms (m, l)) (fun _ _ => mvF_one _ _ _) (by omega) (by omega) hz2 ?_
    intro vm2 w2 hr2 hf2 ho2
    obtain ⟨am2, cm2, hvm2⟩ := hr2.shape
    subst hvm2
    have HP2 := Lib.hid (HS2.out.setM (w2 := w2.setCell ⟨s, 4, none⟩ (.slice am2 (st.ms.length + 1) cm2)) (ms := st.ms ++ [(m, l)]) (by rw [List.length_append]; exact hr2) hf2 ho2 rfl)
    have HF2 := Lib.hid ((Fr.of_below (HD0.out w1) (fun q => (Value.slice am st.ms.length cm).ownBlock = some q)).trans hf2)
    have HOm := Lib.hid ho2
    clear hr2 hf2 ho2
    refine hK.out _ _ (HCC.out _ (HF2.out.mono (fun _ _ h => .inl h))) (fun hHeld => ?_)
    clear hK K
    try simp only [Act.put, List.setIfInBounds_toArray, List.set_cons_zero, List.set_cons_succ]
    refine tkR 8 ?_
    refine tkR 9 ?_
    have hbx := (HS.out.box.fr HF2.out hvs)
    have hbl := hbx.lt
    have hbf := hbx.free
    have hs5 : w2.cell? ⟨s, 4, none⟩ = some (.slice am st.ms.length cm) := hbx.cell 4
    clear hbx
    refine r1R 10 (fun K hK => ?_)
    go_simp
    skip
    refine oR hK ?_ (fun hHeld => ?_)
    ·try dsimp only
     exact HCC.out _ ((HF2.out.mono (fun _ _ h => .inl h)).trans ((Fr.set w2 ⟨s, 4, none⟩ (.slice am2 (st.ms.length + 1) cm2)).mono (fun _ _ h => .inr h)))
    clear hK K
    refine wpAnyH_done (by kernel_rfl) ?_ _
    clear hHeld hbl hbf hs5 HS2 HR2 hz2 HB2 HX0 HCC
    have HF3 := Lib.hid ((Fr.of_below HB0.out (fun q => (Value.slice am st.ms.length cm).ownBlock = some q ∨ q = s)).trans ((Fr.of_below (HD0.out w1) _).trans HP2.out.2))
    have HP3 := Lib.hid HP2.out.1
    clear HP2 HF2
    generalize w2.setCell ⟨s, 4, none⟩ (.slice am2 (st.ms.length + 1) cm2) = w3 at *
    have hvb3 : ∀ q, (Value.slice at' st.ts.length ct).ownBlock = some q → q < w3.heap.size := fun q e => (HP3.out.tv.blk q e).2
    have hvs3 : (Value.slice at' st.ts.length ct).ownBlock ≠ some s := fun e => (HP3.out.dt s e).1 rfl
    have HC3 : Hid (∀ W, Fr (fun q => (Value.slice at' st.ts.length ct).ownBlock = some q) w3 W → W.cell? ⟨s, 3, none⟩ = some (.int .i64 st.tm)) := fun W h => (HP3.out.box.fr h hvs3).cell 3
    go_wp2_with fail
    refine wp_region_held_drew (S := fun W => W.cell? ⟨s, 3, none⟩ = some (.int .i64 st.tm)) (by kernel_rfl) (HC3.out _ (Fr.of_below (HD0.out _) _)) (fun hHeld => ?_)
    have HB4 : Hid (Below w3.heap.size w3 (w3.drew.alloc (.cells #[.int .i64 st.tm] 3))) := (HD0.out w3).alloc (HD0.out w3).size _
    have HS4 := Lib.hid (HP3.out.fr (Fr.of_below (HD0.out _) (fun _ => False)) (fun _ _ h => h))
    have HR4 := Lib.hid (HS4.out.tv.congr (g := fun i => .int .i64 (iF (st.ts ++ [st.tm]) i)) (fun i hi => by rw [iF_ext st.ts st.tm i (by simpa using hi)]))
    have hz3 : z ≤ w3.drew.heap.size := by have := HF3.out.size; exact Nat.le_trans hz this
    have hs4 : w3.drew.cell? ⟨s, 5, none⟩ = some (.slice at' st.ts.length ct) := HS4.out.box.cell 5
    have ha4 : (w3.alloc (.cells #[.int .i64 st.tm] 3)).cell? ⟨s, 5, none⟩ = some (.slice at' st.ts.length ct) := (HP3.out.box.below (below_all _ _) HP3.out.box.lt).cell 5
    have ht3 : w3.drew.cell? ⟨s, 3, none⟩ = some (.int .i64 st.tm) := HS4.out.box.cell 3
    refine tkR 0 ?_
    refine tkR 1 ?_
    refine tkR 2 ?_
    refine tkR 3 ?_
    refine tkR 5 ?_
    refine tkR 6 ?_
    refine tkR 7 ?_
    refine tkR 8 ?_
    refine wpAnyH_ready (rs := [4, 9]) (by kernel_rfl) (by simp) ?_
    refine c1R (fun K hK => ?_) ?_
    ·go_simp
     skip
     refine oR hK ?_ (fun hHeld => ?_)
     ·try dsimp only
      exact hHeld
     clear hK K
     refine r1R 9 (fun K hK => ?_)
     go_simp
     skip
     refine oR hK ?_ (fun hHeld => ?_)
     ·try dsimp only
      exact HC3.out _ (Fr.of_below HB4.out _)
     clear hK K
     clear hs4 ha4 ht3
     refine r1R 10 (fun K hK => ?_)
     refine step_pushW (w := w3.drew) elInt rfl (.tmp 18) (.tmp 23) rfl HR4.out rfl [.int .i64 st.tm] rfl (iF_cell st.ts st.tm) (fun _ _ => rfl) (by dsimp only; omega) (by omega) hz3 ?_
     intro vt2 w4 hr4 hf4 ho4
     obtain ⟨at2, ct2, hvt2⟩ := hr4.shape
     subst hvt2
     have HP5 := Lib.hid (HS4.out.setT (w2 := w4.setCell ⟨s, 5, none⟩ (.slice at2 (st.ts.length + 1) ct2)) (ts := st.ts ++ [st.tm]) (by rw [List.length_append]; exact hr4) hf4 ho4 rfl)
     have HF4 := Lib.hid ((Fr.of_below (HD0.out w3) (fun q => (Value.slice at' st.ts.length ct).ownBlock = some q)).trans hf4)
     have HOt := Lib.hid ho4
     clear hr4 hf4 ho4
     refine hK.out _ _ (HC3.out _ HF4.out) (fun hHeld => ?_)
     clear hK K
     try simp only [Act.put, List.setIfInBounds_toArray, List.set_cons_zero, List.set_cons_succ]
     refine tkR 11 ?_
     refine tkR 12 ?_
     have hbx := (HP3.out.box.fr HF4.out hvs3)
     have hbl := hbx.lt
     have hbf := hbx.free
     have hs5 : w4.cell? ⟨s, 5, none⟩ = some (.slice at' st.ts.length ct) := hbx.cell 5
     clear hbx
     refine r1R 13 (fun K hK => ?_)
     go_simp
     skip
     refine oR hK ?_ (fun hHeld => ?_)
     ·try dsimp only
      exact HP5.out.1.box.cell 3
     clear hK K
     refine wpAnyH_done (by kernel_rfl) ?_ _
     clear hHeld hbl hbf hs5
     go_wp2_with fail
     go_end0
     exact ⟨rfl, rec_end HSW.out HO.out HP5.out.1 HF3.out ((Fr.of_below (HD0.out w3) _).trans HP5.out.2) HOm.out HOt.out (by have := HB0.out.size; exact this) (by have := HF3.out.size; exact this)⟩
    ·refine c1R (fun K hK => ?_) ?_
     ·go_simp
      skip
      refine oR hK ?_ (fun hHeld => ?_)
      ·try dsimp only
       exact HC3.out _ (Fr.of_below HB4.out _)
      clear hK K
      refine r1R 4 (fun K hK => ?_)
      go_simp
      skip
      refine oR hK ?_ (fun hHeld => ?_)
      ·try dsimp only
       exact hHeld
      clear hK K
      clear hs4 ha4 ht3
      refine r1R 10 (fun K hK => ?_)
      refine step_pushW (w := w3.drew) elInt rfl (.tmp 18) (.tmp 23) rfl HR4.out rfl [.int .i64 st.tm] rfl (iF_cell st.ts st.tm) (fun _ _ => rfl) (by dsimp only; omega) (by omega) hz3 ?_
      intro vt2 w4 hr4 hf4 ho4
      obtain ⟨at2, ct2, hvt2⟩ := hr4.shape
      subst hvt2
      have HP5 := Lib.hid (HS4.out.setT (w2 := w4.setCell ⟨s, 5, none⟩ (.slice at2 (st.ts.length + 1) ct2)) (ts := st.ts ++ [st.tm]) (by rw [List.length_append]; exact hr4) hf4 ho4 rfl)
      have HF4 := Lib.hid ((Fr.of_below (HD0.out w3) (fun q => (Value.slice at' st.ts.length ct).ownBlock = some q)).trans hf4)
      have HOt := Lib.hid ho4
      clear hr4 hf4 ho4
      refine hK.out _ _ (HC3.out _ HF4.out) (fun hHeld => ?_)
      clear hK K
      try simp only [Act.put, List.setIfInBounds_toArray, List.set_cons_zero, List.set_cons_succ]
      refine tkR 11 ?_
      refine tkR 12 ?_
      have hbx := (HP3.out.box.fr HF4.out hvs3)
      have hbl := hbx.lt
      have hbf := hbx.free
      have hs5 : w4.cell? ⟨s, 5, none⟩ = some (.slice at' st.ts.length ct) := hbx.cell 5
      clear hbx
      refine r1R 13 (fun K hK => ?_)
      go_simp
      skip
      refine oR hK ?_ (fun hHeld => ?_)
      ·try dsimp only
       exact HP5.out.1.box.cell 3
      clear hK K
      refine wpAnyH_done (by kernel_rfl) ?_ _
      clear hHeld hbl hbf hs5
      go_wp2_with fail
      go_end0
      exact ⟨rfl, rec_end HSW.out HO.out HP5.out.1 HF3.out ((Fr.of_below (HD0.out w3) _).trans HP5.out.2) HOm.out HOt.out (by have := HB0.out.size; exact this) (by have := HF3.out.size; exact this)⟩
     ·exact AllReadyH.nil
   ·exact AllReadyH.nil
end Go.Proofs.YtlkdmpfifpkpaaaGreatDoor

