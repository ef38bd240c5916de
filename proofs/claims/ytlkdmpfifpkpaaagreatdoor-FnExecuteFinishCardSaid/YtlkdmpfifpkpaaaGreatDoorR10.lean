/-
  Parts of the proof of fnExecuteFinish_proved: Jp Jq Ki Kj Kk Ha Jr Js Ie If Ju. No condition.
-/
import Derived.WalkKit
import Derived.WalkSpells
import Derived.WalkLawsBesides
import Derived.Lib.Hide
import Derived.BigQuiet
import Derived.Deep.QuietTactic
import Derived.Deep.RegionHeld3
import Derived.Deep.DeepFit
import Derived.Shelf.RegionOpen
import Derived.Maps.AppendAt
import Derived.Lib.IndexLaws
import Derived.Deep.DeepCutAuto
import Derived.Deep.RegionWith
import Derived.Lib.Strings
import Derived.Laws.BitsAllLaws
import Derived.RangeFuncNested
import Derived.RangeFuncBound
import Derived.RangeFuncCalls
import Derived.RangeFuncLeaves
import Derived.RangeFuncBox
import Derived.Shelf.Abstract
import Derived.OwnWalkIn
import Derived.TacticsInMore
import Derived.LoopNIn
import Derived.LoopIn
import Derived.Recover
import Derived.Defers
import Derived.Lib.Builder
import Derived.Lib.AppendStr
import Derived.Lib.UnsafeStr
import Derived.Lib.Slices
import Derived.Laws.Externs
import Derived.Lib.SlBytesRow
import Derived.Test.YtlkdmpfifpkpaaaGreatDoorChecked
import Derived.Shelf.Strings.Builder1
import Derived.Shelf.Strings.Builder2
import Derived.Shelf.Strings.OnBuilder
import Derived.Shelf.Strings.BuilderF
import Derived.Shelf.Strconv.Itoa0
import Derived.Shelf.Strconv.Itoa1
import Derived.Shelf.LaysM
import Derived.Shelf.Strconv.Itoa2
import Derived.Shelf.Strconv.Itoa3
import Derived.Shelf.Strings.Search1
import Derived.Shelf.Strings.Search2
import Derived.Shelf.Strings.Search3
import Derived.Shelf.Strings.Count
import Derived.Shelf.Strings.Shaped
import Derived.Shelf.Strings.Split
import Derived.Shelf.Strings.SplitShaped
import Derived.Shelf.Unicode.DecodeSlow
import Derived.Test.YtlkdmpfifpkpaaaGreatDoorProg
import Derived.OrdersIn
import Derived.OrdersHeld
import Derived.Deep.RegionHeld
import Derived.Lib.SplitLaws
import Derived.Lib.ItoaLen
import Derived.Lib.ItoaMem
import Derived.Lib.AppendIntMem
import Derived.Test.YtlkdmpfifpkpaaaGreatDoorR01
import Derived.Test.YtlkdmpfifpkpaaaGreatDoorR02
import Derived.Test.YtlkdmpfifpkpaaaGreatDoorR03
import Derived.Test.YtlkdmpfifpkpaaaGreatDoorR04
import Derived.Test.YtlkdmpfifpkpaaaGreatDoorR05
import Derived.Test.YtlkdmpfifpkpaaaGreatDoorR06
import Derived.Test.YtlkdmpfifpkpaaaGreatDoorR07
import Derived.Test.YtlkdmpfifpkpaaaGreatDoorR08
import Derived.Test.YtlkdmpfifpkpaaaGreatDoorR09
namespace Go.Proofs.YtlkdmpfifpkpaaaGreatDoor
open Go.RowKit

/-- the session behind a recorded move -/
def rcS (st : Ses) (m : Int) (l : ByteArray) : Ses := { st with ms := st.ms ++ [(m, l)], ts := st.ts ++ [st.tm] }
theorem mv_ext (ms : List (Int × ByteArray)) (y : Int × ByteArray) (i : Nat) (h : i < ms.length * 2) : mvF (mvM ms) (mvS ms) i = mvF (mvM (ms ++ [y])) (mvS (ms ++ [y])) i :=
  mvF_congr (n := ms.length) (fun k hk => by unfold mvM; rw [List.getElem?_append_left hk]) (fun k hk => by unfold mvS; rw [List.getElem?_append_left hk]) i h
theorem iF_ext (l : List Int) (y : Int) (i : Nat) (h : i < l.length) : iF l i = iF (l ++ [y]) i := by unfold iF; rw [List.getElem?_append_left h]
theorem iF_cell (l : List Int) (y : Int) : ∀ j, j < 1 → [Value.int .i64 y][j]? = some (.int .i64 (iF (l ++ [y]) (l.length * 1 + j))) := fun j hj => by
  obtain rfl : j = 0 := by omega
  rw [show l.length * 1 + 0 = l.length from by omega, iF_new]
  rfl
/-- a session whose row of moves was replaced -/
theorem SsC.setM {z : Nat} {w w' w2 : World} {s g1 c1 g2 c2 : Nat} {vm vt vm' : Value} {st : Ses} {ms : List (Int × ByteArray)} (h : SsC z w s g1 c1 g2 c2 vm vt st) (hR : Rw z w' vm' ms.length 2 94 (mvF (mvM ms) (mvS ms))) (hF : Fr (fun q => vm.ownBlock = some q) w w') (hq : ∀ q, vm'.ownBlock = some q → vm.ownBlock = some q ∨ w.heap.size ≤ q) (he : w2 = w'.setCell ⟨s, 4, none⟩ vm') :
    SsC z w2 s g1 c1 g2 c2 vm' vt { st with ms := ms } ∧ Fr (fun q => vm.ownBlock = some q ∨ q = s) w w2 := by
  subst he
  have hs : vm.ownBlock ≠ some s := fun e => (h.dm s e).1 rfl
  have hb := h.box.fr hF hs
  have f := Fr.set w' ⟨s, 4, none⟩ vm'
  have hne : ∀ q, vm'.ownBlock = some q → q ≠ s ∧ q ≠ g1 ∧ q ≠ g2 ∧ vt.ownBlock ≠ some q := fun q hq' => by
    rcases hq q hq' with e | e
    · exact h.dm q e
    · have b1 := h.box.lt
      have b2 := h.bs.lt
      have b3 := h.tr.lt
      exact ⟨by omega, by omega, by omega, fun e' => by have := (h.tv.blk q e').2; omega⟩
  refine ⟨⟨?_, (h.bs.fr hF (fun e => (h.dm g1 e).2.1 rfl)).fr f (fun e => h.s1 e.symm), (h.tr.fr hF (fun e => (h.dm g2 e).2.2.1 rfl)).fr f (fun e => h.s2 e.symm), hR.fr f (fun q hq' e => (hne q hq').1 e), (h.tv.fr hF (fun q e e' => (h.dm q e').2.2.2 e)).fr f (fun q hq' e => (h.dt q hq').1 e), h.n12, h.s1, h.s2, hne, h.dt, h.z1, h.z2, h.zs⟩, (hF.mono (fun q _ e => .inl e)).trans (f.mono (fun q _ e => .inr e))⟩
  have hb2 : Bx (w'.setCell ⟨s, 4, none⟩ vm') s 56 _ := hb.set 4 vm'
  simpa using hb2
/-- a session whose row of times was replaced -/
theorem SsC.setT {z : Nat} {w w' w2 : World} {s g1 c1 g2 c2 : Nat} {vm vt vt' : Value} {st : Ses} {ts : List Int} (h : SsC z w s g1 c1 g2 c2 vm vt st) (hR : Rw z w' vt' ts.length 1 3 (fun i => .int .i64 (iF ts i))) (hF : Fr (fun q => vt.ownBlock = some q) w w') (hq : ∀ q, vt'.ownBlock = some q → vt.ownBlock = some q ∨ w.heap.size ≤ q) (he : w2 = w'.setCell ⟨s, 5, none⟩ vt') :
    SsC z w2 s g1 c1 g2 c2 vm vt' { st with ts := ts } ∧ Fr (fun q => vt.ownBlock = some q ∨ q = s) w w2 := by
  subst he
  have hs : vt.ownBlock ≠ some s := fun e => (h.dt s e).1 rfl
  have hb := h.box.fr hF hs
  have f := Fr.set w' ⟨s, 5, none⟩ vt'
  have hmt : ∀ q, vm.ownBlock = some q → vt.ownBlock ≠ some q := fun q e => (h.dm q e).2.2.2
  have hne : ∀ q, vt'.ownBlock = some q → q ≠ s ∧ q ≠ g1 ∧ q ≠ g2 := fun q hq' => by
    rcases hq q hq' with e | e
    · exact h.dt q e
    · have b1 := h.box.lt
      have b2 := h.bs.lt
      have b3 := h.tr.lt
      exact ⟨by omega, by omega, by omega⟩
  refine ⟨⟨?_, (h.bs.fr hF (fun e => (h.dt g1 e).2.1 rfl)).fr f (fun e => h.s1 e.symm), (h.tr.fr hF (fun e => (h.dt g2 e).2.2 rfl)).fr f (fun e => h.s2 e.symm), (h.mv.fr hF (fun q e e' => hmt q e e')).fr f (fun q hq' e => (h.dm q hq').1 e), hR.fr f (fun q hq' e => (hne q hq').1 e), h.n12, h.s1, h.s2, fun q e => ⟨(h.dm q e).1, (h.dm q e).2.1, (h.dm q e).2.2.1, fun e' => ?_⟩, hne, h.z1, h.z2, h.zs⟩, (hF.mono (fun q _ e => .inl e)).trans (f.mono (fun q _ e => .inr e))⟩
  · have hb2 : Bx (w'.setCell ⟨s, 5, none⟩ vt') s 56 _ := hb.set 5 vt'
    simpa using hb2
  · rcases hq q e' with h' | h'
    · exact hmt q e h'
    · have := (h.mv.blk q e).2
      omega
theorem rec_end {z s g1 c1 g2 c2 : Nat} {vm vt vm' vt' : Value} {st st' : Ses} {own : Nat → Prop} {w w3 w4 : World} {a b : Nat} (h : SsC z w s g1 c1 g2 c2 vm vt st) (hO : ∀ q, own q ↔ ownS s g1 g2 vm vt q) (h4 : SsC z w4 s g1 c1 g2 c2 vm' vt' st') (f3 : Fr (fun q => vm.ownBlock = some q ∨ q = s) w w3) (f4 : Fr (fun q => vt.ownBlock = some q ∨ q = s) w3 w4)
    (ho : ∀ q, vm'.ownBlock = some q → vm.ownBlock = some q ∨ a ≤ q) (ho' : ∀ q, vt'.ownBlock = some q → vt.ownBlock = some q ∨ b ≤ q) (ha : w.heap.size ≤ a) (hb : w.heap.size ≤ b) :
    ∃ own', StS z st' own' w4 s ∧ Fr own w w4 ∧ ∀ q, own' q → own q ∨ w.heap.size ≤ q := by
  have _ := h
  refine ⟨_, ⟨g1, c1, g2, c2, vm', vt', h4, fun _ => Iff.rfl⟩, (f3.mono (fun q _ e => (hO q).2 ?_)).trans (f4.mono (fun q _ e => (hO q).2 ?_)), fun q hq => ?_⟩
  · rcases e with e | e
    · exact .inr (.inr (.inr (.inl e)))
    · exact .inl e
  · rcases e with e | e
    · exact .inr (.inr (.inr (.inr e)))
    · exact .inl e
  · rcases hq with e | e | e | e | e
    · exact .inl ((hO q).2 (.inl e))
    · exact .inl ((hO q).2 (.inr (.inl e)))
    · exact .inl ((hO q).2 (.inr (.inr (.inl e))))
    · rcases ho q e with e | e
      · exact .inl ((hO q).2 (.inr (.inr (.inr (.inl e)))))
      · right; omega
    · rcases ho' q e with e | e
      · exact .inl ((hO q).2 (.inr (.inr (.inr (.inr e)))))
      · right; omega
set_option linter.unusedSimpArgs false in
set_option maxRecDepth 100000 in
set_option maxHeartbeats 2000000 in
theorem record_any (z s : Nat) (m : Int) (l : ByteArray) (st : Ses) (own : Nat → Prop) (w : World) (hz : z ≤ w.heap.size) (hS : StS z st own w s) (hms : st.ms.length ≤ 1000) (hts : st.ts.length ≤ 1000) :
    Calls Tryz.prog 122 #[.pointer (some ⟨s, 0, none⟩), .agg #[.int .i64 m, .string l]] w fun e w' => e = .returned (.tuple #[]) ∧ ∃ own', StS z (rcS st m l) own' w' s ∧ Fr own w w' ∧ ∀ q, own' q → own q ∨ w.heap.size ≤ q := by
  obtain ⟨g1, c1, g2, c2, vm, vt, h1, h2⟩ := hS
  have HO := Lib.hid h2
  have HB0 : Hid (Below w.heap.size w (w.alloc (.cells #[.int .i64 m, .string l] 94))) := below_all _ _
  have HX0 : Hid (Bx (w.alloc (.cells #[.int .i64 m, .string l] 94)) w.heap.size 94 #[.int .i64 m, .string l]) := Bx.new _ _ _
  have HS := Lib.hid (h1.fr (Fr.of_below HB0.out (fun _ => False)) (fun _ _ h => h))
  have hzs : w.heap.size ≠ s := fun e => by have := h1.box.lt; omega
  have HSW := Lib.hid h1
  clear h1 h2
  go_enter Tryz.func122, Tryz.ntmps122
  go_wp2_with fail
  have HD0 : Hid (∀ W : World, Below W.heap.size W W.drew) := fun W => (Below.refl _ W).drew
  generalize hw1 : w.alloc (.cells #[.int .i64 m, .string l] 94) = w1 at *
  clear hw1
  obtain ⟨am, cm, hvm⟩ := HS.out.mv.shape
  obtain ⟨at', ct, hvt⟩ := HS.out.tv.shape
  subst hvm hvt
  have hvb : ∀ q, (Value.slice am st.ms.length cm).ownBlock = some q → q < w.heap.size := fun q e => (HSW.out.mv.blk q e).2
  have hvs : (Value.slice am st.ms.length cm).ownBlock ≠ some s := fun e => (HSW.out.dm s e).1 rfl
  have HCC : Hid (∀ W, Fr (fun q => (Value.slice am st.ms.length cm).ownBlock = some q ∨ q = s) w1 W → W.cell? ⟨w.heap.size, 0, none⟩ = some (.int .i64 m) ∧ W.cell? ⟨w.heap.size, 1, none⟩ = some (.string l)) := fun W h => ⟨(HX0.out.fr h (fun e => by rcases e with e | e; have := hvb _ e; omega; exact hzs e)).cell 0, (HX0.out.fr h (fun e => by rcases e with e | e; have := hvb _ e; omega; exact hzs e)).cell 1⟩
  refine wp_region_held_drew (S := fun W => W.cell? ⟨w.heap.size, 0, none⟩ = some (.int .i64 m) ∧ W.cell? ⟨w.heap.size, 1, none⟩ = some (.string l)) (by kernel_rfl) (HCC.out _ (Fr.of_below (HD0.out _) _)) (fun hHeld => ?_)
  have HB2 : Hid (Below w1.heap.size w1 (w1.drew.alloc (.cells #[.int .i64 m, .string l] 94))) := (HD0.out w1).alloc (HD0.out w1).size _
  have HS2 := Lib.hid (HS.out.fr (Fr.of_below (HD0.out _) (fun _ => False)) (fun _ _ h => h))
  have HR2 := Lib.hid (HS2.out.mv.congr (mv_ext st.ms (m, l)))
  have hz2 : z ≤ w1.drew.heap.size := by have := HB0.out.size; exact Nat.le_trans hz this
  have hs4 : w1.drew.cell? ⟨s, 4, none⟩ = some (.slice am st.ms.length cm) := HS2.out.box.cell 4
  have ha4 : (w1.alloc (.cells #[.int .i64 m, .string l] 94)).cell? ⟨s, 4, none⟩ = some (.slice am st.ms.length cm) := (HS.out.box.below (below_all _ _) HS.out.box.lt).cell 4
  refine wpAnyH_take (i := 0) (oi := ?_) (v := ?_) ?_ (by kernel_rfl) (by kernel_rfl) (by kernel_rfl) ?_ ?_ (by assumption) ?_
  rotate_left 2
  · simp only [List.getElem?_toArray, List.getElem?_cons_succ, List.getElem?_cons_zero]; rfl
  · exact fun _ _ _ h => h
  · first
      | (refine Or.inr ⟨?_, ?_⟩ <;> rfl)
      | (refine Or.inl ⟨?_, ?_⟩; · rfl
         intro w hSw; (try dsimp only at hSw); go_simp; (try with_reducible rfl); done)
  try simp only [Act.put, List.setIfInBounds_toArray, List.set_cons_zero, List.set_cons_succ]
  refine wpAnyH_take (i := 1) (oi := ?_) (v := ?_) ?_ (by kernel_rfl) (by kernel_rfl) (by kernel_rfl) ?_ ?_ (by assumption) ?_
  rotate_left 2
  · simp only [List.getElem?_toArray, List.getElem?_cons_succ, List.getElem?_cons_zero]; rfl
  · exact fun _ _ _ h => h
  · first
      | (refine Or.inr ⟨?_, ?_⟩ <;> rfl)
      | (refine Or.inl ⟨?_, ?_⟩; · rfl
         intro w hSw; (try dsimp only at hSw); go_simp; (try with_reducible rfl); done)
  try simp only [Act.put, List.setIfInBounds_toArray, List.set_cons_zero, List.set_cons_succ]
  refine wpAnyH_take (i := 2) (oi := ?_) (v := ?_) ?_ (by kernel_rfl) (by kernel_rfl) (by kernel_rfl) ?_ ?_ (by assumption) ?_
  rotate_left 2
  · simp only [List.getElem?_toArray, List.getElem?_cons_succ, List.getElem?_cons_zero]; rfl
  · exact fun _ _ _ h => h
  · first
      | (refine Or.inr ⟨?_, ?_⟩ <;> rfl)
      | (refine Or.inl ⟨?_, ?_⟩; · rfl
         intro w hSw; (try dsimp only at hSw); go_simp; (try with_reducible rfl); done)
  try simp only [Act.put, List.setIfInBounds_toArray, List.set_cons_zero, List.set_cons_succ]
  refine wpAnyH_take (i := 3) (oi := ?_) (v := ?_) ?_ (by kernel_rfl) (by kernel_rfl) (by kernel_rfl) ?_ ?_ (by assumption) ?_
  rotate_left 2
  · simp only [List.getElem?_toArray, List.getElem?_cons_succ, List.getElem?_cons_zero]; rfl
  · exact fun _ _ _ h => h
  · first
      | (refine Or.inr ⟨?_, ?_⟩ <;> rfl)
      | (refine Or.inl ⟨?_, ?_⟩; · rfl
         intro w hSw; (try dsimp only at hSw); go_simp; (try with_reducible rfl); done)
  try simp only [Act.put, List.setIfInBounds_toArray, List.set_cons_zero, List.set_cons_succ]
  refine wpAnyH_take (i := 5) (oi := ?_) (v := ?_) ?_ (by kernel_rfl) (by kernel_rfl) (by kernel_rfl) ?_ ?_ (by assumption) ?_
  rotate_left 2
  · simp only [List.getElem?_toArray, List.getElem?_cons_succ, List.getElem?_cons_zero]; rfl
  · exact fun _ _ _ h => h
  · first
      | (refine Or.inr ⟨?_, ?_⟩ <;> rfl)
      | (refine Or.inl ⟨?_, ?_⟩; · rfl
         intro w hSw; (try dsimp only at hSw); go_simp; (try with_reducible rfl); done)
  try simp only [Act.put, List.setIfInBounds_toArray, List.set_cons_zero, List.set_cons_succ]
  refine wpAnyH_ready (rs := [4, 6]) (by kernel_rfl) (by simp) ?_
  refine AllReadyH.cons (o := ?_) ?_ (fun K hK => ?_) ?_
  rotate_left 1
  · simp only [List.getElem?_toArray, List.getElem?_cons_succ, List.getElem?_cons_zero]; rfl
  · go_simp
    skip
    refine hK.out _ _ ?_ (fun hHeld => ?_)
    · try dsimp only
      exact hHeld
    clear hK K
    try simp only [Act.put, List.setIfInBounds_toArray, List.set_cons_zero, List.set_cons_succ]
    refine wpAnyH_ready (rs := [6]) (by kernel_rfl) (by simp) ?_
    refine AllReadyH.cons (o := ?_) ?_ (fun K hK => ?_) AllReadyH.nil
    rotate_left 1
    · simp only [List.getElem?_toArray, List.getElem?_cons_succ, List.getElem?_cons_zero]; rfl
    go_simp
    skip
    refine hK.out _ _ ?_ (fun hHeld => ?_)
    · try dsimp only
      exact HCC.out _ (Fr.of_below HB2.out _)
    clear hK K
    try simp only [Act.put, List.setIfInBounds_toArray, List.set_cons_zero, List.set_cons_succ]
    clear hs4 ha4
    refine wpAnyH_ready (rs := [7]) (by kernel_rfl) (by simp) ?_
    refine AllReadyH.cons (o := ?_) ?_ (fun K hK => ?_) AllReadyH.nil
    rotate_left 1
    · simp only [List.getElem?_toArray, List.getElem?_cons_succ, List.getElem?_cons_zero]; rfl
    refine step_pushW (w := w1.drew) elMvL rfl (.tmp 8) (.tmp 10) rfl HR2.out rfl [.int .i64 m, .string l] rfl (mvF_new st.ms (m, l)) (fun _ _ => mvF_one _ _ _) (by omega) (by omega) hz2 ?_
    intro vm2 w2 hr2 hf2 ho2
    obtain ⟨am2, cm2, hvm2⟩ := hr2.shape
    subst hvm2
    have HP2 := Lib.hid (HS2.out.setM (w2 := w2.setCell ⟨s, 4, none⟩ (.slice am2 (st.ms.length + 1) cm2)) (ms := st.ms ++ [(m, l)]) (by rw [List.length_append]; exact hr2) hf2 ho2 rfl)
    have HF2 := Lib.hid ((Fr.of_below (HD0.out w1) (fun q => (Value.slice am st.ms.length cm).ownBlock = some q)).trans hf2)
    have HOm := Lib.hid ho2
    clear hr2 hf2 ho2
    refine hK.out _ _ (HCC.out _ (HF2.out.mono (fun _ _ h => .inl h))) (fun hHeld => ?_)
    clear hK K
    try simp only [Act.put, List.setIfInBounds_toArray, List.set_cons_zero, List.set_cons_succ]
    refine wpAnyH_take (i := 8) (oi := ?_) (v := ?_) ?_ (by kernel_rfl) (by kernel_rfl) (by kernel_rfl) ?_ ?_ (by assumption) ?_
    rotate_left 2
    · simp only [List.getElem?_toArray, List.getElem?_cons_succ, List.getElem?_cons_zero]; rfl
    · exact fun _ _ _ h => h
    · first
        | (refine Or.inr ⟨?_, ?_⟩ <;> rfl)
        | (refine Or.inl ⟨?_, ?_⟩; · rfl
           intro w hSw; (try dsimp only at hSw); go_simp; (try with_reducible rfl); done)
    try simp only [Act.put, List.setIfInBounds_toArray, List.set_cons_zero, List.set_cons_succ]
    refine wpAnyH_take (i := 9) (oi := ?_) (v := ?_) ?_ (by kernel_rfl) (by kernel_rfl) (by kernel_rfl) ?_ ?_ (by assumption) ?_
    rotate_left 2
    · simp only [List.getElem?_toArray, List.getElem?_cons_succ, List.getElem?_cons_zero]; rfl
    · exact fun _ _ _ h => h
    · first
        | (refine Or.inr ⟨?_, ?_⟩ <;> rfl)
        | (refine Or.inl ⟨?_, ?_⟩; · rfl
           intro w hSw; (try dsimp only at hSw); go_simp; (try with_reducible rfl); done)
    try simp only [Act.put, List.setIfInBounds_toArray, List.set_cons_zero, List.set_cons_succ]
    have hbx := (HS.out.box.fr HF2.out hvs)
    have hbl := hbx.lt
    have hbf := hbx.free
    have hs5 : w2.cell? ⟨s, 4, none⟩ = some (.slice am st.ms.length cm) := hbx.cell 4
    clear hbx
    refine wpAnyH_ready (rs := [10]) (by kernel_rfl) (by simp) ?_
    refine AllReadyH.cons (o := ?_) ?_ (fun K hK => ?_) AllReadyH.nil
    rotate_left 1
    · simp only [List.getElem?_toArray, List.getElem?_cons_succ, List.getElem?_cons_zero]; rfl
    go_simp
    skip
    refine hK.out _ _ ?_ (fun hHeld => ?_)
    · try dsimp only
      exact HCC.out _ ((HF2.out.mono (fun _ _ h => .inl h)).trans ((Fr.set w2 ⟨s, 4, none⟩ (.slice am2 (st.ms.length + 1) cm2)).mono (fun _ _ h => .inr h)))
    clear hK K
    try simp only [Act.put, List.setIfInBounds_toArray, List.set_cons_zero, List.set_cons_succ]
    refine wpAnyH_done (by kernel_rfl) ?_ _
    clear hHeld hbl hbf hs5 HS2 HR2 hz2 HB2 HX0 HCC
    have HF3 := Lib.hid ((Fr.of_below HB0.out (fun q => (Value.slice am st.ms.length cm).ownBlock = some q ∨ q = s)).trans ((Fr.of_below (HD0.out w1) _).trans HP2.out.2))
    have HP3 := Lib.hid HP2.out.1
    clear HP2 HF2
    generalize w2.setCell ⟨s, 4, none⟩ (.slice am2 (st.ms.length + 1) cm2) = w3 at *
    have hvb3 : ∀ q, (Value.slice at' st.ts.length ct).ownBlock = some q → q < w3.heap.size := fun q e => (HP3.out.tv.blk q e).2
    have hvs3 : (Value.slice at' st.ts.length ct).ownBlock ≠ some s := fun e => (HP3.out.dt s e).1 rfl
    have HC3 : Hid (∀ W, Fr (fun q => (Value.slice at' st.ts.length ct).ownBlock = some q) w3 W → W.cell? ⟨s, 3, none⟩ = some (.int .i64 st.tm)) := fun W h => (HP3.out.box.fr h hvs3).cell 3
    go_wp2_with fail
    refine wp_region_held_drew (S := fun W => W.cell? ⟨s, 3, none⟩ = some (.int .i64 st.tm)) (by kernel_rfl) (HC3.out _ (Fr.of_below (HD0.out _) _)) (fun hHeld => ?_)
    have HB4 : Hid (Below w3.heap.size w3 (w3.drew.alloc (.cells #[.int .i64 st.tm] 3))) := (HD0.out w3).alloc (HD0.out w3).size _
    have HS4 := Lib.hid (HP3.out.fr (Fr.of_below (HD0.out _) (fun _ => False)) (fun _ _ h => h))
    have HR4 := Lib.hid (HS4.out.tv.congr (g := fun i => .int .i64 (iF (st.ts ++ [st.tm]) i)) (fun i hi => by rw [iF_ext st.ts st.tm i (by simpa using hi)]))
    have hz3 : z ≤ w3.drew.heap.size := by have := HF3.out.size; exact Nat.le_trans hz this
    have hs4 : w3.drew.cell? ⟨s, 5, none⟩ = some (.slice at' st.ts.length ct) := HS4.out.box.cell 5
    have ha4 : (w3.alloc (.cells #[.int .i64 st.tm] 3)).cell? ⟨s, 5, none⟩ = some (.slice at' st.ts.length ct) := (HP3.out.box.below (below_all _ _) HP3.out.box.lt).cell 5
    have ht3 : w3.drew.cell? ⟨s, 3, none⟩ = some (.int .i64 st.tm) := HS4.out.box.cell 3
    refine wpAnyH_take (i := 0) (oi := ?_) (v := ?_) ?_ (by kernel_rfl) (by kernel_rfl) (by kernel_rfl) ?_ ?_ (by assumption) ?_
    rotate_left 2
    · simp only [List.getElem?_toArray, List.getElem?_cons_succ, List.getElem?_cons_zero]; rfl
    · exact fun _ _ _ h => h
    · first
        | (refine Or.inr ⟨?_, ?_⟩ <;> rfl)
        | (refine Or.inl ⟨?_, ?_⟩; · rfl
           intro w hSw; (try dsimp only at hSw); go_simp; (try with_reducible rfl); done)
    try simp only [Act.put, List.setIfInBounds_toArray, List.set_cons_zero, List.set_cons_succ]
    refine wpAnyH_take (i := 1) (oi := ?_) (v := ?_) ?_ (by kernel_rfl) (by kernel_rfl) (by kernel_rfl) ?_ ?_ (by assumption) ?_
    rotate_left 2
    · simp only [List.getElem?_toArray, List.getElem?_cons_succ, List.getElem?_cons_zero]; rfl
    · exact fun _ _ _ h => h
    · first
        | (refine Or.inr ⟨?_, ?_⟩ <;> rfl)
        | (refine Or.inl ⟨?_, ?_⟩; · rfl
           intro w hSw; (try dsimp only at hSw); go_simp; (try with_reducible rfl); done)
    try simp only [Act.put, List.setIfInBounds_toArray, List.set_cons_zero, List.set_cons_succ]
    refine wpAnyH_take (i := 2) (oi := ?_) (v := ?_) ?_ (by kernel_rfl) (by kernel_rfl) (by kernel_rfl) ?_ ?_ (by assumption) ?_
    rotate_left 2
    · simp only [List.getElem?_toArray, List.getElem?_cons_succ, List.getElem?_cons_zero]; rfl
    · exact fun _ _ _ h => h
    · first
        | (refine Or.inr ⟨?_, ?_⟩ <;> rfl)
        | (refine Or.inl ⟨?_, ?_⟩; · rfl
           intro w hSw; (try dsimp only at hSw); go_simp; (try with_reducible rfl); done)
    try simp only [Act.put, List.setIfInBounds_toArray, List.set_cons_zero, List.set_cons_succ]
    refine wpAnyH_take (i := 3) (oi := ?_) (v := ?_) ?_ (by kernel_rfl) (by kernel_rfl) (by kernel_rfl) ?_ ?_ (by assumption) ?_
    rotate_left 2
    · simp only [List.getElem?_toArray, List.getElem?_cons_succ, List.getElem?_cons_zero]; rfl
    · exact fun _ _ _ h => h
    · first
        | (refine Or.inr ⟨?_, ?_⟩ <;> rfl)
        | (refine Or.inl ⟨?_, ?_⟩; · rfl
           intro w hSw; (try dsimp only at hSw); go_simp; (try with_reducible rfl); done)
    try simp only [Act.put, List.setIfInBounds_toArray, List.set_cons_zero, List.set_cons_succ]
    refine wpAnyH_take (i := 5) (oi := ?_) (v := ?_) ?_ (by kernel_rfl) (by kernel_rfl) (by kernel_rfl) ?_ ?_ (by assumption) ?_
    rotate_left 2
    · simp only [List.getElem?_toArray, List.getElem?_cons_succ, List.getElem?_cons_zero]; rfl
    · exact fun _ _ _ h => h
    · first
        | (refine Or.inr ⟨?_, ?_⟩ <;> rfl)
        | (refine Or.inl ⟨?_, ?_⟩; · rfl
           intro w hSw; (try dsimp only at hSw); go_simp; (try with_reducible rfl); done)
    try simp only [Act.put, List.setIfInBounds_toArray, List.set_cons_zero, List.set_cons_succ]
    refine wpAnyH_take (i := 6) (oi := ?_) (v := ?_) ?_ (by kernel_rfl) (by kernel_rfl) (by kernel_rfl) ?_ ?_ (by assumption) ?_
    rotate_left 2
    · simp only [List.getElem?_toArray, List.getElem?_cons_succ, List.getElem?_cons_zero]; rfl
    · exact fun _ _ _ h => h
    · first
        | (refine Or.inr ⟨?_, ?_⟩ <;> rfl)
        | (refine Or.inl ⟨?_, ?_⟩; · rfl
           intro w hSw; (try dsimp only at hSw); go_simp; (try with_reducible rfl); done)
    try simp only [Act.put, List.setIfInBounds_toArray, List.set_cons_zero, List.set_cons_succ]
    refine wpAnyH_take (i := 7) (oi := ?_) (v := ?_) ?_ (by kernel_rfl) (by kernel_rfl) (by kernel_rfl) ?_ ?_ (by assumption) ?_
    rotate_left 2
    · simp only [List.getElem?_toArray, List.getElem?_cons_succ, List.getElem?_cons_zero]; rfl
    · exact fun _ _ _ h => h
    · first
        | (refine Or.inr ⟨?_, ?_⟩ <;> rfl)
        | (refine Or.inl ⟨?_, ?_⟩; · rfl
           intro w hSw; (try dsimp only at hSw); go_simp; (try with_reducible rfl); done)
    try simp only [Act.put, List.setIfInBounds_toArray, List.set_cons_zero, List.set_cons_succ]
    refine wpAnyH_take (i := 8) (oi := ?_) (v := ?_) ?_ (by kernel_rfl) (by kernel_rfl) (by kernel_rfl) ?_ ?_ (by assumption) ?_
    rotate_left 2
    · simp only [List.getElem?_toArray, List.getElem?_cons_succ, List.getElem?_cons_zero]; rfl
    · exact fun _ _ _ h => h
    · first
        | (refine Or.inr ⟨?_, ?_⟩ <;> rfl)
        | (refine Or.inl ⟨?_, ?_⟩; · rfl
           intro w hSw; (try dsimp only at hSw); go_simp; (try with_reducible rfl); done)
    try simp only [Act.put, List.setIfInBounds_toArray, List.set_cons_zero, List.set_cons_succ]
    refine wpAnyH_ready (rs := [4, 9]) (by kernel_rfl) (by simp) ?_
    refine AllReadyH.cons (o := ?_) ?_ (fun K hK => ?_) ?_
    rotate_left 1
    · simp only [List.getElem?_toArray, List.getElem?_cons_succ, List.getElem?_cons_zero]; rfl
    · go_simp
      skip
      refine hK.out _ _ ?_ (fun hHeld => ?_)
      · try dsimp only
        exact hHeld
      clear hK K
      try simp only [Act.put, List.setIfInBounds_toArray, List.set_cons_zero, List.set_cons_succ]
      refine wpAnyH_ready (rs := [9]) (by kernel_rfl) (by simp) ?_
      refine AllReadyH.cons (o := ?_) ?_ (fun K hK => ?_) AllReadyH.nil
      rotate_left 1
      · simp only [List.getElem?_toArray, List.getElem?_cons_succ, List.getElem?_cons_zero]; rfl
      go_simp
      skip
      refine hK.out _ _ ?_ (fun hHeld => ?_)
      · try dsimp only
        exact HC3.out _ (Fr.of_below HB4.out _)
      clear hK K
      try simp only [Act.put, List.setIfInBounds_toArray, List.set_cons_zero, List.set_cons_succ]
      clear hs4 ha4 ht3
      refine wpAnyH_ready (rs := [10]) (by kernel_rfl) (by simp) ?_
      refine AllReadyH.cons (o := ?_) ?_ (fun K hK => ?_) AllReadyH.nil
      rotate_left 1
      · simp only [List.getElem?_toArray, List.getElem?_cons_succ, List.getElem?_cons_zero]; rfl
      refine step_pushW (w := w3.drew) elInt rfl (.tmp 18) (.tmp 23) rfl HR4.out rfl [.int .i64 st.tm] rfl (iF_cell st.ts st.tm) (fun _ _ => rfl) (by dsimp only; omega) (by omega) hz3 ?_
      intro vt2 w4 hr4 hf4 ho4
      obtain ⟨at2, ct2, hvt2⟩ := hr4.shape
      subst hvt2
      have HP5 := Lib.hid (HS4.out.setT (w2 := w4.setCell ⟨s, 5, none⟩ (.slice at2 (st.ts.length + 1) ct2)) (ts := st.ts ++ [st.tm]) (by rw [List.length_append]; exact hr4) hf4 ho4 rfl)
      have HF4 := Lib.hid ((Fr.of_below (HD0.out w3) (fun q => (Value.slice at' st.ts.length ct).ownBlock = some q)).trans hf4)
      have HOt := Lib.hid ho4
      clear hr4 hf4 ho4
      refine hK.out _ _ (HC3.out _ HF4.out) (fun hHeld => ?_)
      clear hK K
      try simp only [Act.put, List.setIfInBounds_toArray, List.set_cons_zero, List.set_cons_succ]
      refine wpAnyH_take (i := 11) (oi := ?_) (v := ?_) ?_ (by kernel_rfl) (by kernel_rfl) (by kernel_rfl) ?_ ?_ (by assumption) ?_
      rotate_left 2
      · simp only [List.getElem?_toArray, List.getElem?_cons_succ, List.getElem?_cons_zero]; rfl
      · exact fun _ _ _ h => h
      · first
          | (refine Or.inr ⟨?_, ?_⟩ <;> rfl)
          | (refine Or.inl ⟨?_, ?_⟩; · rfl
             intro w hSw; (try dsimp only at hSw); go_simp; (try with_reducible rfl); done)
      try simp only [Act.put, List.setIfInBounds_toArray, List.set_cons_zero, List.set_cons_succ]
      refine wpAnyH_take (i := 12) (oi := ?_) (v := ?_) ?_ (by kernel_rfl) (by kernel_rfl) (by kernel_rfl) ?_ ?_ (by assumption) ?_
      rotate_left 2
      · simp only [List.getElem?_toArray, List.getElem?_cons_succ, List.getElem?_cons_zero]; rfl
      · exact fun _ _ _ h => h
      · first
          | (refine Or.inr ⟨?_, ?_⟩ <;> rfl)
          | (refine Or.inl ⟨?_, ?_⟩; · rfl
             intro w hSw; (try dsimp only at hSw); go_simp; (try with_reducible rfl); done)
      try simp only [Act.put, List.setIfInBounds_toArray, List.set_cons_zero, List.set_cons_succ]
      have hbx := (HP3.out.box.fr HF4.out hvs3)
      have hbl := hbx.lt
      have hbf := hbx.free
      have hs5 : w4.cell? ⟨s, 5, none⟩ = some (.slice at' st.ts.length ct) := hbx.cell 5
      clear hbx
      refine wpAnyH_ready (rs := [13]) (by kernel_rfl) (by simp) ?_
      refine AllReadyH.cons (o := ?_) ?_ (fun K hK => ?_) AllReadyH.nil
      rotate_left 1
      · simp only [List.getElem?_toArray, List.getElem?_cons_succ, List.getElem?_cons_zero]; rfl
      go_simp
      skip
      refine hK.out _ _ ?_ (fun hHeld => ?_)
      · try dsimp only
        exact HP5.out.1.box.cell 3
      clear hK K
      try simp only [Act.put, List.setIfInBounds_toArray, List.set_cons_zero, List.set_cons_succ]
      refine wpAnyH_done (by kernel_rfl) ?_ _
      clear hHeld hbl hbf hs5
      go_wp2_with fail
      go_end0
      exact ⟨rfl, rec_end HSW.out HO.out HP5.out.1 HF3.out ((Fr.of_below (HD0.out w3) _).trans HP5.out.2) HOm.out HOt.out (by have := HB0.out.size; exact this) (by have := HF3.out.size; exact this)⟩
    · refine AllReadyH.cons (o := ?_) ?_ (fun K hK => ?_) ?_
      rotate_left 1
      · simp only [List.getElem?_toArray, List.getElem?_cons_succ, List.getElem?_cons_zero]; rfl
      · go_simp
        skip
        refine hK.out _ _ ?_ (fun hHeld => ?_)
        · try dsimp only
          exact HC3.out _ (Fr.of_below HB4.out _)
        clear hK K
        try simp only [Act.put, List.setIfInBounds_toArray, List.set_cons_zero, List.set_cons_succ]
        refine wpAnyH_ready (rs := [4]) (by kernel_rfl) (by simp) ?_
        refine AllReadyH.cons (o := ?_) ?_ (fun K hK => ?_) AllReadyH.nil
        rotate_left 1
        · simp only [List.getElem?_toArray, List.getElem?_cons_succ, List.getElem?_cons_zero]; rfl
        go_simp
        skip
        refine hK.out _ _ ?_ (fun hHeld => ?_)
        · try dsimp only
          exact hHeld
        clear hK K
        try simp only [Act.put, List.setIfInBounds_toArray, List.set_cons_zero, List.set_cons_succ]
        clear hs4 ha4 ht3
        refine wpAnyH_ready (rs := [10]) (by kernel_rfl) (by simp) ?_
        refine AllReadyH.cons (o := ?_) ?_ (fun K hK => ?_) AllReadyH.nil
        rotate_left 1
        · simp only [List.getElem?_toArray, List.getElem?_cons_succ, List.getElem?_cons_zero]; rfl
        refine step_pushW (w := w3.drew) elInt rfl (.tmp 18) (.tmp 23) rfl HR4.out rfl [.int .i64 st.tm] rfl (iF_cell st.ts st.tm) (fun _ _ => rfl) (by dsimp only; omega) (by omega) hz3 ?_
        intro vt2 w4 hr4 hf4 ho4
        obtain ⟨at2, ct2, hvt2⟩ := hr4.shape
        subst hvt2
        have HP5 := Lib.hid (HS4.out.setT (w2 := w4.setCell ⟨s, 5, none⟩ (.slice at2 (st.ts.length + 1) ct2)) (ts := st.ts ++ [st.tm]) (by rw [List.length_append]; exact hr4) hf4 ho4 rfl)
        have HF4 := Lib.hid ((Fr.of_below (HD0.out w3) (fun q => (Value.slice at' st.ts.length ct).ownBlock = some q)).trans hf4)
        have HOt := Lib.hid ho4
        clear hr4 hf4 ho4
        refine hK.out _ _ (HC3.out _ HF4.out) (fun hHeld => ?_)
        clear hK K
        try simp only [Act.put, List.setIfInBounds_toArray, List.set_cons_zero, List.set_cons_succ]
        refine wpAnyH_take (i := 11) (oi := ?_) (v := ?_) ?_ (by kernel_rfl) (by kernel_rfl) (by kernel_rfl) ?_ ?_ (by assumption) ?_
        rotate_left 2
        · simp only [List.getElem?_toArray, List.getElem?_cons_succ, List.getElem?_cons_zero]; rfl
        · exact fun _ _ _ h => h
        · first
            | (refine Or.inr ⟨?_, ?_⟩ <;> rfl)
            | (refine Or.inl ⟨?_, ?_⟩; · rfl
               intro w hSw; (try dsimp only at hSw); go_simp; (try with_reducible rfl); done)
        try simp only [Act.put, List.setIfInBounds_toArray, List.set_cons_zero, List.set_cons_succ]
        refine wpAnyH_take (i := 12) (oi := ?_) (v := ?_) ?_ (by kernel_rfl) (by kernel_rfl) (by kernel_rfl) ?_ ?_ (by assumption) ?_
        rotate_left 2
        · simp only [List.getElem?_toArray, List.getElem?_cons_succ, List.getElem?_cons_zero]; rfl
        · exact fun _ _ _ h => h
        · first
            | (refine Or.inr ⟨?_, ?_⟩ <;> rfl)
            | (refine Or.inl ⟨?_, ?_⟩; · rfl
               intro w hSw; (try dsimp only at hSw); go_simp; (try with_reducible rfl); done)
        try simp only [Act.put, List.setIfInBounds_toArray, List.set_cons_zero, List.set_cons_succ]
        have hbx := (HP3.out.box.fr HF4.out hvs3)
        have hbl := hbx.lt
        have hbf := hbx.free
        have hs5 : w4.cell? ⟨s, 5, none⟩ = some (.slice at' st.ts.length ct) := hbx.cell 5
        clear hbx
        refine wpAnyH_ready (rs := [13]) (by kernel_rfl) (by simp) ?_
        refine AllReadyH.cons (o := ?_) ?_ (fun K hK => ?_) AllReadyH.nil
        rotate_left 1
        · simp only [List.getElem?_toArray, List.getElem?_cons_succ, List.getElem?_cons_zero]; rfl
        go_simp
        skip
        refine hK.out _ _ ?_ (fun hHeld => ?_)
        · try dsimp only
          exact HP5.out.1.box.cell 3
        clear hK K
        try simp only [Act.put, List.setIfInBounds_toArray, List.set_cons_zero, List.set_cons_succ]
        refine wpAnyH_done (by kernel_rfl) ?_ _
        clear hHeld hbl hbf hs5
        go_wp2_with fail
        go_end0
        exact ⟨rfl, rec_end HSW.out HO.out HP5.out.1 HF3.out ((Fr.of_below (HD0.out w3) _).trans HP5.out.2) HOm.out HOt.out (by have := HB0.out.size; exact this) (by have := HF3.out.size; exact this)⟩
      · exact AllReadyH.nil
  · refine AllReadyH.cons (o := ?_) ?_ (fun K hK => ?_) ?_
    rotate_left 1
    · simp only [List.getElem?_toArray, List.getElem?_cons_succ, List.getElem?_cons_zero]; rfl
    · go_simp
      skip
      refine hK.out _ _ ?_ (fun hHeld => ?_)
      · try dsimp only
        exact HCC.out _ (Fr.of_below HB2.out _)
      clear hK K
      try simp only [Act.put, List.setIfInBounds_toArray, List.set_cons_zero, List.set_cons_succ]
      refine wpAnyH_ready (rs := [4]) (by kernel_rfl) (by simp) ?_
      refine AllReadyH.cons (o := ?_) ?_ (fun K hK => ?_) AllReadyH.nil
      rotate_left 1
      · simp only [List.getElem?_toArray, List.getElem?_cons_succ, List.getElem?_cons_zero]; rfl
      go_simp
      skip
      refine hK.out _ _ ?_ (fun hHeld => ?_)
      · try dsimp only
        exact hHeld
      clear hK K
      try simp only [Act.put, List.setIfInBounds_toArray, List.set_cons_zero, List.set_cons_succ]
      clear hs4 ha4
      refine wpAnyH_ready (rs := [7]) (by kernel_rfl) (by simp) ?_
      refine AllReadyH.cons (o := ?_) ?_ (fun K hK => ?_) AllReadyH.nil
      rotate_left 1
      · simp only [List.getElem?_toArray, List.getElem?_cons_succ, List.getElem?_cons_zero]; rfl
      refine step_pushW (w := w1.drew) elMvL rfl (.tmp 8) (.tmp 10) rfl HR2.out rfl [.int .i64 m, .string l] rfl (mvF_new st.ms (m, l)) (fun _ _ => mvF_one _ _ _) (by omega) (by omega) hz2 ?_
      intro vm2 w2 hr2 hf2 ho2
      obtain ⟨am2, cm2, hvm2⟩ := hr2.shape
      subst hvm2
      have HP2 := Lib.hid (HS2.out.setM (w2 := w2.setCell ⟨s, 4, none⟩ (.slice am2 (st.ms.length + 1) cm2)) (ms := st.ms ++ [(m, l)]) (by rw [List.length_append]; exact hr2) hf2 ho2 rfl)
      have HF2 := Lib.hid ((Fr.of_below (HD0.out w1) (fun q => (Value.slice am st.ms.length cm).ownBlock = some q)).trans hf2)
      have HOm := Lib.hid ho2
      clear hr2 hf2 ho2
      refine hK.out _ _ (HCC.out _ (HF2.out.mono (fun _ _ h => .inl h))) (fun hHeld => ?_)
      clear hK K
      try simp only [Act.put, List.setIfInBounds_toArray, List.set_cons_zero, List.set_cons_succ]
      refine wpAnyH_take (i := 8) (oi := ?_) (v := ?_) ?_ (by kernel_rfl) (by kernel_rfl) (by kernel_rfl) ?_ ?_ (by assumption) ?_
      rotate_left 2
      · simp only [List.getElem?_toArray, List.getElem?_cons_succ, List.getElem?_cons_zero]; rfl
      · exact fun _ _ _ h => h
      · first
          | (refine Or.inr ⟨?_, ?_⟩ <;> rfl)
          | (refine Or.inl ⟨?_, ?_⟩; · rfl
             intro w hSw; (try dsimp only at hSw); go_simp; (try with_reducible rfl); done)
      try simp only [Act.put, List.setIfInBounds_toArray, List.set_cons_zero, List.set_cons_succ]
      refine wpAnyH_take (i := 9) (oi := ?_) (v := ?_) ?_ (by kernel_rfl) (by kernel_rfl) (by kernel_rfl) ?_ ?_ (by assumption) ?_
      rotate_left 2
      · simp only [List.getElem?_toArray, List.getElem?_cons_succ, List.getElem?_cons_zero]; rfl
      · exact fun _ _ _ h => h
      · first
          | (refine Or.inr ⟨?_, ?_⟩ <;> rfl)
          | (refine Or.inl ⟨?_, ?_⟩; · rfl
             intro w hSw; (try dsimp only at hSw); go_simp; (try with_reducible rfl); done)
      try simp only [Act.put, List.setIfInBounds_toArray, List.set_cons_zero, List.set_cons_succ]
      have hbx := (HS.out.box.fr HF2.out hvs)
      have hbl := hbx.lt
      have hbf := hbx.free
      have hs5 : w2.cell? ⟨s, 4, none⟩ = some (.slice am st.ms.length cm) := hbx.cell 4
      clear hbx
      refine wpAnyH_ready (rs := [10]) (by kernel_rfl) (by simp) ?_
      refine AllReadyH.cons (o := ?_) ?_ (fun K hK => ?_) AllReadyH.nil
      rotate_left 1
      · simp only [List.getElem?_toArray, List.getElem?_cons_succ, List.getElem?_cons_zero]; rfl
      go_simp
      skip
      refine hK.out _ _ ?_ (fun hHeld => ?_)
      · try dsimp only
        exact HCC.out _ ((HF2.out.mono (fun _ _ h => .inl h)).trans ((Fr.set w2 ⟨s, 4, none⟩ (.slice am2 (st.ms.length + 1) cm2)).mono (fun _ _ h => .inr h)))
      clear hK K
      try simp only [Act.put, List.setIfInBounds_toArray, List.set_cons_zero, List.set_cons_succ]
      refine wpAnyH_done (by kernel_rfl) ?_ _
      clear hHeld hbl hbf hs5 HS2 HR2 hz2 HB2 HX0 HCC
      have HF3 := Lib.hid ((Fr.of_below HB0.out (fun q => (Value.slice am st.ms.length cm).ownBlock = some q ∨ q = s)).trans ((Fr.of_below (HD0.out w1) _).trans HP2.out.2))
      have HP3 := Lib.hid HP2.out.1
      clear HP2 HF2
      generalize w2.setCell ⟨s, 4, none⟩ (.slice am2 (st.ms.length + 1) cm2) = w3 at *
      have hvb3 : ∀ q, (Value.slice at' st.ts.length ct).ownBlock = some q → q < w3.heap.size := fun q e => (HP3.out.tv.blk q e).2
      have hvs3 : (Value.slice at' st.ts.length ct).ownBlock ≠ some s := fun e => (HP3.out.dt s e).1 rfl
      have HC3 : Hid (∀ W, Fr (fun q => (Value.slice at' st.ts.length ct).ownBlock = some q) w3 W → W.cell? ⟨s, 3, none⟩ = some (.int .i64 st.tm)) := fun W h => (HP3.out.box.fr h hvs3).cell 3
      go_wp2_with fail
      refine wp_region_held_drew (S := fun W => W.cell? ⟨s, 3, none⟩ = some (.int .i64 st.tm)) (by kernel_rfl) (HC3.out _ (Fr.of_below (HD0.out _) _)) (fun hHeld => ?_)
      have HB4 : Hid (Below w3.heap.size w3 (w3.drew.alloc (.cells #[.int .i64 st.tm] 3))) := (HD0.out w3).alloc (HD0.out w3).size _
      have HS4 := Lib.hid (HP3.out.fr (Fr.of_below (HD0.out _) (fun _ => False)) (fun _ _ h => h))
      have HR4 := Lib.hid (HS4.out.tv.congr (g := fun i => .int .i64 (iF (st.ts ++ [st.tm]) i)) (fun i hi => by rw [iF_ext st.ts st.tm i (by simpa using hi)]))
      have hz3 : z ≤ w3.drew.heap.size := by have := HF3.out.size; exact Nat.le_trans hz this
      have hs4 : w3.drew.cell? ⟨s, 5, none⟩ = some (.slice at' st.ts.length ct) := HS4.out.box.cell 5
      have ha4 : (w3.alloc (.cells #[.int .i64 st.tm] 3)).cell? ⟨s, 5, none⟩ = some (.slice at' st.ts.length ct) := (HP3.out.box.below (below_all _ _) HP3.out.box.lt).cell 5
      have ht3 : w3.drew.cell? ⟨s, 3, none⟩ = some (.int .i64 st.tm) := HS4.out.box.cell 3
      refine wpAnyH_take (i := 0) (oi := ?_) (v := ?_) ?_ (by kernel_rfl) (by kernel_rfl) (by kernel_rfl) ?_ ?_ (by assumption) ?_
      rotate_left 2
      · simp only [List.getElem?_toArray, List.getElem?_cons_succ, List.getElem?_cons_zero]; rfl
      · exact fun _ _ _ h => h
      · first
          | (refine Or.inr ⟨?_, ?_⟩ <;> rfl)
          | (refine Or.inl ⟨?_, ?_⟩; · rfl
             intro w hSw; (try dsimp only at hSw); go_simp; (try with_reducible rfl); done)
      try simp only [Act.put, List.setIfInBounds_toArray, List.set_cons_zero, List.set_cons_succ]
      refine wpAnyH_take (i := 1) (oi := ?_) (v := ?_) ?_ (by kernel_rfl) (by kernel_rfl) (by kernel_rfl) ?_ ?_ (by assumption) ?_
      rotate_left 2
      · simp only [List.getElem?_toArray, List.getElem?_cons_succ, List.getElem?_cons_zero]; rfl
      · exact fun _ _ _ h => h
      · first
          | (refine Or.inr ⟨?_, ?_⟩ <;> rfl)
          | (refine Or.inl ⟨?_, ?_⟩; · rfl
             intro w hSw; (try dsimp only at hSw); go_simp; (try with_reducible rfl); done)
      try simp only [Act.put, List.setIfInBounds_toArray, List.set_cons_zero, List.set_cons_succ]
      refine wpAnyH_take (i := 2) (oi := ?_) (v := ?_) ?_ (by kernel_rfl) (by kernel_rfl) (by kernel_rfl) ?_ ?_ (by assumption) ?_
      rotate_left 2
      · simp only [List.getElem?_toArray, List.getElem?_cons_succ, List.getElem?_cons_zero]; rfl
      · exact fun _ _ _ h => h
      · first
          | (refine Or.inr ⟨?_, ?_⟩ <;> rfl)
          | (refine Or.inl ⟨?_, ?_⟩; · rfl
             intro w hSw; (try dsimp only at hSw); go_simp; (try with_reducible rfl); done)
      try simp only [Act.put, List.setIfInBounds_toArray, List.set_cons_zero, List.set_cons_succ]
      refine wpAnyH_take (i := 3) (oi := ?_) (v := ?_) ?_ (by kernel_rfl) (by kernel_rfl) (by kernel_rfl) ?_ ?_ (by assumption) ?_
      rotate_left 2
      · simp only [List.getElem?_toArray, List.getElem?_cons_succ, List.getElem?_cons_zero]; rfl
      · exact fun _ _ _ h => h
      · first
          | (refine Or.inr ⟨?_, ?_⟩ <;> rfl)
          | (refine Or.inl ⟨?_, ?_⟩; · rfl
             intro w hSw; (try dsimp only at hSw); go_simp; (try with_reducible rfl); done)
      try simp only [Act.put, List.setIfInBounds_toArray, List.set_cons_zero, List.set_cons_succ]
      refine wpAnyH_take (i := 5) (oi := ?_) (v := ?_) ?_ (by kernel_rfl) (by kernel_rfl) (by kernel_rfl) ?_ ?_ (by assumption) ?_
      rotate_left 2
      · simp only [List.getElem?_toArray, List.getElem?_cons_succ, List.getElem?_cons_zero]; rfl
      · exact fun _ _ _ h => h
      · first
          | (refine Or.inr ⟨?_, ?_⟩ <;> rfl)
          | (refine Or.inl ⟨?_, ?_⟩; · rfl
             intro w hSw; (try dsimp only at hSw); go_simp; (try with_reducible rfl); done)
      try simp only [Act.put, List.setIfInBounds_toArray, List.set_cons_zero, List.set_cons_succ]
      refine wpAnyH_take (i := 6) (oi := ?_) (v := ?_) ?_ (by kernel_rfl) (by kernel_rfl) (by kernel_rfl) ?_ ?_ (by assumption) ?_
      rotate_left 2
      · simp only [List.getElem?_toArray, List.getElem?_cons_succ, List.getElem?_cons_zero]; rfl
      · exact fun _ _ _ h => h
      · first
          | (refine Or.inr ⟨?_, ?_⟩ <;> rfl)
          | (refine Or.inl ⟨?_, ?_⟩; · rfl
             intro w hSw; (try dsimp only at hSw); go_simp; (try with_reducible rfl); done)
      try simp only [Act.put, List.setIfInBounds_toArray, List.set_cons_zero, List.set_cons_succ]
      refine wpAnyH_take (i := 7) (oi := ?_) (v := ?_) ?_ (by kernel_rfl) (by kernel_rfl) (by kernel_rfl) ?_ ?_ (by assumption) ?_
      rotate_left 2
      · simp only [List.getElem?_toArray, List.getElem?_cons_succ, List.getElem?_cons_zero]; rfl
      · exact fun _ _ _ h => h
      · first
          | (refine Or.inr ⟨?_, ?_⟩ <;> rfl)
          | (refine Or.inl ⟨?_, ?_⟩; · rfl
             intro w hSw; (try dsimp only at hSw); go_simp; (try with_reducible rfl); done)
      try simp only [Act.put, List.setIfInBounds_toArray, List.set_cons_zero, List.set_cons_succ]
      refine wpAnyH_take (i := 8) (oi := ?_) (v := ?_) ?_ (by kernel_rfl) (by kernel_rfl) (by kernel_rfl) ?_ ?_ (by assumption) ?_
      rotate_left 2
      · simp only [List.getElem?_toArray, List.getElem?_cons_succ, List.getElem?_cons_zero]; rfl
      · exact fun _ _ _ h => h
      · first
          | (refine Or.inr ⟨?_, ?_⟩ <;> rfl)
          | (refine Or.inl ⟨?_, ?_⟩; · rfl
             intro w hSw; (try dsimp only at hSw); go_simp; (try with_reducible rfl); done)
      try simp only [Act.put, List.setIfInBounds_toArray, List.set_cons_zero, List.set_cons_succ]
      refine wpAnyH_ready (rs := [4, 9]) (by kernel_rfl) (by simp) ?_
      refine AllReadyH.cons (o := ?_) ?_ (fun K hK => ?_) ?_
      rotate_left 1
      · simp only [List.getElem?_toArray, List.getElem?_cons_succ, List.getElem?_cons_zero]; rfl
      · go_simp
        skip
        refine hK.out _ _ ?_ (fun hHeld => ?_)
        · try dsimp only
          exact hHeld
        clear hK K
        try simp only [Act.put, List.setIfInBounds_toArray, List.set_cons_zero, List.set_cons_succ]
        refine wpAnyH_ready (rs := [9]) (by kernel_rfl) (by simp) ?_
        refine AllReadyH.cons (o := ?_) ?_ (fun K hK => ?_) AllReadyH.nil
        rotate_left 1
        · simp only [List.getElem?_toArray, List.getElem?_cons_succ, List.getElem?_cons_zero]; rfl
        go_simp
        skip
        refine hK.out _ _ ?_ (fun hHeld => ?_)
        · try dsimp only
          exact HC3.out _ (Fr.of_below HB4.out _)
        clear hK K
        try simp only [Act.put, List.setIfInBounds_toArray, List.set_cons_zero, List.set_cons_succ]
        clear hs4 ha4 ht3
        refine wpAnyH_ready (rs := [10]) (by kernel_rfl) (by simp) ?_
        refine AllReadyH.cons (o := ?_) ?_ (fun K hK => ?_) AllReadyH.nil
        rotate_left 1
        · simp only [List.getElem?_toArray, List.getElem?_cons_succ, List.getElem?_cons_zero]; rfl
        refine step_pushW (w := w3.drew) elInt rfl (.tmp 18) (.tmp 23) rfl HR4.out rfl [.int .i64 st.tm] rfl (iF_cell st.ts st.tm) (fun _ _ => rfl) (by dsimp only; omega) (by omega) hz3 ?_
        intro vt2 w4 hr4 hf4 ho4
        obtain ⟨at2, ct2, hvt2⟩ := hr4.shape
        subst hvt2
        have HP5 := Lib.hid (HS4.out.setT (w2 := w4.setCell ⟨s, 5, none⟩ (.slice at2 (st.ts.length + 1) ct2)) (ts := st.ts ++ [st.tm]) (by rw [List.length_append]; exact hr4) hf4 ho4 rfl)
        have HF4 := Lib.hid ((Fr.of_below (HD0.out w3) (fun q => (Value.slice at' st.ts.length ct).ownBlock = some q)).trans hf4)
        have HOt := Lib.hid ho4
        clear hr4 hf4 ho4
        refine hK.out _ _ (HC3.out _ HF4.out) (fun hHeld => ?_)
        clear hK K
        try simp only [Act.put, List.setIfInBounds_toArray, List.set_cons_zero, List.set_cons_succ]
        refine wpAnyH_take (i := 11) (oi := ?_) (v := ?_) ?_ (by kernel_rfl) (by kernel_rfl) (by kernel_rfl) ?_ ?_ (by assumption) ?_
        rotate_left 2
        · simp only [List.getElem?_toArray, List.getElem?_cons_succ, List.getElem?_cons_zero]; rfl
        · exact fun _ _ _ h => h
        · first
            | (refine Or.inr ⟨?_, ?_⟩ <;> rfl)
            | (refine Or.inl ⟨?_, ?_⟩; · rfl
               intro w hSw; (try dsimp only at hSw); go_simp; (try with_reducible rfl); done)
        try simp only [Act.put, List.setIfInBounds_toArray, List.set_cons_zero, List.set_cons_succ]
        refine wpAnyH_take (i := 12) (oi := ?_) (v := ?_) ?_ (by kernel_rfl) (by kernel_rfl) (by kernel_rfl) ?_ ?_ (by assumption) ?_
        rotate_left 2
        · simp only [List.getElem?_toArray, List.getElem?_cons_succ, List.getElem?_cons_zero]; rfl
        · exact fun _ _ _ h => h
        · first
            | (refine Or.inr ⟨?_, ?_⟩ <;> rfl)
            | (refine Or.inl ⟨?_, ?_⟩; · rfl
               intro w hSw; (try dsimp only at hSw); go_simp; (try with_reducible rfl); done)
        try simp only [Act.put, List.setIfInBounds_toArray, List.set_cons_zero, List.set_cons_succ]
        have hbx := (HP3.out.box.fr HF4.out hvs3)
        have hbl := hbx.lt
        have hbf := hbx.free
        have hs5 : w4.cell? ⟨s, 5, none⟩ = some (.slice at' st.ts.length ct) := hbx.cell 5
        clear hbx
        refine wpAnyH_ready (rs := [13]) (by kernel_rfl) (by simp) ?_
        refine AllReadyH.cons (o := ?_) ?_ (fun K hK => ?_) AllReadyH.nil
        rotate_left 1
        · simp only [List.getElem?_toArray, List.getElem?_cons_succ, List.getElem?_cons_zero]; rfl
        go_simp
        skip
        refine hK.out _ _ ?_ (fun hHeld => ?_)
        · try dsimp only
          exact HP5.out.1.box.cell 3
        clear hK K
        try simp only [Act.put, List.setIfInBounds_toArray, List.set_cons_zero, List.set_cons_succ]
        refine wpAnyH_done (by kernel_rfl) ?_ _
        clear hHeld hbl hbf hs5
        go_wp2_with fail
        go_end0
        exact ⟨rfl, rec_end HSW.out HO.out HP5.out.1 HF3.out ((Fr.of_below (HD0.out w3) _).trans HP5.out.2) HOm.out HOt.out (by have := HB0.out.size; exact this) (by have := HF3.out.size; exact this)⟩
      · refine AllReadyH.cons (o := ?_) ?_ (fun K hK => ?_) ?_
        rotate_left 1
        · simp only [List.getElem?_toArray, List.getElem?_cons_succ, List.getElem?_cons_zero]; rfl
        · go_simp
          skip
          refine hK.out _ _ ?_ (fun hHeld => ?_)
          · try dsimp only
            exact HC3.out _ (Fr.of_below HB4.out _)
          clear hK K
          try simp only [Act.put, List.setIfInBounds_toArray, List.set_cons_zero, List.set_cons_succ]
          refine wpAnyH_ready (rs := [4]) (by kernel_rfl) (by simp) ?_
          refine AllReadyH.cons (o := ?_) ?_ (fun K hK => ?_) AllReadyH.nil
          rotate_left 1
          · simp only [List.getElem?_toArray, List.getElem?_cons_succ, List.getElem?_cons_zero]; rfl
          go_simp
          skip
          refine hK.out _ _ ?_ (fun hHeld => ?_)
          · try dsimp only
            exact hHeld
          clear hK K
          try simp only [Act.put, List.setIfInBounds_toArray, List.set_cons_zero, List.set_cons_succ]
          clear hs4 ha4 ht3
          refine wpAnyH_ready (rs := [10]) (by kernel_rfl) (by simp) ?_
          refine AllReadyH.cons (o := ?_) ?_ (fun K hK => ?_) AllReadyH.nil
          rotate_left 1
          · simp only [List.getElem?_toArray, List.getElem?_cons_succ, List.getElem?_cons_zero]; rfl
          refine step_pushW (w := w3.drew) elInt rfl (.tmp 18) (.tmp 23) rfl HR4.out rfl [.int .i64 st.tm] rfl (iF_cell st.ts st.tm) (fun _ _ => rfl) (by dsimp only; omega) (by omega) hz3 ?_
          intro vt2 w4 hr4 hf4 ho4
          obtain ⟨at2, ct2, hvt2⟩ := hr4.shape
          subst hvt2
          have HP5 := Lib.hid (HS4.out.setT (w2 := w4.setCell ⟨s, 5, none⟩ (.slice at2 (st.ts.length + 1) ct2)) (ts := st.ts ++ [st.tm]) (by rw [List.length_append]; exact hr4) hf4 ho4 rfl)
          have HF4 := Lib.hid ((Fr.of_below (HD0.out w3) (fun q => (Value.slice at' st.ts.length ct).ownBlock = some q)).trans hf4)
          have HOt := Lib.hid ho4
          clear hr4 hf4 ho4
          refine hK.out _ _ (HC3.out _ HF4.out) (fun hHeld => ?_)
          clear hK K
          try simp only [Act.put, List.setIfInBounds_toArray, List.set_cons_zero, List.set_cons_succ]
          refine wpAnyH_take (i := 11) (oi := ?_) (v := ?_) ?_ (by kernel_rfl) (by kernel_rfl) (by kernel_rfl) ?_ ?_ (by assumption) ?_
          rotate_left 2
          · simp only [List.getElem?_toArray, List.getElem?_cons_succ, List.getElem?_cons_zero]; rfl
          · exact fun _ _ _ h => h
          · first
              | (refine Or.inr ⟨?_, ?_⟩ <;> rfl)
              | (refine Or.inl ⟨?_, ?_⟩; · rfl
                 intro w hSw; (try dsimp only at hSw); go_simp; (try with_reducible rfl); done)
          try simp only [Act.put, List.setIfInBounds_toArray, List.set_cons_zero, List.set_cons_succ]
          refine wpAnyH_take (i := 12) (oi := ?_) (v := ?_) ?_ (by kernel_rfl) (by kernel_rfl) (by kernel_rfl) ?_ ?_ (by assumption) ?_
          rotate_left 2
          · simp only [List.getElem?_toArray, List.getElem?_cons_succ, List.getElem?_cons_zero]; rfl
          · exact fun _ _ _ h => h
          · first
              | (refine Or.inr ⟨?_, ?_⟩ <;> rfl)
              | (refine Or.inl ⟨?_, ?_⟩; · rfl
                 intro w hSw; (try dsimp only at hSw); go_simp; (try with_reducible rfl); done)
          try simp only [Act.put, List.setIfInBounds_toArray, List.set_cons_zero, List.set_cons_succ]
          have hbx := (HP3.out.box.fr HF4.out hvs3)
          have hbl := hbx.lt
          have hbf := hbx.free
          have hs5 : w4.cell? ⟨s, 5, none⟩ = some (.slice at' st.ts.length ct) := hbx.cell 5
          clear hbx
          refine wpAnyH_ready (rs := [13]) (by kernel_rfl) (by simp) ?_
          refine AllReadyH.cons (o := ?_) ?_ (fun K hK => ?_) AllReadyH.nil
          rotate_left 1
          · simp only [List.getElem?_toArray, List.getElem?_cons_succ, List.getElem?_cons_zero]; rfl
          go_simp
          skip
          refine hK.out _ _ ?_ (fun hHeld => ?_)
          · try dsimp only
            exact HP5.out.1.box.cell 3
          clear hK K
          try simp only [Act.put, List.setIfInBounds_toArray, List.set_cons_zero, List.set_cons_succ]
          refine wpAnyH_done (by kernel_rfl) ?_ _
          clear hHeld hbl hbf hs5
          go_wp2_with fail
          go_end0
          exact ⟨rfl, rec_end HSW.out HO.out HP5.out.1 HF3.out ((Fr.of_below (HD0.out w3) _).trans HP5.out.2) HOm.out HOt.out (by have := HB0.out.size; exact this) (by have := HF3.out.size; exact this)⟩
        · exact AllReadyH.nil
    · exact AllReadyH.nil
end Go.Proofs.YtlkdmpfifpkpaaaGreatDoor
namespace Go.Proofs.YtlkdmpfifpkpaaaGreatDoor
open Go.RowKit

theorem Fr.trans2 {S T : Nat → Prop} {a b c : World} (h : Fr S a b) (k : Fr T b c) (hT : ∀ q, T q → S q ∨ a.heap.size ≤ q) : Fr S a c :=
  ⟨k.os.trans h.os, k.tape.trans h.tape, k.output.trans h.output, Nat.le_trans h.size k.size, fun i hi hs => (k.block i (Nat.lt_of_lt_of_le hi h.size) (fun ht => by rcases hT i ht with e | e; exact hs e; omega)).trans (h.block i hi hs)⟩
/-- a session with another line -/
theorem SsC.setLn {z B s g1 c1 g2 c2 p1 d1 p2 d2 : Nat} {vm vt : Value} {st : Ses} {y : Ln} {w : World} (h : SsC z w s g1 c1 g2 c2 vm vt st) (hl : LnO B w (.agg #[.slice (some ⟨p1, 0, none⟩) y.n d1, .slice (some ⟨p2, 0, none⟩) y.m d2]) y) (hB : ∀ q, ownS s g1 g2 vm vt q → q < B) (hz : z ≤ B) :
    SsC z ((w.setCell ⟨s, 0, none⟩ (.slice (some ⟨p1, 0, none⟩) y.n d1)).setCell ⟨s, 1, none⟩ (.slice (some ⟨p2, 0, none⟩) y.m d2)) s p1 d1 p2 d2 vm vt { st with x := y } ∧ p1 ≥ B ∧ p2 ≥ B := by
  obtain ⟨_, _, _, _, e, o1, o2, h12, hg1, hg2⟩ := hl
  cases e
  have hs := hB s (.inl rfl)
  have hm : ∀ q, vm.ownBlock = some q → q < B := fun q e => hB q (.inr (.inr (.inr (.inl e))))
  have ht : ∀ q, vt.ownBlock = some q → q < B := fun q e => hB q (.inr (.inr (.inr (.inr e))))
  have F := ((Fr.set w ⟨s, 0, none⟩ (.slice (some ⟨p1, 0, none⟩) y.n d1)).trans (Fr.set _ ⟨s, 1, none⟩ (.slice (some ⟨p2, 0, none⟩) y.m d2)))
  have hbx := (h.box.set 0 (.slice (some ⟨p1, 0, none⟩) y.n d1)).set 1 (.slice (some ⟨p2, 0, none⟩) y.m d2)
  have ne : ∀ q, q < B → q ≠ p1 ∧ q ≠ p2 := fun q hq => ⟨by omega, by omega⟩
  refine ⟨⟨?_, o1.fr F (by show ¬ (p1 = s); omega), o2.fr F (by show ¬ (p2 = s); omega), h.mv.fr F (fun q e e' => (h.dm q e).1 e'), h.tv.fr F (fun q e e' => (h.dt q e).1 e'), h12, by omega, by omega, fun q e => ⟨(h.dm q e).1, (ne q (hm q e)).1, (ne q (hm q e)).2, (h.dm q e).2.2.2⟩, fun q e => ⟨(h.dt q e).1, (ne q (ht q e)).1, (ne q (ht q e)).2⟩, by omega, by omega, h.zs⟩, hg1, hg2⟩
  simpa using hbx
end Go.Proofs.YtlkdmpfifpkpaaaGreatDoor
namespace Go.Proofs.YtlkdmpfifpkpaaaGreatDoor
open Go.RowKit

/-- the box of BlockNext -/
structure BtM (w wr : World) (q : Nat) : Prop where
  box : Bx wr w.heap.size 76 #[.int .i64 (stB q).n, .bool (stB q).i, .bool (stB q).o]
  bl : Below w.heap.size w wr
theorem BtM.below {w wr w' : World} {q : Nat} (h : BtM w wr q) (hb : Below wr.heap.size wr w') : BtM w w' q :=
  ⟨h.box.below hb h.box.lt, h.bl.trans (hb.mono h.bl.size)⟩
end Go.Proofs.YtlkdmpfifpkpaaaGreatDoor
namespace Go.Proofs.YtlkdmpfifpkpaaaGreatDoor
open Go.RowKit

/-- the boxes of l91Events -/
structure EvM (w wr : World) (R q M : Nat) : Prop where
  box : Bx wr w.heap.size 76 #[.int .i64 (stB q).n, .bool (stB q).i, .bool (stB q).o]
  rd : RdL wr R M
  hR : R < w.heap.size
  gr : w.grownBy wr (some R)
section
variable {w wr w' : World} {R q M M' : Nat}
theorem EvM.lt (h : EvM w wr R q M) : w.heap.size < wr.heap.size := h.box.lt
theorem EvM.below (h : EvM w wr R q M) (hb : Below wr.heap.size wr w') : EvM w w' R q M := ⟨h.box.below hb h.box.lt, h.rd.keep hb, h.hR, grownBy_trans h.gr (grownBy_below hb _)⟩
theorem EvM.drew (h : EvM w wr R q M) : EvM w wr.drew R q M := h.below (Below.refl _ _).drew
theorem EvM.next (h : EvM w wr R q M) (j : Nat) : EvM w (((wr.setCell ⟨w.heap.size, 0, none⟩ (.int .i64 (stB j).n)).setCell ⟨w.heap.size, 1, none⟩ (.bool (stB j).i)).setCell ⟨w.heap.size, 2, none⟩ (.bool (stB j).o)) R j M := by
  have a1 := h.hR
  refine ⟨?_, ((h.rd.set (by omega)).set (by omega)).set (by omega), a1, grow_new (grow_new (grow_new h.gr (grownBy_setCell _ _ _ _) (Nat.le_refl _)) (grownBy_setCell _ _ _ _) (Nat.le_refl _)) (grownBy_setCell _ _ _ _) (Nat.le_refl _)⟩
  have := ((h.box.set 0 (.int .i64 (stB j).n)).set 1 (.bool (stB j).i)).set 2 (.bool (stB j).o)
  simpa using this
end
end Go.Proofs.YtlkdmpfifpkpaaaGreatDoor
namespace Go.Proofs.YtlkdmpfifpkpaaaGreatDoor
open Go.RowKit

/-- a row of notes of its own -/
def OwnN (w : World) (g cap : Nat) (ns : List (Int × ByteArray)) : Prop := Own w g cap ns.length 2 155 (mvF (nM ns) (nL ns))
theorem OwnN.ext {w : World} {g cap : Nat} {ns : List (Int × ByteArray)} (h : OwnN w g cap ns) (z : Int × ByteArray) : Own w g cap ns.length 2 155 (mvF (nM (ns ++ [z])) (nL (ns ++ [z]))) :=
  Own.congr h (mvF_congr (fun _ hk => (nM_old (z := z) hk).1.symm) (fun _ hk => (nM_old (z := z) hk).2.symm))
/-- the first note with another minute, another letter -/
def set0 (ns : List (Int × ByteArray)) (a : Int) (l : ByteArray) : List (Int × ByteArray) := ns.set 0 (a, l)
theorem set0_len (ns : List (Int × ByteArray)) (a : Int) (l : ByteArray) : (set0 ns a l).length = ns.length := by simp [set0]
theorem set0_at {ns : List (Int × ByteArray)} (h : 0 < ns.length) (a : Int) (l : ByteArray) (i : Nat) : nM (set0 ns a l) i = upd (nM ns) 0 a i ∧ nL (set0 ns a l) i = upd (nL ns) 0 l i := by
  unfold nM nL set0 upd
  by_cases h0 : i = 0
  · subst h0
    simp [h]
  · rw [if_neg h0, if_neg h0, List.getElem?_set_ne (by omega)]
    exact ⟨rfl, rfl⟩
theorem OwnN.set0 {w : World} {g cap : Nat} {ns : List (Int × ByteArray)} (h : OwnN w g cap ns) (h0 : 0 < ns.length) (a : Int) (l : ByteArray) : OwnN ((w.setCell ⟨g, 0, none⟩ (.int .i64 a)).setCell ⟨g, 1, none⟩ (.string l)) g cap (Go.Proofs.YtlkdmpfifpkpaaaGreatDoor.set0 ns a l) := by
  have h2 := Own.setMv h 0 a l
  unfold OwnN
  rw [set0_len]
  exact Own.congr h2 (mvF_congr (fun i _ => (set0_at h0 a l i).1.symm) (fun i _ => (set0_at h0 a l i).2.symm))
theorem OwnN.setM {w : World} {g cap : Nat} {ns : List (Int × ByteArray)} (h : OwnN w g cap ns) (h0 : 0 < ns.length) (a : Int) : OwnN (w.setCell ⟨g, 0, none⟩ (.int .i64 a)) g cap (Go.Proofs.YtlkdmpfifpkpaaaGreatDoor.set0 ns a (nL ns 0)) := by
  unfold OwnN
  rw [set0_len]
  refine (Own.set h 0 (.int .i64 a)).congr fun i _ => ?_
  rw [mvF_congr (n := i + 1) (M' := upd (nM ns) 0 a) (L' := upd (nL ns) 0 (nL ns 0)) (fun k _ => (set0_at h0 a (nL ns 0) k).1) (fun k _ => (set0_at h0 a (nL ns 0) k).2) i (by omega), ← mvF_upd (M := nM ns) (L := nL ns) (k := 0) (a := a) (b := nL ns 0) i]
  by_cases e : i = 1
  · subst e; rfl
  · rw [if_neg (show ¬ i = 0 * 2 + 1 by omega)]
/-- all notes of a list are small -/
def SmN (ns : List (Int × ByteArray)) : Prop := ∀ z, z ∈ ns → (-1 ≤ z.1 ∧ z.1 ≤ 2001) ∧ z.2.size ≤ 2
theorem SmN.set0 {ns : List (Int × ByteArray)} (h : SmN ns) {a : Int} {l : ByteArray} (h1 : -1 ≤ a ∧ a ≤ 2001) (h2 : l.size ≤ 2) : SmN (Go.Proofs.YtlkdmpfifpkpaaaGreatDoor.set0 ns a l) := fun y hy => by
  rcases List.mem_or_eq_of_mem_set hy with q | q
  · exact h y q
  · rw [q]; exact ⟨h1, h2⟩
theorem SmN.at {ns : List (Int × ByteArray)} (h : SmN ns) {i : Nat} (hi : i < ns.length) : (-1 ≤ nM ns i ∧ nM ns i ≤ 2001) ∧ (nL ns i).size ≤ 2 := by
  rw [nM_at hi, nL_at hi]
  exact h _ (List.getElem_mem hi)
end Go.Proofs.YtlkdmpfifpkpaaaGreatDoor
namespace Go.Proofs.YtlkdmpfifpkpaaaGreatDoor
open Go.RowKit

/-- append of one element in a region that draws its order -/
theorem step_pushR {P : Program} {w : World} {t e : TypeId} {z : Value} {s bytes : Nat} (he : Elem P t e z s bytes) {ops : Array Oper} {o : Oper} {a : Act} {K : Act → World → Prop} {Q : Exit → Act → World → Prop} {E : Prop} (hgd : o.guard = none) (so xo : Operand)
    (ho : o.op = .call { callee := .builtin .append, args := #[so, xo], argTypes := #[t, t] }) {g cap n : Nat} {f : Nat → Value} (hown : Own w g cap n s e f) (hs : a.eval so = .slice (some ⟨g, 0, none⟩) n cap) (vs : List Value)
    (hx : a.eval xo = .slice (some ⟨w.heap.size, 0, none⟩) 1 1) (hnew : ∀ j, j < s → vs[j]? = some (f (n * s + j))) (h1 : ∀ j, j < s → (f (n * s + j)).oneCell' = true)
    (h63 : n + 1 ≤ maxLen) (hbytes : (n + 1) * bytes ≤ 140737488355328)
    (h : ∀ g' cap' w', Own w' g' cap' (n + 1) s e f → w.grownBy w' (some g) → ((g' = g ∧ cap' = cap) ∨ w.heap.size < g') → K (a.put o.dst (.slice (some ⟨g', 0, none⟩) (n + 1) cap')) w') : if Region.wanted o (yielded ops a.tmps) = true then Oper.wp P o a (w.alloc (.cells vs.toArray e)) K Q else E := by
  refine step_app he hgd so xo ho (hown.alloc _) hs ⟨w.heap.size, 0, none⟩ 1 1 hx (fun j hj => ?_) (fun j hj => h1 j (by omega)) h63 hbytes (fun g' cap' w' h2 h3 h4 => ?_)
  · rw [addr_add, Nat.zero_add]
    have hh : (w.alloc (.cells vs.toArray e)).heap[w.heap.size]? = some (.cells vs.toArray e (0, 0)) := heap_alloc_new _ _
    simp only [World.cell?, hh]
    simpa using hnew j (by omega)
  · refine h g' cap' w' h2 (grownBy_trans (World.grownBy_alloc w _ _) h3) ?_
    rcases h4 with h4 | h4
    · exact .inl h4
    · right
      have : (w.alloc (.cells vs.toArray e)).heap.size = w.heap.size + 1 := by simp
      omega
/-- between two rounds of RegisterOf -/
structure RoI (w wr : World) (g cap : Nat) (xs : List (Int × ByteArray)) : Prop where
  ow : OwnN wr g cap xs
  gz : w.heap.size ≤ g
  bl : Below w.heap.size w wr
theorem RoI.keep {w wr wa : World} {g cap : Nat} {xs : List (Int × ByteArray)} (h : RoI w wr g cap xs) (hb : Below wr.heap.size wr wa) : RoI w wa g cap xs :=
  ⟨Own.below h.ow hb (Own.lt h.ow), h.gz, h.bl.trans (hb.mono h.bl.size)⟩
theorem RoI.push {w wr wa : World} {g cap g' c' : Nat} {xs : List (Int × ByteArray)} {z : Int × ByteArray} (h : RoI w wr g cap xs) (HA : Own wa g' c' (xs.length + 1) 2 155 (mvF (nM (xs ++ [z])) (nL (xs ++ [z])))) (hgr : wr.grownBy wa (some g)) (hd : g' = g ∨ wr.heap.size ≤ g') :
    RoI w wa g' c' (xs ++ [z]) := by
  have hgz := h.gz
  have hbs := h.bl.size
  refine ⟨?_, ?_, h.bl.trans (below_of_grown hgr hgz hbs)⟩
  · unfold OwnN
    rw [List.length_append]
    exact HA
  · rcases hd with q | q <;> omega
end Go.Proofs.YtlkdmpfifpkpaaaGreatDoor
namespace Go.Proofs.YtlkdmpfifpkpaaaGreatDoor
open Go.RowKit

/-- the world facts that the library asks for -/
structure WF (m : Int) (w : World) : Prop where
  mx : w.cell? ⟨0, 0, none⟩ = some (.int .i64 m)
  tab : Lib.TabIs Tryz.prog w "internal/strconv.uint64pow10" .u64 Lib.pow10Tab
theorem var_keep {w w' : World} {nm : String} {r : Array Value} (h : w.var? Tryz.prog nm = some r) (hb : Below w.heap.size w w') : w'.var? Tryz.prog nm = some r := by
  unfold World.var? at h ⊢
  cases hg : Tryz.prog.globalNamed nm with
  | none => rw [hg] at h; cases h
  | some g =>
    rw [hg] at h
    simp only [Option.bind_some] at h ⊢
    have hlt : g < w.heap.size := by
      rcases Nat.lt_or_ge g w.heap.size with h' | h'
      · exact h'
      · simp [Array.getElem?_eq_none h'] at h
    rw [hb.block g hlt]
    exact h
theorem WF.below {m : Int} {w w' : World} (h : WF m w) (hb : Below w.heap.size w w') : WF m w' :=
  ⟨by rw [hb.cell (p := ⟨0, 0, none⟩) (World.block_lt_of_cell? w ⟨0, 0, none⟩ h.mx)]; exact h.mx, var_keep h.tab hb⟩
/-- a number as Itoa writes it -/
def itT (n : Int) : ByteArray := ⟨(Lib.itoa n).toArray⟩
theorem itT_size (n : Int) (h0 : -9223372036854775808 ≤ n) (h1 : n ≤ 9223372036854775807) : (itT n).size ≤ 21 := by
  have := Lib.itoa_length_le n h0 h1
  unfold itT
  show (Lib.itoa n).toArray.size ≤ 21
  simpa using this
theorem itoa_any {m : Int} (n : Int) (h0 : -9223372036854775808 ≤ n) (h1 : n ≤ 9223372036854775807) (w : World) (hW : WF m w) :
    Calls Tryz.prog 38 #[.int .i64 n] w fun e w' => e = .returned (.string (itT n)) ∧ Below w.heap.size w w' :=
  (Tryz.strconv_Itoa n h0 h1 w hW.tab).mono fun _ _ ⟨e1, k, os, e2⟩ => ⟨e1, by rw [e2]; exact Lib.below_grow _ _ (Nat.le_refl _) _ _⟩
/-- a row of texts of its own -/
def OwT (w : World) (g cap n : Nat) (tx : Nat → ByteArray) : Prop := Own w g cap n 1 9 (fun i => .string (tx i))
/-- the texts of a row, joined -/
def jnT (tx : Nat → ByteArray) (n : Nat) : ByteArray := ⟨(Lib.join ((List.range n).map fun i => (tx i).data.toList) [32]).toArray⟩
theorem lens_le (B : Nat) : ∀ xs : List (List UInt8), (∀ x ∈ xs, x.length ≤ B) → Lib.lens xs ≤ xs.length * B
  | [], _ => by simp [Lib.lens]
  | x :: r, h => by
    have h1 := lens_le B r (fun y hy => h y (List.mem_cons_of_mem _ hy))
    have h2 := h x (List.mem_cons_self ..)
    have h3 : Lib.lens (x :: r) = x.length + Lib.lens r := by simp [Lib.lens]
    rw [h3, List.length_cons, Nat.succ_mul]
    omega
theorem join_len (xs : List (List UInt8)) (c : UInt8) (B : Nat) (h : ∀ x ∈ xs, x.length ≤ B) : (Lib.join xs [c]).length ≤ xs.length * (B + 1) := by
  cases xs with
  | nil => simp [Lib.join_nil]
  | cons x r =>
    have := lens_le B (x :: r) h
    rw [Lib.join_length, Nat.mul_add]
    simp only [List.length_cons, List.length_nil] at this ⊢
    omega
theorem join_any (g c n : Nat) (tx : Nat → ByteArray) (w : World) (hn : n ≤ 1000) (hB : ∀ i, i < n → (tx i).size ≤ 1000) (h : OwT w g c n tx) :
    Calls Tryz.prog 127 #[.slice (some ⟨g, 0, none⟩) n c, .string ⟨#[32]⟩] w fun e w' => e = .returned (.string (jnT tx n)) ∧ Below w.heap.size w w' := by
  have q := Tryz.strings_Join g 0 c ((List.range n).map tx) ⟨#[32]⟩ w (fun j x hj => ?_) h.lt (by simp; omega) (by simpa using h.1) ?_
  · simpa [jnT, Function.comp_def] using q
  · rw [List.getElem?_map] at hj
    rcases Nat.lt_or_ge j n with hlt | hge
    · rw [List.getElem?_range hlt] at hj
      cases hj
      rw [Nat.zero_add]
      exact h.cell (i := j) (by omega)
    · rw [List.getElem?_eq_none (by simpa using hge)] at hj
      cases hj
  · have := join_len ((((List.range n).map tx).map (·.data.toList))) 32 1000 (fun x hx => by
      simp only [List.mem_map, List.mem_range] at hx
      obtain ⟨_, ⟨i, hi, rfl⟩, rfl⟩ := hx
      simpa using hB i hi)
    simp only [List.length_map, List.length_range] at this
    have h2 : n * (1000 + 1) ≤ 1000 * 1001 := Nat.mul_le_mul_right _ hn
    show (Lib.join _ [32]).length ≤ _
    omega
end Go.Proofs.YtlkdmpfifpkpaaaGreatDoor
namespace Go.Proofs.YtlkdmpfifpkpaaaGreatDoor
open Go.RowKit

theorem elStr : Elem Tryz.prog 60 9 (.string ⟨#[]⟩) 1 16 := ⟨Tryz.underlying60, by kernel_rfl, rfl, by decide⟩
/-- between two rounds of a loop that tells texts -/
structure TdI (w wr : World) (g cap j : Nat) (tx : Nat → ByteArray) : Prop where
  ow : OwT wr g cap j tx
  gz : w.heap.size ≤ g
  bl : Below w.heap.size w wr
theorem TdI.keep {w wr wa : World} {g cap j : Nat} {tx : Nat → ByteArray} (h : TdI w wr g cap j tx) (hb : Below wr.heap.size wr wa) : TdI w wa g cap j tx :=
  ⟨Own.below h.ow hb (Own.lt h.ow), h.gz, h.bl.trans (hb.mono h.bl.size)⟩
theorem TdI.push {w wr wa : World} {g cap g' c' j : Nat} {tx : Nat → ByteArray} (h : TdI w wr g cap j tx) (HA : OwT wa g' c' (j + 1) tx) (hgr : wr.grownBy wa (some g)) (hd : g' = g ∨ wr.heap.size ≤ g') : TdI w wa g' c' (j + 1) tx := by
  have hgz := h.gz
  have hbs := h.bl.size
  refine ⟨HA, ?_, h.bl.trans (below_of_grown hgr hgz hbs)⟩
  rcases hd with q | q <;> omega
end Go.Proofs.YtlkdmpfifpkpaaaGreatDoor
namespace Go.Proofs.YtlkdmpfifpkpaaaGreatDoor
open Go.RowKit

/-- numbers with spaces between -/
def spT (f : Nat → Int) (n : Nat) : ByteArray := jnT (fun i => itT (f i)) n
set_option linter.unusedSimpArgs false in
set_option maxRecDepth 100000 in
set_option maxHeartbeats 4000000 in
theorem spaced_any (b off n c : Nat) (f : Nat → Int) (m : Int) (w : World) (hW : WF m w) (hn : n ≤ 1000) (hf : ∀ k, k < n → -1000000 ≤ f k ∧ f k ≤ 1000000) (h : IC w b off n f) :
    Calls Tryz.prog 125 #[.slice (some ⟨b, off, none⟩) n c] w fun e w' => e = .returned (.string (spT f n)) ∧ Below w.heap.size w w' := by
  have hmk := fun w => run_mk0 elStr n (by omega) (by omega) w
  have HWF := Lib.hid hW
  have HF := Lib.hid hf
  have HC := Lib.hid h
  have HI0 : Hid (TdI w (w.alloc (.cells (madeCells #[.string ⟨#[]⟩] (n * 1)) 9)) w.heap.size n 0 (fun i => itT (f i))) := ⟨own_made _ _ _ _ _ _ (by unfold maxLen; omega), Nat.le_refl _, below_all _ _⟩
  clear hW hf h
  go_enter Tryz.func125, Tryz.ntmps125
  go_wp2_with fail
  go_loopw [3, 5, 11] (fun o _ i wr => ∃ j g cap : Nat, j ≤ n ∧ i = .int .i64 j ∧ o = .slice (some ⟨g, 0, none⟩) j cap ∧ Hid (TdI w wr g cap j (fun i => itT (f i)))) (fun _ _ i _ => n - (intOf i).toNat)
  case atStart => exact ⟨0, w.heap.size, n, Nat.zero_le _, rfl, rfl, by simpa using HI0⟩
  case round =>
    obtain ⟨j, g, cap, hj, rfl, rfl, HI⟩ := hrel
    by_cases hlt : j < n
    · have hji : (j : Int) < (n : Int) := by omega
      have hck := (HC.out.keep HI.out.bl).at j hlt
      have HFJ := Lib.hid (HF.out j hlt)
      generalize hfj : f j = fj at *
      go_wp2_with fail
      refine (itoa_any fj (by have := HFJ.out; omega) (by have := HFJ.out; omega) _ (HWF.out.below HI.out.bl)).mono ?_
      rintro e w2 ⟨rfl, hb2⟩
      have HI2 := Lib.hid (HI.out.keep hb2)
      clear hb2 hck
      go_wp2_with (at_builtin; refine wpList_pushV elStr rfl (.tmp 15) (.tmp 18) (by rfl) (f := fun i => .string (itT (f i))) HI2.out.ow (by rfl) (by rfl) (by rw [hfj]) rfl (by omega) (by omega) ?_; intro g' c' wa HA hgr hd; have HI3 := Lib.hid (HI2.out.push HA hgr (hd.imp And.left Nat.le_of_lt)); clear HA hgr hd)
      go_roundw
      case rel => exact ⟨j + 1, g', c', by omega, by go_num, by simp, HI3⟩
      case measure => simp [intOf]; omega
    · obtain rfl : j = n := by omega
      have HJ := Lib.hid (join_any g cap j (fun i => itT (f i)) wr (by omega) (fun i hi => by have := HF.out i hi; have := itT_size (f i) (by omega) (by omega); omega) HI.out.ow)
      go_wp2_with fail
      refine HJ.out.mono ?_
      rintro e w3 ⟨rfl, hb3⟩
      have HB3 := Lib.hid (HI.out.bl.trans (hb3.mono HI.out.bl.size))
      clear hb3
      go_wp2_with fail
      go_ret
      exact ⟨rfl, HB3.out⟩
/-- what where says -/
def whO (st : Ses) : ByteArray := spT st.x.T st.x.m
set_option linter.unusedSimpArgs false in
set_option maxRecDepth 100000 in
set_option maxHeartbeats 4000000 in
theorem doWhere_any (z s bw n c : Nat) (m : Int) (st : Ses) (own : Nat → Prop) (w : World) (hW : WF m w) (hS : StS z st own w s) (hm : st.x.m ≤ 1000) (hT : ∀ k, k < st.x.m → -1000000 ≤ st.x.T k ∧ st.x.T k ≤ 1000000) :
    Calls Tryz.prog 100 #[.pointer (some ⟨s, 0, none⟩), .slice (some ⟨bw, 0, none⟩) n c] w (Md z st (whO st) s own w) := by
  have HS := Lib.hid hS
  obtain ⟨g1, c1, g2, c2, vm, vt, h1, _⟩ := hS
  have HSP := Lib.hid (spaced_any g2 0 st.x.m c2 st.x.T m w hW hm hT (IC.of_own h1.tr))
  have hsc := h1.box.cell
  clear h1 hW hT
  go_enter Tryz.func100, Tryz.ntmps100
  go_wp2_with fail
  refine HSP.out.mono ?_
  rintro e w2 ⟨rfl, hb2⟩
  have HB2 := Lib.hid hb2
  clear hb2 hsc
  go_wp2_with fail
  go_ret
  exact ⟨rfl, own, HS.out.keep (Fr.of_below HB2.out _), Fr.of_below HB2.out own, fun _ hq => .inl hq⟩
end Go.Proofs.YtlkdmpfifpkpaaaGreatDoor
namespace Go.Proofs.YtlkdmpfifpkpaaaGreatDoor
open Go.RowKit

theorem mvI_mem {x : Ln} {k i : Nat} {y : Int × ByteArray} (h : y ∈ mvI x k i) : ∃ c : UInt8, y = ((k : Int), chr c) := by
  unfold mvI at h
  obtain ⟨c, _, rfl⟩ := List.mem_map.1 h
  exact ⟨c, rfl⟩
theorem mvU_mem {x : Ln} {y : Int × ByteArray} {n : Nat} (h : y ∈ mvU x n) : ∃ (k : Nat) (c : UInt8), k < n ∧ y = ((k : Int), chr c) := by
  unfold mvU at h
  obtain ⟨k, hk, hy⟩ := List.mem_flatMap.1 h
  obtain ⟨c, rfl⟩ := mvI_mem hy
  exact ⟨k, c, List.mem_range.1 hk, rfl⟩
theorem lmL_mem {x : Ln} {y : Int × ByteArray} (h : y ∈ lmL x) : ∃ (k : Nat) (c : UInt8), k < 5 ∧ y = ((k : Int), chr c) := by
  unfold lmL at h
  cases hv : vldL x with
  | false => rw [hv] at h; cases h
  | true =>
    rw [hv, if_pos rfl] at h
    obtain ⟨k, c, hk, e⟩ := mvU_mem h
    exact ⟨k, c, by have := (vldL_true hv).2.1; omega, e⟩
theorem mvM_at {ys : List (Int × ByteArray)} {i : Nat} (h : i < ys.length) : mvM ys i = ys[i].1 ∧ mvS ys i = ys[i].2 := by
  unfold mvM mvS
  rw [List.getElem?_eq_getElem h]
  exact ⟨rfl, rfl⟩
theorem lmL_at {x : Ln} {i : Nat} (h : i < (lmL x).length) : (0 ≤ mvM (lmL x) i ∧ mvM (lmL x) i ≤ 5) ∧ (mvS (lmL x) i).size = 1 := by
  obtain ⟨e1, e2⟩ := mvM_at h
  obtain ⟨k, c, hk, e⟩ := lmL_mem (List.getElem_mem h)
  rw [e1, e2, e]
  exact ⟨⟨by show (0 : Int) ≤ (k : Int); omega, by show (k : Int) ≤ 5; omega⟩, rfl⟩
/-- the words of some moves -/
def nxW (ys : List (Int × ByteArray)) (i : Nat) : ByteArray := itT (mvM ys i) ++ mvS ys i
/-- what next says -/
def nxO (st : Ses) : ByteArray := jnT (nxW (lmL st.x)) (lmL st.x).length
set_option linter.unusedSimpArgs false in
set_option maxRecDepth 100000 in
set_option maxHeartbeats 4000000 in
theorem doNext_any (z s bw n c : Nat) (m : Int) (st : Ses) (own : Nat → Prop) (w : World) (hW : WF m w) (hS : StS z st own w s) (hxn : st.x.n ≤ 1000 ∧ st.x.m ≤ 1000) :
    Calls Tryz.prog 101 #[.pointer (some ⟨s, 0, none⟩), .slice (some ⟨bw, 0, none⟩) n c] w (Md z st (nxO st) s own w) := by
  have HS := Lib.hid hS
  have HWF := Lib.hid hW
  obtain ⟨g1, c1, g2, c2, vm, vt, h1, _⟩ := hS
  have HLM := Lib.hid (lineMoves_any g1 0 c1 g2 0 c2 st.x w (by omega) (by omega) (BkC.of_own h1.bs) (IC.of_own h1.tr))
  have hsc := h1.box.cell
  have HNO : Hid (nxO st = jnT (nxW (lmL st.x)) (lmL st.x).length) := rfl
  have HLT : Hid (∀ i, i < (lmL st.x).length → (0 ≤ mvM (lmL st.x) i ∧ mvM (lmL st.x) i ≤ 5) ∧ (mvS (lmL st.x) i).size = 1) := fun i h => lmL_at h
  have hlen := lmL_len st.x
  clear h1 hW hxn
  generalize lmL st.x = ys at *
  go_enter Tryz.func101, Tryz.ntmps101
  go_wp2_with fail
  refine HLM.out.mono ?_
  rintro e w2 ⟨⟨v, gv, rfl, hrow⟩, hb2⟩
  have HB2 := Lib.hid hb2
  have hv : ∃ ao cy, v = .slice ao ys.length cy ∧ (0 < ys.length → ∃ b, ao = some ⟨b, 0, none⟩ ∧ Hid (∀ W, Below w2.heap.size w2 W → MvsC W b 0 ys.length (mvM ys) (mvS ys))) := by
    rcases hrow with ⟨b, cy, _, rfl, _, ho⟩ | ⟨_, e, rfl⟩
    · exact ⟨_, _, rfl, fun _ => ⟨b, rfl, Lib.hid fun W h => (MvsC.of_own ho).keep h⟩⟩
    · exact ⟨none, 0, by rw [e]; rfl, fun h => by rw [e] at h; exact absurd h (by decide)⟩
  obtain ⟨ao, cy, rfl, hvc⟩ := hv
  clear hrow hb2 hsc HLM
  have hmk := fun w => run_mk0 elStr ys.length (by omega) (by omega) w
  have HVC := Lib.hid hvc
  clear hvc
  go_wp2_with fail
  have HI0 : Hid (TdI w2 (w2.alloc (.cells (madeCells #[.string ⟨#[]⟩] (ys.length * 1)) 9)) w2.heap.size ys.length 0 (nxW ys)) := ⟨own_made _ _ _ _ _ _ (by unfold maxLen; omega), Nat.le_refl _, below_all _ _⟩
  have HWF2 := Lib.hid (HWF.out.below HB2.out)
  have HBS : Hid (∀ i, i < ys.length → (nxW ys i).size ≤ 1000) := fun i hi => by
    have h := HLT.out i hi
    have := itT_size (mvM ys i) (by omega) (by omega)
    unfold nxW
    rw [ByteArray.size_append]
    omega
  go_loopw [6, 8, 19] (fun o _ i wr => ∃ j g cap : Nat, j ≤ ys.length ∧ i = .int .i64 j ∧ o = .slice (some ⟨g, 0, none⟩) j cap ∧ Hid (TdI w2 wr g cap j (nxW ys))) (fun _ _ i _ => ys.length - (intOf i).toNat)
  case atStart => exact ⟨0, w2.heap.size, ys.length, Nat.zero_le _, rfl, rfl, by simpa using HI0⟩
  case round =>
    obtain ⟨j, g, cap, hj, rfl, rfl, HI⟩ := hrel
    by_cases hlt : j < ys.length
    · have hji : (j : Int) < (ys.length : Int) := by omega
      obtain ⟨b, rfl, HN⟩ := HVC.out (by omega)
      obtain ⟨c0, c1⟩ := HN.out _ HI.out.bl j hlt
      rw [Nat.zero_add] at c0 c1
      have HTX : Hid (nxW ys j = itT (mvM ys j) ++ mvS ys j) := rfl
      have HMB := Lib.hid (HLT.out j hlt)
      generalize mvM ys j = m1 at *
      generalize mvS ys j = l1 at *
      have HX : Hid (Bx (wr.alloc (.cells #[.int .i64 m1, .string l1] 94)) wr.heap.size 94 #[.int .i64 m1, .string l1]) := Bx.new _ _ _
      have HI1 : Hid (TdI w2 (wr.alloc (.cells #[.int .i64 m1, .string l1] 94)) g cap j (nxW ys)) := HI.out.keep (below_all _ _)
      go_wp2_with fail
      clear c0 c1
      have hgl : g < wr.heap.size := Own.lt HI.out.ow
      have hsz : ¬ 9223372036854775807 < (itT m1).size + l1.size := by rw [← ByteArray.size_append]; have := HBS.out j hlt; rw [HTX.out] at this; omega
      generalize wr.alloc (.cells #[.int .i64 m1, .string l1] 94) = W1 at *
      have HBd1 : Hid (Below W1.heap.size W1 W1.drew) := (Below.refl _ _).drew
      have HC1 : Hid (∀ W, Below W1.heap.size W1 W → W.cell? ⟨wr.heap.size, 0, none⟩ = some (.int .i64 m1) ∧ W.cell? ⟨wr.heap.size, 1, none⟩ = some (.string l1)) := fun W h => ⟨(HX.out.below h HX.out.lt).cell 0, (HX.out.below h HX.out.lt).cell 1⟩
      refine wp_region_held_drew (S := fun W => W.cell? ⟨wr.heap.size, 0, none⟩ = some (.int .i64 m1) ∧ W.cell? ⟨wr.heap.size, 1, none⟩ = some (.string l1)) (by kernel_rfl) (HC1.out _ HBd1.out) (fun hHeld => ?_)
      refine wpAnyH_take (i := 0) (oi := ?_) (v := ?_) ?_ (by kernel_rfl) (by kernel_rfl) (by kernel_rfl) ?_ ?_ (by assumption) ?_
      rotate_left 2
      · simp only [List.getElem?_toArray, List.getElem?_cons_succ, List.getElem?_cons_zero]; rfl
      · exact fun _ _ _ h => h
      · first
          | (refine Or.inr ⟨?_, ?_⟩ <;> rfl)
          | (refine Or.inl ⟨?_, ?_⟩; · rfl
             intro w hSw; (try dsimp only at hSw); go_simp; (try with_reducible rfl); done)
      try simp only [Act.put, List.setIfInBounds_toArray, List.set_cons_zero, List.set_cons_succ]
      refine wpAnyH_take (i := 1) (oi := ?_) (v := ?_) ?_ (by kernel_rfl) (by kernel_rfl) (by kernel_rfl) ?_ ?_ (by assumption) ?_
      rotate_left 2
      · simp only [List.getElem?_toArray, List.getElem?_cons_succ, List.getElem?_cons_zero]; rfl
      · exact fun _ _ _ h => h
      · first
          | (refine Or.inr ⟨?_, ?_⟩ <;> rfl)
          | (refine Or.inl ⟨?_, ?_⟩; · rfl
             intro w hSw; (try dsimp only at hSw); go_simp; (try with_reducible rfl); done)
      try simp only [Act.put, List.setIfInBounds_toArray, List.set_cons_zero, List.set_cons_succ]
      refine wpAnyH_take (i := 2) (oi := ?_) (v := ?_) ?_ (by kernel_rfl) (by kernel_rfl) (by kernel_rfl) ?_ ?_ (by assumption) ?_
      rotate_left 2
      · simp only [List.getElem?_toArray, List.getElem?_cons_succ, List.getElem?_cons_zero]; rfl
      · exact fun _ _ _ h => h
      · first
          | (refine Or.inr ⟨?_, ?_⟩ <;> rfl)
          | (refine Or.inl ⟨?_, ?_⟩; · rfl
             intro w hSw; (try dsimp only at hSw); go_simp; (try with_reducible rfl); done)
      try simp only [Act.put, List.setIfInBounds_toArray, List.set_cons_zero, List.set_cons_succ]
      refine wpAnyH_take (i := 4) (oi := ?_) (v := ?_) ?_ (by kernel_rfl) (by kernel_rfl) (by kernel_rfl) ?_ ?_ (by assumption) ?_
      rotate_left 2
      · simp only [List.getElem?_toArray, List.getElem?_cons_succ, List.getElem?_cons_zero]; rfl
      · exact fun _ _ _ h => h
      · first
          | (refine Or.inr ⟨?_, ?_⟩ <;> rfl)
          | (refine Or.inl ⟨?_, ?_⟩; · rfl
             intro w hSw; (try dsimp only at hSw); go_simp; (try with_reducible rfl); done)
      try simp only [Act.put, List.setIfInBounds_toArray, List.set_cons_zero, List.set_cons_succ]
      refine wpAnyH_take (i := 5) (oi := ?_) (v := ?_) ?_ (by kernel_rfl) (by kernel_rfl) (by kernel_rfl) ?_ ?_ (by assumption) ?_
      rotate_left 2
      · simp only [List.getElem?_toArray, List.getElem?_cons_succ, List.getElem?_cons_zero]; rfl
      · exact fun _ _ _ h => h
      · first
          | (refine Or.inr ⟨?_, ?_⟩ <;> rfl)
          | (refine Or.inl ⟨?_, ?_⟩; · rfl
             intro w hSw; (try dsimp only at hSw); go_simp; (try with_reducible rfl); done)
      try simp only [Act.put, List.setIfInBounds_toArray, List.set_cons_zero, List.set_cons_succ]
      refine wpAnyH_ready (rs := [3]) (by kernel_rfl) (by simp) ?_
      refine AllReadyH.cons (o := ?_) ?_ (fun K hK => ?_) AllReadyH.nil
      rotate_left 1
      · simp only [List.getElem?_toArray, List.getElem?_cons_succ, List.getElem?_cons_zero]; rfl
      go_simp
      go_at_call 38
      go_must (refine Calls.mono (itoa_any m1 (by have := HMB.out; omega) (by have := HMB.out; omega) _ (HWF2.out.below ((HI1.out.bl.trans (HBd1.out.mono HI1.out.bl.size)))) ) ?_)
      rintro e wi ⟨rfl, hbi⟩
      have HBi : Hid (Below W1.heap.size W1 wi) := HBd1.out.trans (hbi.mono HBd1.out.size)
      clear hbi
      refine hK.out _ _ ?_ (fun hHeld => ?_)
      · try dsimp only
        exact HC1.out _ HBi.out
      clear hK K
      try simp only [Act.put, List.setIfInBounds_toArray, List.set_cons_zero, List.set_cons_succ]
      refine wpAnyH_take (i := 6) (oi := ?_) (v := ?_) ?_ (by kernel_rfl) (by kernel_rfl) (by kernel_rfl) ?_ ?_ (by assumption) ?_
      rotate_left 2
      · simp only [List.getElem?_toArray, List.getElem?_cons_succ, List.getElem?_cons_zero]; rfl
      · exact fun _ _ _ h => h
      · first
          | (refine Or.inr ⟨?_, ?_⟩ <;> rfl)
          | (refine Or.inl ⟨?_, ?_⟩; · rfl
             intro w hSw; (try dsimp only at hSw); go_simp; (try with_reducible rfl); done)
      try simp only [Act.put, List.setIfInBounds_toArray, List.set_cons_zero, List.set_cons_succ]
      refine wpAnyH_ready (rs := [7]) (by kernel_rfl) (by simp) ?_
      refine AllReadyH.cons (o := ?_) ?_ (fun K hK => ?_) AllReadyH.nil
      rotate_left 1
      · simp only [List.getElem?_toArray, List.getElem?_cons_succ, List.getElem?_cons_zero]; rfl
      go_simp
      skip
      refine hK.out _ _ ?_ (fun hHeld => ?_)
      · try dsimp only
        exact HC1.out _ (HBi.out.alloc HBi.out.size _)
      clear hK K
      try simp only [Act.put, List.setIfInBounds_toArray, List.set_cons_zero, List.set_cons_succ]
      have HIi := Lib.hid (HI1.out.keep HBi.out)
      refine wpAnyH_ready (rs := [8]) (by kernel_rfl) (by simp) ?_
      refine AllReadyH.cons (o := ?_) ?_ (fun K hK => ?_) AllReadyH.nil
      rotate_left 1
      · simp only [List.getElem?_toArray, List.getElem?_cons_succ, List.getElem?_cons_zero]; rfl
      refine step_pushR (w := wi) elStr rfl (.tmp 23) (.tmp 30) rfl HIi.out.ow rfl [.string (itT m1 ++ l1)] rfl (fun q hq => by
        obtain rfl : q = 0 := by omega
        simp [HTX.out]) (fun _ _ => rfl) (by unfold maxLen; omega) (by omega) ?_
      intro g' c' wa HA hgr hd
      have HI2 := HIi.out.push HA hgr (hd.imp And.left Nat.le_of_lt)
      have HSW : Hid (wa.cell? ⟨wr.heap.size, 0, none⟩ = some (.int .i64 m1) ∧ wa.cell? ⟨wr.heap.size, 1, none⟩ = some (.string l1)) := ⟨((HX.out.below HBi.out HX.out.lt).kept hgr (by simp; omega)).cell 0, ((HX.out.below HBi.out HX.out.lt).kept hgr (by simp; omega)).cell 1⟩
      clear HA hgr hd
      refine hK.out _ _ HSW.out (fun hHeld => ?_)
      clear hK K
      try simp only [Act.put, List.setIfInBounds_toArray, List.set_cons_zero, List.set_cons_succ]
      refine wpAnyH_take (i := 9) (oi := ?_) (v := ?_) ?_ (by kernel_rfl) (by kernel_rfl) (by kernel_rfl) ?_ ?_ (by assumption) ?_
      rotate_left 2
      · simp only [List.getElem?_toArray, List.getElem?_cons_succ, List.getElem?_cons_zero]; rfl
      · exact fun _ _ _ h => h
      · first
          | (refine Or.inr ⟨?_, ?_⟩ <;> rfl)
          | (refine Or.inl ⟨?_, ?_⟩; · rfl
             intro w hSw; (try dsimp only at hSw); go_simp; (try with_reducible rfl); done)
      try simp only [Act.put, List.setIfInBounds_toArray, List.set_cons_zero, List.set_cons_succ]
      refine wpAnyH_done (by kernel_rfl) ?_ _
      go_wp2_with fail
      go_roundw
      case rel => exact ⟨j + 1, g', c', by omega, by go_num, by simp, HI2⟩
      case measure => simp [intOf]; omega
    · obtain rfl : j = ys.length := by omega
      have HJ := Lib.hid (join_any g cap ys.length (nxW ys) wr (by omega) HBS.out HI.out.ow)
      go_wp2_with fail
      refine HJ.out.mono ?_
      rintro e w3 ⟨rfl, hb3⟩
      have HB3 := Lib.hid (HB2.out.trans ((HI.out.bl.trans (hb3.mono HI.out.bl.size)).mono HB2.out.size))
      clear hb3
      go_wp2_with fail
      go_ret
      exact ⟨by rw [HNO.out]; rfl, own, HS.out.keep (Fr.of_below HB3.out _), Fr.of_below HB3.out own, fun _ hq => .inl hq⟩
end Go.Proofs.YtlkdmpfifpkpaaaGreatDoor
namespace Go.Proofs.YtlkdmpfifpkpaaaGreatDoor
open Go.RowKit

theorem gPow : Tryz.prog.globalNamed "internal/strconv.uint64pow10" = some 1 := by kernel_rfl
theorem WF.size {m : Int} {w : World} (h : WF m w) : 2 ≤ w.heap.size := by
  have h1 := h.tab
  unfold Lib.TabIs World.var? at h1
  rw [gPow] at h1
  simp only [Option.bind_some] at h1
  rcases Nat.lt_or_ge 1 w.heap.size with h' | h'
  · omega
  · simp [Array.getElem?_eq_none h'] at h1
theorem WF.fr {S : Nat → Prop} {m : Int} {w w' : World} (h : WF m w) (hf : Fr S w w') (hS : ∀ q, S q → 2 ≤ q) : WF m w' := by
  have hs := h.size
  refine ⟨?_, ?_⟩
  · have hb := hf.block 0 (by omega) (fun e => by have := hS 0 e; omega)
    have hm := h.mx
    simp only [World.cell?] at hm ⊢
    rw [hb]
    exact hm
  · have hb := hf.block 1 (by omega) (fun e => by have := hS 1 e; omega)
    have h1 := h.tab
    unfold Lib.TabIs World.var? at h1 ⊢
    rw [gPow] at h1 ⊢
    simp only [Option.bind_some] at h1 ⊢
    rw [hb]
    exact h1
/-- a line of a script on a session: the session behind it and what it says -/
def Ans (st : Ses) (t : ByteArray) (st' : Ses) (o : ByteArray) : Prop :=
  ∀ (z s : Nat) (m : Int) (own : Nat → Prop) (w : World), z ≤ w.heap.size → 2 ≤ z → WF m w → StS z st own w s → Calls Tryz.prog 37 #[.pointer (some ⟨s, 0, none⟩), .string t] w (Md z st' o s own w)
/-- a session as the commands keep it -/
structure SesOk (st : Ses) : Prop where
  xv : vldL st.x = true
  t0 : 0 ≤ st.tm
  t1 : st.tm ≤ 2000
  ml : st.ms.length ≤ 100
  tl : st.ts.length = st.ms.length
theorem SesOk.xn {st : Ses} (h : SesOk st) : st.x.n ≤ 5 ∧ st.x.m ≤ 5 := by
  obtain ⟨_, h2, h3, _⟩ := vldL_true h.xv
  exact ⟨h2, h3⟩
def ses0 : Ses := { x := newL 1 0, tm := 0, ms := [], ts := [] }
theorem ans_line {st : Ses} {t : ByteArray} (ht : t.size ≤ 1000) (hc : cmdK (wd0 t) (wdL t).length = 0) (hl : (wdL t).length = 3) : Ans st t (lwS st (wdI t 1) (wdI t 2)) (lwO (wdI t 1) (wdI t 2)) :=
  fun z s m own w hz _ hW hS => line_some z s 0 t m st _ _ own w ht hW.mx hc (by omega) hS fun W bw hS2 hb hw _ =>
    doLine_any z s bw (wdL t).length (wdL t).length (wdI t 1) (wdI t 2) st own W (by omega) (Nat.le_trans hz hb.size) hS2 (hw 1 (by omega)) (hw 2 (by omega))
/-- a script -/
theorem execute_of (t : ByteArray) (m : Int) (w : World) (hsz : t.size ≤ 500) (hW : WF m w) (sts : Nat → Ses) (out : Nat → ByteArray) (h0 : sts 0 = ses0) (hout : ∀ k, (out k).size ≤ 1000000)
    (hst : ∀ k, k + 1 < (lnT t).length → Ans (sts k) (lnI t k) (sts (k + 1)) (out k)) (hm : (sts ((lnT t).length - 1)).x.m < 100) (hp : (sts ((lnT t).length - 1)).pn < 100) :
    Calls Tryz.prog 11 #[.string t] w fun e w' => e = .returned (.string ⟨(exO out ((lnT t).length - 1) ++ (exT (sts ((lnT t).length - 1)).x.m (sts ((lnT t).length - 1)).pn).data.toList).toArray⟩) ∧ Below w.heap.size w w' := by
  refine execute_gen t m w hsz hW.mx (fun k own W s => StS w.heap.size (sts k) own W s) out (sts ((lnT t).length - 1)).x.m (sts ((lnT t).length - 1)).pn hout hm hp ?_ ?_ ?_ ?_
  · intro W s g1 c1 g2 c2 hb h1 h2 h12 hs1 hs2 hbx ho1 ho2
    rw [h0]
    refine ⟨g1, c1, g2, c2, .slice none 0 0, .slice none 0 0, ⟨hbx, ho1, ho2, .inr ⟨rfl, rfl⟩, .inr ⟨rfl, rfl⟩, h12, by omega, by omega, fun q hq => (by cases hq), fun q hq => (by cases hq), h1, h2, by omega⟩, fun q => ?_⟩
    unfold ownS
    constructor
    · rintro (h | h | h)
      · exact .inl h
      · exact .inr (.inl h)
      · exact .inr (.inr (.inl h))
    · rintro (h | h | h | h | h)
      · exact .inl h
      · exact .inr (.inl h)
      · exact .inr (.inr h)
      · cases h
      · cases h
  · intro k own W W' s h hf
    exact h.keep hf
  · intro k own W s hk hS hb _
    refine (hst k hk w.heap.size s m own W hb.size hW.size (hW.below hb) hS).mono ?_
    rintro e w' ⟨rfl, own', h1, h2, h3⟩
    exact ⟨rfl, own', h1, h2, h1.oz.1, fun q hq => ⟨h3 q hq, (h1.oz.2 q hq).2⟩⟩
  · intro own W s ⟨g1, c1, g2, c2, vm, vt, h, _⟩
    exact ⟨⟨_, _, h.box.cell 1⟩, ⟨_, _, h.box.cell 2⟩⟩
end Go.Proofs.YtlkdmpfifpkpaaaGreatDoor
