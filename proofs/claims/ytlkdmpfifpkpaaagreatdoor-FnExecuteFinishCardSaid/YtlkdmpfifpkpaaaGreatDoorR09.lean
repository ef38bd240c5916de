/-
  Parts of the proof of fnExecuteFinish_proved: Jl Kf Kg Jm Jn Jo. No condition.
-/
import Derived.WalkKit
import Derived.WalkSpells
import Derived.WalkLawsBesides
import Derived.Lib.Hide
import Derived.BigQuiet
import Derived.Deep.QuietTactic
import Derived.Deep.RegionHeld3
import Derived.Deep.DeepFit
import Derived.Shelf.RegionOpen
import Derived.Maps.AppendAt
import Derived.Lib.IndexLaws
import Derived.Deep.DeepCutAuto
import Derived.Deep.RegionWith
import Derived.Lib.Strings
import Derived.Laws.BitsAllLaws
import Derived.RangeFuncNested
import Derived.RangeFuncBound
import Derived.RangeFuncCalls
import Derived.RangeFuncLeaves
import Derived.RangeFuncBox
import Derived.Shelf.Abstract
import Derived.OwnWalkIn
import Derived.TacticsInMore
import Derived.LoopNIn
import Derived.LoopIn
import Derived.Recover
import Derived.Defers
import Derived.Lib.Builder
import Derived.Lib.AppendStr
import Derived.Lib.UnsafeStr
import Derived.Lib.Slices
import Derived.Laws.Externs
import Derived.Lib.SlBytesRow
import Derived.Test.YtlkdmpfifpkpaaaGreatDoorChecked
import Derived.Shelf.Strings.Builder1
import Derived.Shelf.Strings.Builder2
import Derived.Shelf.Strings.OnBuilder
import Derived.Shelf.Strings.BuilderF
import Derived.Shelf.Strconv.Itoa0
import Derived.Shelf.Strconv.Itoa1
import Derived.Shelf.LaysM
import Derived.Shelf.Strconv.Itoa2
import Derived.Shelf.Strconv.Itoa3
import Derived.Shelf.Strings.Search1
import Derived.Shelf.Strings.Search2
import Derived.Shelf.Strings.Search3
import Derived.Shelf.Strings.Count
import Derived.Shelf.Strings.Shaped
import Derived.Shelf.Strings.Split
import Derived.Shelf.Strings.SplitShaped
import Derived.Shelf.Unicode.DecodeSlow
import Derived.Test.YtlkdmpfifpkpaaaGreatDoorProg
import Derived.OrdersIn
import Derived.OrdersHeld
import Derived.Deep.RegionHeld
import Derived.Lib.SplitLaws
import Derived.Lib.ItoaLen
import Derived.Test.YtlkdmpfifpkpaaaGreatDoorR01
import Derived.Test.YtlkdmpfifpkpaaaGreatDoorR02
import Derived.Test.YtlkdmpfifpkpaaaGreatDoorR03
import Derived.Test.YtlkdmpfifpkpaaaGreatDoorR04
import Derived.Test.YtlkdmpfifpkpaaaGreatDoorR05
import Derived.Test.YtlkdmpfifpkpaaaGreatDoorR06
import Derived.Test.YtlkdmpfifpkpaaaGreatDoorR07
import Derived.Test.YtlkdmpfifpkpaaaGreatDoorR08
namespace Go.Proofs.YtlkdmpfifpkpaaaGreatDoor
open Go.RowKit

/-- a row of its own, or nil -/
def Rw (z : Nat) (w : World) (v : Value) (n s : Nat) (e : TypeId) (f : Nat → Value) : Prop :=
  (∃ g cap, v = .slice (some ⟨g, 0, none⟩) n cap ∧ z ≤ g ∧ Own w g cap n s e f) ∨ (n = 0 ∧ v = .slice none 0 0)
theorem Rw.shape {z : Nat} {w : World} {v : Value} {n s : Nat} {e : TypeId} {f : Nat → Value} (h : Rw z w v n s e f) : ∃ a c, v = .slice a n c := by
  rcases h with ⟨g, cap, rfl, _⟩ | ⟨rfl, rfl⟩
  · exact ⟨_, _, rfl⟩
  · exact ⟨_, _, rfl⟩
theorem Rw.blk {z : Nat} {w : World} {v : Value} {n s : Nat} {e : TypeId} {f : Nat → Value} (h : Rw z w v n s e f) : ∀ q, v.ownBlock = some q → z ≤ q ∧ q < w.heap.size := fun q hq => by
  rcases h with ⟨g, cap, rfl, hz, ho⟩ | ⟨rfl, rfl⟩
  · have : some g = some q := hq
    cases this
    exact ⟨hz, ho.lt⟩
  · cases hq
theorem Rw.fr {S : Nat → Prop} {z : Nat} {w w' : World} {v : Value} {n s : Nat} {e : TypeId} {f : Nat → Value} (h : Rw z w v n s e f) (hf : Fr S w w') (hb : ∀ q, v.ownBlock = some q → ¬ S q) : Rw z w' v n s e f := by
  rcases h with ⟨g, cap, rfl, hz, ho⟩ | ⟨rfl, rfl⟩
  · exact .inl ⟨g, cap, rfl, hz, ho.fr hf (hb g rfl)⟩
  · exact .inr ⟨rfl, rfl⟩
theorem Rw.congr {z : Nat} {w : World} {v : Value} {n s : Nat} {e : TypeId} {f g : Nat → Value} (h : Rw z w v n s e f) (hfg : ∀ i, i < n * s → f i = g i) : Rw z w v n s e g := by
  rcases h with ⟨b, cap, rfl, hz, ho⟩ | ⟨rfl, rfl⟩
  · exact .inl ⟨b, cap, rfl, hz, Own.congr ho hfg⟩
  · exact .inr ⟨rfl, rfl⟩
theorem run_nil1 {P : Program} (w : World) {t e : TypeId} {z : Value} {s bytes : Nat} (he : Elem P t e z s bytes) (ty : TypeId) {f : Nat → Value} (ad : Addr) (c : Nat) (hnew : ∀ j, j < s → w.cell? (ad.add j) = some (f j)) (hb : bytes ≤ 64) :
    ∃ g' cap' w', (Builtin.append_ #[t, t] ty #[.slice none 0 0, .slice (some ad) 1 c]).run P w = .ok (.slice (some ⟨g', 0, none⟩) 1 cap') w' ∧ Own w' g' cap' 1 s e f ∧ w.grownBy w' none ∧ g' = w.heap.size := by
  obtain ⟨i, hi, hz, hsz, hby⟩ := info_parts he.info
  subst hsz
  subst hby
  have hnews : ∀ j u, ((List.range i.size).map f)[j]? = some u → w.cell? (ad.add j) = some u := by
    intro j u hj
    rcases Nat.lt_or_ge j i.size with h | h
    · rw [List.getElem?_map, List.getElem?_range h] at hj
      cases hj
      exact hnew j h
    · rw [List.getElem?_eq_none (by simpa using h)] at hj
      cases hj
  have hr := run_append_nil (P := P) w t ty e i z he.ht hi hz ad 1 c ((List.range i.size).map f) (by simp) hnews (by omega) (by omega) (by omega)
  have hge := grownCap_ge w 1 0 e
  refine ⟨w.heap.size, _, _, hr, ⟨hge, grownCap_le_maxLen w 1 0 e (by unfold maxLen; omega), _, heap_alloc_new w.drew _, ?_, ?_⟩, ⟨rfl, rfl, rfl, by simp, fun k hk _ => Below.heap_alloc w.drew _ k hk⟩, rfl⟩
  · simp only [Array.size_append, List.size_toArray, size_zeroCells, he.zs, List.length_map, List.length_range]
    rw [Nat.sub_mul]
    have : i.size ≤ grownCap w 1 0 e * i.size := by
      have := Nat.mul_le_mul_right i.size hge
      omega
    omega
  · intro k hk
    have hk2 : k < i.size := by omega
    rw [Array.getElem?_append_left (by simpa using hk2)]
    simp [hk2]
/-- append of one element to a row, as a step of a region that draws its order -/
theorem step_pushW {P : Program} {zz : Nat} {w : World} {t e : TypeId} {z : Value} {s bytes : Nat} (he : Elem P t e z s bytes) {ops : Array Oper} {o : Oper} {a : Act} {K : Act → World → Prop} {Q : Exit → Act → World → Prop} {E : Prop} (hgd : o.guard = none) (so xo : Operand)
    (ho : o.op = .call { callee := .builtin .append, args := #[so, xo], argTypes := #[t, t] }) {v : Value} {n : Nat} {f : Nat → Value} (hown : Rw zz w v n s e f) (hs : a.eval so = v) (vs : List Value)
    (hx : a.eval xo = .slice (some ⟨w.heap.size, 0, none⟩) 1 1) (hnew : ∀ j, j < s → vs[j]? = some (f (n * s + j))) (h1 : ∀ j, j < s → (f (n * s + j)).oneCell' = true)
    (hn : n ≤ 1000000) (hb : bytes ≤ 64) (hzz : zz ≤ w.heap.size)
    (h : ∀ v' w', Rw zz w' v' (n + 1) s e f → Fr (fun q => v.ownBlock = some q) w w' → (∀ q, v'.ownBlock = some q → v.ownBlock = some q ∨ w.heap.size ≤ q) → K (a.put o.dst v') w') : if Region.wanted o (yielded ops a.tmps) = true then Oper.wp P o a (w.alloc (.cells vs.toArray e)) K Q else E := by
  have hh : (w.alloc (.cells vs.toArray e)).heap[w.heap.size]? = some (.cells vs.toArray e (0, 0)) := heap_alloc_new _ _
  have hzs : (w.alloc (.cells vs.toArray e)).heap.size = w.heap.size + 1 := by simp
  rcases hown with ⟨g, cap, rfl, hz, hown⟩ | ⟨rfl, rfl⟩
  · have hmul : (n + 1) * bytes ≤ 1000001 * 64 := Nat.mul_le_mul (by omega) hb
    refine step_app he hgd so xo ho (hown.alloc _) hs ⟨w.heap.size, 0, none⟩ 1 1 hx (fun j hj => ?_) (fun j hj => h1 j (by omega)) (by unfold maxLen; omega) (by omega) (fun g' cap' w' h2 h3 h4 => ?_)
    · rw [addr_add, Nat.zero_add]
      simp only [World.cell?, hh]
      simpa using hnew j (by omega)
    · refine h _ w' (.inl ⟨g', cap', rfl, ?_, h2⟩) ?_ (fun q hq => ?_)
      · rcases h4 with h4 | h4
        · rw [h4.1]; exact hz
        · omega
      · refine (Fr.of_below (below_all _ _) _).trans ⟨h3.os, h3.tape, h3.output, h3.size, fun k hk hs => h3.block k hk (fun e => hs ?_)⟩
        cases e
        rfl
      · have : some g' = some q := hq
        cases this
        rcases h4 with h4 | h4
        · left; rw [h4.1]; rfl
        · right; omega
  · have hw : Region.wanted o (yielded ops a.tmps) = true := by simp [Region.wanted, hgd]
    rw [if_pos hw]
    obtain ⟨g', cap', w', hr, h2, h3, h4⟩ := run_nil1 (w.alloc (.cells vs.toArray e)) he o.type (f := f) ⟨w.heap.size, 0, none⟩ 1 (fun j hj => by
      rw [addr_add, Nat.zero_add]
      simp only [World.cell?, hh]
      have := hnew j hj
      simpa using this) hb
    unfold Oper.wp execOp
    simp only [ho, resolve, invoke, builtin, Sem.run_bind, Sem.run_pure, Result.andThen_ok, List.map_toArray, List.map_cons, List.map_nil, hs, hx, hr]
    refine h _ w' (.inl ⟨g', cap', rfl, by omega, h2⟩) ?_ (fun q hq => ?_)
    · exact (Fr.of_below (below_all _ _) _).trans ⟨h3.os, h3.tape, h3.output, h3.size, fun k hk _ => h3.block k hk (by simp)⟩
    · have : some g' = some q := hq
      cases this
      right
      omega
end Go.Proofs.YtlkdmpfifpkpaaaGreatDoor
namespace Go.Proofs.YtlkdmpfifpkpaaaGreatDoor
open Go.RowKit

/-- a register in new memory -/
def RgR (z : Nat) (w : World) (v : Value) (ns : List (Int × ByteArray)) : Prop :=
  ∃ r es, v = .pointer (some ⟨r, 0, none⟩) ∧ RgC w r es ns ∧ RgB z r es
theorem RgR.below {z : Nat} {w w' : World} {v : Value} {ns : List (Int × ByteArray)} (h : RgR z w v ns) (hb : Below w.heap.size w w') : RgR z w' v ns := by
  obtain ⟨r, es, e, h1, h2⟩ := h
  exact ⟨r, es, e, h1.below hb (Nat.le_refl _), h2⟩
end Go.Proofs.YtlkdmpfifpkpaaaGreatDoor
namespace Go.Proofs.YtlkdmpfifpkpaaaGreatDoor
open Go.RowKit

def iF (l : List Int) (i : Nat) : Int := (l[i]?).getD 0
theorem iF_new {l : List Int} {z : Int} : iF (l ++ [z]) l.length = z := by
  unfold iF
  simp
theorem RgC.kept {w w' : World} {r g : Nat} {es : List Nat} {ns : List (Int × ByteArray)} (h : RgC w r es ns) (hg : w.grownBy w' (some g)) (h1 : g ≠ r) (h2 : ∀ i, i < es.length → g ≠ es.getD i 0) : RgC w' r es ns :=
  ⟨h.box.kept hg (fun e => h1 e.symm), h.len, fun i hi => (h.ent i hi).kept hg (fun e => h2 i hi e.symm), h.dst, h.inj⟩
end Go.Proofs.YtlkdmpfifpkpaaaGreatDoor
namespace Go.Proofs.YtlkdmpfifpkpaaaGreatDoor
open Go.RowKit

structure Ses where
  x : Ln
  tm : Int
  ms : List (Int × ByteArray)
  ts : List Int
  pa : Option Addr := none
  pn : Nat := 0
  pc : Nat := 0
/-- a session at block s -/
structure SsC (z : Nat) (w : World) (s g1 c1 g2 c2 : Nat) (vm vt : Value) (st : Ses) : Prop where
  box : Bx w s 56 #[.slice (some ⟨g1, 0, none⟩) st.x.n c1, .slice (some ⟨g2, 0, none⟩) st.x.m c2, .slice st.pa st.pn st.pc, .int .i64 st.tm, vm, vt]
  bs : Own w g1 c1 st.x.n 3 76 (bkF st.x.N st.x.I st.x.O)
  tr : Own w g2 c2 st.x.m 1 3 (fun i => .int .i64 (st.x.T i))
  mv : Rw z w vm st.ms.length 2 94 (mvF (mvM st.ms) (mvS st.ms))
  tv : Rw z w vt st.ts.length 1 3 (fun i => .int .i64 (iF st.ts i))
  n12 : g1 ≠ g2
  s1 : s ≠ g1
  s2 : s ≠ g2
  dm : ∀ q, vm.ownBlock = some q → q ≠ s ∧ q ≠ g1 ∧ q ≠ g2 ∧ vt.ownBlock ≠ some q
  dt : ∀ q, vt.ownBlock = some q → q ≠ s ∧ q ≠ g1 ∧ q ≠ g2
  z1 : z ≤ g1
  z2 : z ≤ g2
  zs : z ≤ s
def ownS (s g1 g2 : Nat) (vm vt : Value) (q : Nat) : Prop := q = s ∨ q = g1 ∨ q = g2 ∨ vm.ownBlock = some q ∨ vt.ownBlock = some q
theorem SsC.oz {z : Nat} {w : World} {s g1 c1 g2 c2 : Nat} {vm vt : Value} {st : Ses} (h : SsC z w s g1 c1 g2 c2 vm vt st) : ∀ q, ownS s g1 g2 vm vt q → z ≤ q ∧ q < w.heap.size := fun q hq => by
  rcases hq with rfl | rfl | rfl | hq | hq
  · exact ⟨h.zs, h.box.lt⟩
  · exact ⟨h.z1, h.bs.lt⟩
  · exact ⟨h.z2, h.tr.lt⟩
  · exact h.mv.blk q hq
  · exact h.tv.blk q hq
theorem SsC.fr {S : Nat → Prop} {z : Nat} {w w' : World} {s g1 c1 g2 c2 : Nat} {vm vt : Value} {st : Ses} (h : SsC z w s g1 c1 g2 c2 vm vt st) (hf : Fr S w w') (hd : ∀ q, ownS s g1 g2 vm vt q → ¬ S q) : SsC z w' s g1 c1 g2 c2 vm vt st :=
  ⟨h.box.fr hf (hd s (.inl rfl)), h.bs.fr hf (hd g1 (.inr (.inl rfl))), h.tr.fr hf (hd g2 (.inr (.inr (.inl rfl)))), h.mv.fr hf (fun q hq => hd q (.inr (.inr (.inr (.inl hq))))), h.tv.fr hf (fun q hq => hd q (.inr (.inr (.inr (.inr hq))))), h.n12, h.s1, h.s2, h.dm, h.dt, h.z1, h.z2, h.zs⟩
/-- a session, by its reading -/
def StS (z : Nat) (st : Ses) (own : Nat → Prop) (w : World) (s : Nat) : Prop := ∃ g1 c1 g2 c2 vm vt, SsC z w s g1 c1 g2 c2 vm vt st ∧ ∀ q, own q ↔ ownS s g1 g2 vm vt q
theorem StS.keep {z : Nat} {st : Ses} {own : Nat → Prop} {w w' : World} {s : Nat} (h : StS z st own w s) (hf : Fr (fun q => ¬ own q) w w') : StS z st own w' s := by
  obtain ⟨g1, c1, g2, c2, vm, vt, h1, h2⟩ := h
  exact ⟨g1, c1, g2, c2, vm, vt, h1.fr hf (fun q hq h => h ((h2 q).2 hq)), h2⟩
theorem StS.oz {z : Nat} {st : Ses} {own : Nat → Prop} {w : World} {s : Nat} (h : StS z st own w s) : own s ∧ ∀ q, own q → z ≤ q ∧ q < w.heap.size := by
  obtain ⟨g1, c1, g2, c2, vm, vt, h1, h2⟩ := h
  exact ⟨(h2 s).2 (.inl rfl), fun q hq => h1.oz q ((h2 q).1 hq)⟩
/-- what a line of a script does -/
def Md (z : Nat) (st' : Ses) (o : ByteArray) (s : Nat) (own : Nat → Prop) (w : World) (e : Ending) (w' : World) : Prop :=
  e = .returned (.string o) ∧ ∃ own', StS z st' own' w' s ∧ Fr own w w' ∧ ∀ q, own' q → own q ∨ w.heap.size ≤ q
/-- a line that is a command, on a session -/
theorem line_some (z s k : Nat) (t : ByteArray) (m : Int) (st st' : Ses) (o : ByteArray) (own : Nat → Prop) (w : World) (ht : t.size ≤ 1000) (hm : w.cell? ⟨0, 0, none⟩ = some (.int .i64 m)) (hc : cmdK (wd0 t) (wdL t).length = k) (hk : k < 9) (hS : StS z st own w s)
    (HC : ∀ W bw, StS z st own W s → Below w.heap.size w W → (∀ i, i < (wdL t).length → W.cell? ⟨bw, i, none⟩ = some (.string (wdI t i))) → ¬ own bw → Calls Tryz.prog (cmF k) #[.pointer (some ⟨s, 0, none⟩), .slice (some ⟨bw, 0, none⟩) (wdL t).length (wdL t).length] W (Md z st' o s own W)) :
    Calls Tryz.prog 37 #[.pointer (some ⟨s, 0, none⟩), .string t] w (Md z st' o s own w) := by
  have hoz := hS.oz.2
  refine (answer_some s k t m (fun o' w' => o' = o ∧ ∃ own', StS z st' own' w' s ∧ Fr own w w' ∧ ∀ q, own' q → own q ∨ w.heap.size < q) w ht hm hc hk (fun W bw hW hz hl hw => ?_)).mono ?_
  · have hS2 : StS z st own W s := hS.keep (Fr.of_below hW _)
    refine (HC W bw hS2 hW hw (fun h => by have := (hoz bw h).2; omega)).mono ?_
    rintro e w' ⟨rfl, own', h1, h2, h3⟩
    refine ⟨o, rfl, fun b hb1 hb2 => h2.block b hb2 (fun h => by have := (hoz b h).2; omega), rfl, own', h1, (Fr.of_below hW own).trans h2, fun q hq => ?_⟩
    rcases h3 q hq with h | h
    · exact .inl h
    · right; omega
  · rintro e w' ⟨o', w2, rfl, ⟨rfl, own', h1, h2, h3⟩, hlt, rfl⟩
    have hset := Fr.set w2 ⟨w.heap.size, 0, none⟩ (.string o')
    refine ⟨rfl, own', h1.keep (hset.mono (fun q _ hq ho => ?_)), ⟨h2.os, h2.tape, h2.output, by have := h2.size; simpa using this, fun k hk hs => ?_⟩, fun q hq => ?_⟩
    · have hqe : q = w.heap.size := hq
      rcases h3 q ho with h | h
      · have := (hoz q h).2; omega
      · omega
    · rw [hset.block k (by have := h2.size; omega) (fun e => by have : k = w.heap.size := e; omega)]
      exact h2.block k hk hs
    · rcases h3 q hq with h | h
      · exact .inl h
      · right; omega
end Go.Proofs.YtlkdmpfifpkpaaaGreatDoor
namespace Go.Proofs.YtlkdmpfifpkpaaaGreatDoor
open Go.RowKit

def okT : ByteArray := ⟨#[111, 107]⟩
def noT : ByteArray := ⟨#[110, 111]⟩
end Go.Proofs.YtlkdmpfifpkpaaaGreatDoor
namespace Go.Proofs.YtlkdmpfifpkpaaaGreatDoor
open Go.RowKit

/-- the session behind a new line, and what it says -/
def lwS (st : Ses) (l1 l2 : ByteArray) : Ses := match nwO (nmF l1) (nmF l2) with | some y => { x := y, tm := 0, ms := [], ts := [] } | none => st
def lwO (l1 l2 : ByteArray) : ByteArray := match nwO (nmF l1) (nmF l2) with | some _ => okT | none => noT
theorem ses_line {z s g1 c1 g2 c2 : Nat} {st : Ses} {y : Ln} {own : Nat → Prop} {w w5 : World} (hb : Below w.heap.size w w5) (hS : StS z st own w5 s) (hl : LnO w.heap.size w5 (.agg #[.slice (some ⟨g1, 0, none⟩) y.n c1, .slice (some ⟨g2, 0, none⟩) y.m c2]) y) (hsl : s < w.heap.size) (hz : z ≤ w.heap.size) (hso : own s) :
    ∃ own', StS z { x := y, tm := 0, ms := [], ts := [] } own' ((((((w5.setCell ⟨s, 0, none⟩ (.slice (some ⟨g1, 0, none⟩) y.n c1)).setCell ⟨s, 1, none⟩ (.slice (some ⟨g2, 0, none⟩) y.m c2)).setCell ⟨s, 2, none⟩ (.slice none 0 0)).setCell ⟨s, 3, none⟩ (.int .i64 0)).setCell ⟨s, 4, none⟩ (.slice none 0 0)).setCell ⟨s, 5, none⟩ (.slice none 0 0)) s ∧ Fr own w ((((((w5.setCell ⟨s, 0, none⟩ (.slice (some ⟨g1, 0, none⟩) y.n c1)).setCell ⟨s, 1, none⟩ (.slice (some ⟨g2, 0, none⟩) y.m c2)).setCell ⟨s, 2, none⟩ (.slice none 0 0)).setCell ⟨s, 3, none⟩ (.int .i64 0)).setCell ⟨s, 4, none⟩ (.slice none 0 0)).setCell ⟨s, 5, none⟩ (.slice none 0 0)) ∧ ∀ q, own' q → own q ∨ w.heap.size ≤ q := by
  obtain ⟨p1, d1, p2, d2, vm, vt, h1, _⟩ := hS
  obtain ⟨_, _, _, _, e, o1, o2, h12, hg1, hg2⟩ := hl
  cases e
  have f : ∀ (W : World) (i : Nat) (v : Value), Fr (fun q => q = s) W (W.setCell ⟨s, i, none⟩ v) := fun W i v => Fr.set W ⟨s, i, none⟩ v
  have F := ((((((f w5 0 (.slice (some ⟨g1, 0, none⟩) y.n c1)).trans (f _ 1 (.slice (some ⟨g2, 0, none⟩) y.m c2))).trans (f _ 2 (.slice none 0 0))).trans (f _ 3 (.int .i64 0))).trans (f _ 4 (.slice none 0 0))).trans (f _ 5 (.slice none 0 0)))
  have hbx := (((((h1.box.set 0 (.slice (some ⟨g1, 0, none⟩) y.n c1)).set 1 (.slice (some ⟨g2, 0, none⟩) y.m c2)).set 2 (.slice none 0 0)).set 3 (.int .i64 0)).set 4 (.slice none 0 0)).set 5 (.slice none 0 0)
  refine ⟨ownS s g1 g2 (.slice none 0 0) (.slice none 0 0), ⟨g1, c1, g2, c2, _, _, ⟨?_, o1.fr F (by omega), o2.fr F (by omega), .inr ⟨rfl, rfl⟩, .inr ⟨rfl, rfl⟩, h12, by omega, by omega, fun q hq => (by cases hq), fun q hq => (by cases hq), by omega, by omega, h1.zs⟩, fun _ => Iff.rfl⟩, (Fr.of_below hb own).trans (F.mono (fun q _ e => by rw [e]; exact hso)), fun q hq => ?_⟩
  · simpa using hbx
  · rcases hq with rfl | rfl | rfl | hq | hq
    · exact .inl hso
    · exact .inr hg1
    · exact .inr hg2
    · cases hq
    · cases hq
set_option linter.unusedSimpArgs false in
set_option maxRecDepth 100000 in
set_option maxHeartbeats 2000000 in
theorem doLine_any (z s bw n c : Nat) (l1 l2 : ByteArray) (st : Ses) (own : Nat → Prop) (w : World) (hn : 3 ≤ n) (hz : z ≤ w.heap.size) (hS : StS z st own w s) (hw1 : w.cell? ⟨bw, 1, none⟩ = some (.string l1)) (hw2 : w.cell? ⟨bw, 2, none⟩ = some (.string l2)) :
    Calls Tryz.prog 96 #[.pointer (some ⟨s, 0, none⟩), .slice (some ⟨bw, 0, none⟩) n c] w (Md z (lwS st l1 l2) (lwO l1 l2) s own w) := by
  have hbl : bw < w.heap.size := World.block_lt_of_cell? w ⟨bw, 1, none⟩ hw1
  have HSL : Hid (s < w.heap.size) := (hS.oz.2 s hS.oz.1).2
  have HSO : Hid (own s) := hS.oz.1
  have HW1 := Lib.hid hw1
  have HW2 := Lib.hid hw2
  have HS := Lib.hid hS
  clear hw1 hw2 hS
  have HCC : Hid (∀ W, Below w.heap.size w W → W.cell? ⟨bw, 1, none⟩ = some (.string l1) ∧ W.cell? ⟨bw, 2, none⟩ = some (.string l2)) := fun W h => ⟨by rw [h.cell (p := ⟨bw, 1, none⟩) hbl]; exact HW1.out, by rw [h.cell (p := ⟨bw, 2, none⟩) hbl]; exact HW2.out⟩
  have hn1 : (1 : Int) < (n : Int) := by omega
  have hn2 : 1 < n := by omega
  have hn3 : (2 : Int) < (n : Int) := by omega
  have hn4 : 2 < n := by omega
  have HBd : Hid (Below w.heap.size w w.drew) := (Below.refl _ _).drew
  have hb1 := nmF_bd l1
  have HST : Hid (lwS st l1 l2 = match nwO (nmF l1) (nmF l2) with | some y => { x := y, tm := 0, ms := [], ts := [] } | none => st) := rfl
  have HOT : Hid (lwO l1 l2 = match nwO (nmF l1) (nmF l2) with | some _ => okT | none => noT) := rfl
  cases ho : nwO (nmF l1) (nmF l2) with
  | none =>
    rw [ho] at HST HOT
    have HO := Lib.hid ho
    clear ho
    go_enter Tryz.func96, Tryz.ntmps96
    go_wp2_with fail
    refine wp_region_held_drew (S := fun W => W.cell? ⟨bw, 1, none⟩ = some (.string l1) ∧ W.cell? ⟨bw, 2, none⟩ = some (.string l2)) (by kernel_rfl) (HCC.out _ HBd.out) (fun hHeld => ?_)
    have HBA : Hid (Below w.heap.size w (w.drew.alloc (.cells #[.slice none 0 0, .slice none 0 0] 31))) := HBd.out.alloc HBd.out.size _
    refine wpAnyH_take (i := 0) (oi := ?_) (v := ?_) ?_ (by kernel_rfl) (by kernel_rfl) (by kernel_rfl) ?_ ?_ (by assumption) ?_
    rotate_left 2
    · simp only [List.getElem?_toArray, List.getElem?_cons_succ, List.getElem?_cons_zero]; rfl
    · exact fun _ _ _ h => h
    · first
        | (refine Or.inr ⟨?_, ?_⟩ <;> rfl)
        | (refine Or.inl ⟨?_, ?_⟩; · rfl
           intro w hSw; (try dsimp only at hSw); go_simp; (try with_reducible rfl); done)
    try simp only [Act.put, List.setIfInBounds_toArray, List.set_cons_zero, List.set_cons_succ]
    refine wpAnyH_take (i := 1) (oi := ?_) (v := ?_) ?_ (by kernel_rfl) (by kernel_rfl) (by kernel_rfl) ?_ ?_ (by assumption) ?_
    rotate_left 2
    · simp only [List.getElem?_toArray, List.getElem?_cons_succ, List.getElem?_cons_zero]; rfl
    · exact fun _ _ _ h => h
    · first
        | (refine Or.inr ⟨?_, ?_⟩ <;> rfl)
        | (refine Or.inl ⟨?_, ?_⟩; · rfl
           intro w hSw; (try dsimp only at hSw); go_simp; (try with_reducible rfl); done)
    try simp only [Act.put, List.setIfInBounds_toArray, List.set_cons_zero, List.set_cons_succ]
    refine wpAnyH_take (i := 2) (oi := ?_) (v := ?_) ?_ (by kernel_rfl) (by kernel_rfl) (by kernel_rfl) ?_ ?_ (by assumption) ?_
    rotate_left 2
    · simp only [List.getElem?_toArray, List.getElem?_cons_succ, List.getElem?_cons_zero]; rfl
    · exact fun _ _ _ h => h
    · first
        | (refine Or.inr ⟨?_, ?_⟩ <;> rfl)
        | (refine Or.inl ⟨?_, ?_⟩; · rfl
           intro w hSw; (try dsimp only at hSw); go_simp; (try with_reducible rfl); done)
    try simp only [Act.put, List.setIfInBounds_toArray, List.set_cons_zero, List.set_cons_succ]
    refine wpAnyH_take (i := 4) (oi := ?_) (v := ?_) ?_ (by kernel_rfl) (by kernel_rfl) (by kernel_rfl) ?_ ?_ (by assumption) ?_
    rotate_left 2
    · simp only [List.getElem?_toArray, List.getElem?_cons_succ, List.getElem?_cons_zero]; rfl
    · exact fun _ _ _ h => h
    · first
        | (refine Or.inr ⟨?_, ?_⟩ <;> rfl)
        | (refine Or.inl ⟨?_, ?_⟩; · rfl
           intro w hSw; (try dsimp only at hSw); go_simp; (try with_reducible rfl); done)
    try simp only [Act.put, List.setIfInBounds_toArray, List.set_cons_zero, List.set_cons_succ]
    refine wpAnyH_take (i := 5) (oi := ?_) (v := ?_) ?_ (by kernel_rfl) (by kernel_rfl) (by kernel_rfl) ?_ ?_ (by assumption) ?_
    rotate_left 2
    · simp only [List.getElem?_toArray, List.getElem?_cons_succ, List.getElem?_cons_zero]; rfl
    · exact fun _ _ _ h => h
    · first
        | (refine Or.inr ⟨?_, ?_⟩ <;> rfl)
        | (refine Or.inl ⟨?_, ?_⟩; · rfl
           intro w hSw; (try dsimp only at hSw); go_simp; (try with_reducible rfl); done)
    try simp only [Act.put, List.setIfInBounds_toArray, List.set_cons_zero, List.set_cons_succ]
    refine wpAnyH_take (i := 6) (oi := ?_) (v := ?_) ?_ (by kernel_rfl) (by kernel_rfl) (by kernel_rfl) ?_ ?_ (by assumption) ?_
    rotate_left 2
    · simp only [List.getElem?_toArray, List.getElem?_cons_succ, List.getElem?_cons_zero]; rfl
    · exact fun _ _ _ h => h
    · first
        | (refine Or.inr ⟨?_, ?_⟩ <;> rfl)
        | (refine Or.inl ⟨?_, ?_⟩; · rfl
           intro w hSw; (try dsimp only at hSw); go_simp; (try with_reducible rfl); done)
    try simp only [Act.put, List.setIfInBounds_toArray, List.set_cons_zero, List.set_cons_succ]
    refine wpAnyH_ready (rs := [3, 12]) (by kernel_rfl) (by simp) ?_
    refine AllReadyH.cons (o := ?_) ?_ (fun K hK => ?_) ?_
    rotate_left 1
    · simp only [List.getElem?_toArray, List.getElem?_cons_succ, List.getElem?_cons_zero]; rfl
    · go_simp
      go_at_call 120
      go_must (refine Calls.mono (numberOf_any l1 _) ?_)
      rintro e w' ⟨rfl, rfl⟩
      refine hK.out _ _ ?_ (fun hHeld => ?_)
      · try dsimp only
        exact HCC.out _ HBd.out
      clear hK K
      try simp only [Act.put, List.setIfInBounds_toArray, List.set_cons_zero, List.set_cons_succ]
      refine wpAnyH_ready (rs := [7, 12]) (by kernel_rfl) (by simp) ?_
      refine AllReadyH.cons (o := ?_) ?_ (fun K hK => ?_) ?_
      rotate_left 1
      · simp only [List.getElem?_toArray, List.getElem?_cons_succ, List.getElem?_cons_zero]; rfl
      · go_simp
        go_at_call 120
        go_must (refine Calls.mono (numberOf_any l2 _) ?_)
        rintro e w' ⟨rfl, rfl⟩
        refine hK.out _ _ ?_ (fun hHeld => ?_)
        · try dsimp only
          exact HCC.out _ HBd.out
        clear hK K
        try simp only [Act.put, List.setIfInBounds_toArray, List.set_cons_zero, List.set_cons_succ]
        refine wpAnyH_ready (rs := [8, 12]) (by kernel_rfl) (by simp) ?_
        refine AllReadyH.cons (o := ?_) ?_ (fun K hK => ?_) ?_
        rotate_left 1
        · simp only [List.getElem?_toArray, List.getElem?_cons_succ, List.getElem?_cons_zero]; rfl
        · go_simp
          go_at_call 16
          go_must (refine Calls.mono (lineNew_any (nmF l1) (nmF l2) _ (by omega)) ?_)
          rintro e w2 ⟨hb2, h2⟩
          rcases h2 with ⟨_, rfl⟩ | ⟨_, _, h, _⟩
          rotate_left
          · rw [HO.out] at h; cases h
          have HB2 : Hid (Below w.heap.size w w2) := HBd.out.trans (hb2.mono HBd.out.size)
          unfold nilLn
          refine hK.out _ _ ?_ (fun hHeld => ?_)
          · try dsimp only
            exact HCC.out _ HB2.out
          clear hK K
          try simp only [Act.put, List.setIfInBounds_toArray, List.set_cons_zero, List.set_cons_succ]
          refine wpAnyH_take (i := 9) (oi := ?_) (v := ?_) ?_ (by kernel_rfl) (by kernel_rfl) (by kernel_rfl) ?_ ?_ (by assumption) ?_
          rotate_left 2
          · simp only [List.getElem?_toArray, List.getElem?_cons_succ, List.getElem?_cons_zero]; rfl
          · exact fun _ _ _ h => h
          · first
              | (refine Or.inr ⟨?_, ?_⟩ <;> rfl)
              | (refine Or.inl ⟨?_, ?_⟩; · rfl
                 intro w hSw; (try dsimp only at hSw); go_simp; (try with_reducible rfl); done)
          try simp only [Act.put, List.setIfInBounds_toArray, List.set_cons_zero, List.set_cons_succ]
          refine wpAnyH_take (i := 10) (oi := ?_) (v := ?_) ?_ (by kernel_rfl) (by kernel_rfl) (by kernel_rfl) ?_ ?_ (by assumption) ?_
          rotate_left 2
          · simp only [List.getElem?_toArray, List.getElem?_cons_succ, List.getElem?_cons_zero]; rfl
          · exact fun _ _ _ h => h
          · first
              | (refine Or.inr ⟨?_, ?_⟩ <;> rfl)
              | (refine Or.inl ⟨?_, ?_⟩; · rfl
                 intro w hSw; (try dsimp only at hSw); go_simp; (try with_reducible rfl); done)
          try simp only [Act.put, List.setIfInBounds_toArray, List.set_cons_zero, List.set_cons_succ]
          refine wpAnyH_take (i := 11) (oi := ?_) (v := ?_) ?_ (by kernel_rfl) (by kernel_rfl) (by kernel_rfl) ?_ ?_ (by assumption) ?_
          rotate_left 2
          · simp only [List.getElem?_toArray, List.getElem?_cons_succ, List.getElem?_cons_zero]; rfl
          · exact fun _ _ _ h => h
          · first
              | (refine Or.inr ⟨?_, ?_⟩ <;> rfl)
              | (refine Or.inl ⟨?_, ?_⟩; · rfl
                 intro w hSw; (try dsimp only at hSw); go_simp; (try with_reducible rfl); done)
          try simp only [Act.put, List.setIfInBounds_toArray, List.set_cons_zero, List.set_cons_succ]
          refine wpAnyH_ready (rs := [12]) (by kernel_rfl) (by simp) ?_
          refine AllReadyH.cons (o := ?_) ?_ (fun K hK => ?_) AllReadyH.nil
          rotate_left 1
          · simp only [List.getElem?_toArray, List.getElem?_cons_succ, List.getElem?_cons_zero]; rfl
          go_simp
          skip
          refine hK.out _ _ ?_ (fun hHeld => ?_)
          · try dsimp only
            exact HCC.out _ (HB2.out.alloc HB2.out.size _)
          clear hK K
          try simp only [Act.put, List.setIfInBounds_toArray, List.set_cons_zero, List.set_cons_succ]
          refine wpAnyH_ready (rs := [13]) (by kernel_rfl) (by simp) ?_
          refine AllReadyH.cons (o := ?_) ?_ (fun K hK => ?_) AllReadyH.nil
          rotate_left 1
          · simp only [List.getElem?_toArray, List.getElem?_cons_succ, List.getElem?_cons_zero]; rfl
          go_simp
          skip
          refine hK.out _ _ ?_ (fun hHeld => ?_)
          · try dsimp only
            exact HCC.out _ (HB2.out.alloc HB2.out.size _)
          clear hK K
          try simp only [Act.put, List.setIfInBounds_toArray, List.set_cons_zero, List.set_cons_succ]
          refine wpAnyH_take (i := 14) (oi := ?_) (v := ?_) ?_ (by kernel_rfl) (by kernel_rfl) (by kernel_rfl) ?_ ?_ (by assumption) ?_
          rotate_left 2
          · simp only [List.getElem?_toArray, List.getElem?_cons_succ, List.getElem?_cons_zero]; rfl
          · exact fun _ _ _ h => h
          · first
              | (refine Or.inr ⟨?_, ?_⟩ <;> rfl)
              | (refine Or.inl ⟨?_, ?_⟩; · rfl
                 intro w hSw; (try dsimp only at hSw); go_simp; (try with_reducible rfl); done)
          try simp only [Act.put, List.setIfInBounds_toArray, List.set_cons_zero, List.set_cons_succ]
          refine wpAnyH_done (by kernel_rfl) ?_ _
          have HB3 := Lib.hid (HB2.out.alloc HB2.out.size (.cells #[.slice none 0 0, .slice none 0 0] 31))
          go_wp2_with fail
          go_ret
          exact ⟨by rw [HOT.out]; rfl, own, by rw [HST.out]; exact HS.out.keep (Fr.of_below HB3.out _), Fr.of_below HB3.out own, fun _ hq => .inl hq⟩
        · refine AllReadyH.cons (o := ?_) ?_ (fun K hK => ?_) ?_
          rotate_left 1
          · simp only [List.getElem?_toArray, List.getElem?_cons_succ, List.getElem?_cons_zero]; rfl
          · go_simp
            skip
            refine hK.out _ _ ?_ (fun hHeld => ?_)
            · try dsimp only
              exact HCC.out _ HBA.out
            clear hK K
            try simp only [Act.put, List.setIfInBounds_toArray, List.set_cons_zero, List.set_cons_succ]
            have HXA : Hid (Bx (w.drew.alloc (.cells #[.slice none 0 0, .slice none 0 0] 31)) w.heap.size 31 #[.slice none 0 0, .slice none 0 0]) := Bx.newAt rfl
            refine wpAnyH_ready (rs := [8]) (by kernel_rfl) (by simp) ?_
            refine AllReadyH.cons (o := ?_) ?_ (fun K hK => ?_) AllReadyH.nil
            rotate_left 1
            · simp only [List.getElem?_toArray, List.getElem?_cons_succ, List.getElem?_cons_zero]; rfl
            go_simp
            go_at_call 16
            go_must (refine Calls.mono (lineNew_any (nmF l1) (nmF l2) _ (by omega)) ?_)
            rintro e w2 ⟨hb2, h2⟩
            rcases h2 with ⟨_, rfl⟩ | ⟨_, _, h, _⟩
            rotate_left
            · rw [HO.out] at h; cases h
            have HB2 : Hid (Below w.heap.size w w2) := HBA.out.trans (hb2.mono HBA.out.size)
            unfold nilLn
            have HX2 := Lib.hid (HXA.out.below hb2 HXA.out.lt)
            have hxc := HX2.out.cell
            have hxf := HX2.out.free
            have hxl := HX2.out.lt
            refine hK.out _ _ ?_ (fun hHeld => ?_)
            · try dsimp only
              exact HCC.out _ HB2.out
            clear hK K
            try simp only [Act.put, List.setIfInBounds_toArray, List.set_cons_zero, List.set_cons_succ]
            refine wpAnyH_take (i := 9) (oi := ?_) (v := ?_) ?_ (by kernel_rfl) (by kernel_rfl) (by kernel_rfl) ?_ ?_ (by assumption) ?_
            rotate_left 2
            · simp only [List.getElem?_toArray, List.getElem?_cons_succ, List.getElem?_cons_zero]; rfl
            · exact fun _ _ _ h => h
            · first
                | (refine Or.inr ⟨?_, ?_⟩ <;> rfl)
                | (refine Or.inl ⟨?_, ?_⟩; · rfl
                   intro w hSw; (try dsimp only at hSw); go_simp; (try with_reducible rfl); done)
            try simp only [Act.put, List.setIfInBounds_toArray, List.set_cons_zero, List.set_cons_succ]
            refine wpAnyH_take (i := 10) (oi := ?_) (v := ?_) ?_ (by kernel_rfl) (by kernel_rfl) (by kernel_rfl) ?_ ?_ (by assumption) ?_
            rotate_left 2
            · simp only [List.getElem?_toArray, List.getElem?_cons_succ, List.getElem?_cons_zero]; rfl
            · exact fun _ _ _ h => h
            · first
                | (refine Or.inr ⟨?_, ?_⟩ <;> rfl)
                | (refine Or.inl ⟨?_, ?_⟩; · rfl
                   intro w hSw; (try dsimp only at hSw); go_simp; (try with_reducible rfl); done)
            try simp only [Act.put, List.setIfInBounds_toArray, List.set_cons_zero, List.set_cons_succ]
            refine wpAnyH_take (i := 11) (oi := ?_) (v := ?_) ?_ (by kernel_rfl) (by kernel_rfl) (by kernel_rfl) ?_ ?_ (by assumption) ?_
            rotate_left 2
            · simp only [List.getElem?_toArray, List.getElem?_cons_succ, List.getElem?_cons_zero]; rfl
            · exact fun _ _ _ h => h
            · first
                | (refine Or.inr ⟨?_, ?_⟩ <;> rfl)
                | (refine Or.inl ⟨?_, ?_⟩; · rfl
                   intro w hSw; (try dsimp only at hSw); go_simp; (try with_reducible rfl); done)
            try simp only [Act.put, List.setIfInBounds_toArray, List.set_cons_zero, List.set_cons_succ]
            refine wpAnyH_ready (rs := [13]) (by kernel_rfl) (by simp) ?_
            refine AllReadyH.cons (o := ?_) ?_ (fun K hK => ?_) AllReadyH.nil
            rotate_left 1
            · simp only [List.getElem?_toArray, List.getElem?_cons_succ, List.getElem?_cons_zero]; rfl
            go_simp
            have HB3 := Lib.hid ((HB2.out.setCell (p := ⟨w.heap.size, 0, none⟩) (Nat.le_refl _) (.slice none 0 0)).setCell (p := ⟨w.heap.size, 1, none⟩) (Nat.le_refl _) (.slice none 0 0))
            refine hK.out _ _ ?_ (fun hHeld => ?_)
            · try dsimp only
              exact HCC.out _ HB3.out
            clear hK K
            try simp only [Act.put, List.setIfInBounds_toArray, List.set_cons_zero, List.set_cons_succ]
            refine wpAnyH_take (i := 14) (oi := ?_) (v := ?_) ?_ (by kernel_rfl) (by kernel_rfl) (by kernel_rfl) ?_ ?_ (by assumption) ?_
            rotate_left 2
            · simp only [List.getElem?_toArray, List.getElem?_cons_succ, List.getElem?_cons_zero]; rfl
            · exact fun _ _ _ h => h
            · first
                | (refine Or.inr ⟨?_, ?_⟩ <;> rfl)
                | (refine Or.inl ⟨?_, ?_⟩; · rfl
                   intro w hSw; (try dsimp only at hSw); go_simp; (try with_reducible rfl); done)
            try simp only [Act.put, List.setIfInBounds_toArray, List.set_cons_zero, List.set_cons_succ]
            refine wpAnyH_done (by kernel_rfl) ?_ _
            clear hxc hxf hxl
            go_wp2_with fail
            go_ret
            exact ⟨by rw [HOT.out]; rfl, own, by rw [HST.out]; exact HS.out.keep (Fr.of_below HB3.out _), Fr.of_below HB3.out own, fun _ hq => .inl hq⟩
          · exact AllReadyH.nil
      · refine AllReadyH.cons (o := ?_) ?_ (fun K hK => ?_) ?_
        rotate_left 1
        · simp only [List.getElem?_toArray, List.getElem?_cons_succ, List.getElem?_cons_zero]; rfl
        · go_simp
          skip
          refine hK.out _ _ ?_ (fun hHeld => ?_)
          · try dsimp only
            exact HCC.out _ HBA.out
          clear hK K
          try simp only [Act.put, List.setIfInBounds_toArray, List.set_cons_zero, List.set_cons_succ]
          refine wpAnyH_ready (rs := [7]) (by kernel_rfl) (by simp) ?_
          refine AllReadyH.cons (o := ?_) ?_ (fun K hK => ?_) AllReadyH.nil
          rotate_left 1
          · simp only [List.getElem?_toArray, List.getElem?_cons_succ, List.getElem?_cons_zero]; rfl
          go_simp
          go_at_call 120
          go_must (refine Calls.mono (numberOf_any l2 _) ?_)
          rintro e w' ⟨rfl, rfl⟩
          refine hK.out _ _ ?_ (fun hHeld => ?_)
          · try dsimp only
            exact HCC.out _ HBA.out
          clear hK K
          try simp only [Act.put, List.setIfInBounds_toArray, List.set_cons_zero, List.set_cons_succ]
          have HXA : Hid (Bx (w.drew.alloc (.cells #[.slice none 0 0, .slice none 0 0] 31)) w.heap.size 31 #[.slice none 0 0, .slice none 0 0]) := Bx.newAt rfl
          refine wpAnyH_ready (rs := [8]) (by kernel_rfl) (by simp) ?_
          refine AllReadyH.cons (o := ?_) ?_ (fun K hK => ?_) AllReadyH.nil
          rotate_left 1
          · simp only [List.getElem?_toArray, List.getElem?_cons_succ, List.getElem?_cons_zero]; rfl
          go_simp
          go_at_call 16
          go_must (refine Calls.mono (lineNew_any (nmF l1) (nmF l2) _ (by omega)) ?_)
          rintro e w2 ⟨hb2, h2⟩
          rcases h2 with ⟨_, rfl⟩ | ⟨_, _, h, _⟩
          rotate_left
          · rw [HO.out] at h; cases h
          have HB2 : Hid (Below w.heap.size w w2) := HBA.out.trans (hb2.mono HBA.out.size)
          unfold nilLn
          have HX2 := Lib.hid (HXA.out.below hb2 HXA.out.lt)
          have hxc := HX2.out.cell
          have hxf := HX2.out.free
          have hxl := HX2.out.lt
          refine hK.out _ _ ?_ (fun hHeld => ?_)
          · try dsimp only
            exact HCC.out _ HB2.out
          clear hK K
          try simp only [Act.put, List.setIfInBounds_toArray, List.set_cons_zero, List.set_cons_succ]
          refine wpAnyH_take (i := 9) (oi := ?_) (v := ?_) ?_ (by kernel_rfl) (by kernel_rfl) (by kernel_rfl) ?_ ?_ (by assumption) ?_
          rotate_left 2
          · simp only [List.getElem?_toArray, List.getElem?_cons_succ, List.getElem?_cons_zero]; rfl
          · exact fun _ _ _ h => h
          · first
              | (refine Or.inr ⟨?_, ?_⟩ <;> rfl)
              | (refine Or.inl ⟨?_, ?_⟩; · rfl
                 intro w hSw; (try dsimp only at hSw); go_simp; (try with_reducible rfl); done)
          try simp only [Act.put, List.setIfInBounds_toArray, List.set_cons_zero, List.set_cons_succ]
          refine wpAnyH_take (i := 10) (oi := ?_) (v := ?_) ?_ (by kernel_rfl) (by kernel_rfl) (by kernel_rfl) ?_ ?_ (by assumption) ?_
          rotate_left 2
          · simp only [List.getElem?_toArray, List.getElem?_cons_succ, List.getElem?_cons_zero]; rfl
          · exact fun _ _ _ h => h
          · first
              | (refine Or.inr ⟨?_, ?_⟩ <;> rfl)
              | (refine Or.inl ⟨?_, ?_⟩; · rfl
                 intro w hSw; (try dsimp only at hSw); go_simp; (try with_reducible rfl); done)
          try simp only [Act.put, List.setIfInBounds_toArray, List.set_cons_zero, List.set_cons_succ]
          refine wpAnyH_take (i := 11) (oi := ?_) (v := ?_) ?_ (by kernel_rfl) (by kernel_rfl) (by kernel_rfl) ?_ ?_ (by assumption) ?_
          rotate_left 2
          · simp only [List.getElem?_toArray, List.getElem?_cons_succ, List.getElem?_cons_zero]; rfl
          · exact fun _ _ _ h => h
          · first
              | (refine Or.inr ⟨?_, ?_⟩ <;> rfl)
              | (refine Or.inl ⟨?_, ?_⟩; · rfl
                 intro w hSw; (try dsimp only at hSw); go_simp; (try with_reducible rfl); done)
          try simp only [Act.put, List.setIfInBounds_toArray, List.set_cons_zero, List.set_cons_succ]
          refine wpAnyH_ready (rs := [13]) (by kernel_rfl) (by simp) ?_
          refine AllReadyH.cons (o := ?_) ?_ (fun K hK => ?_) AllReadyH.nil
          rotate_left 1
          · simp only [List.getElem?_toArray, List.getElem?_cons_succ, List.getElem?_cons_zero]; rfl
          go_simp
          have HB3 := Lib.hid ((HB2.out.setCell (p := ⟨w.heap.size, 0, none⟩) (Nat.le_refl _) (.slice none 0 0)).setCell (p := ⟨w.heap.size, 1, none⟩) (Nat.le_refl _) (.slice none 0 0))
          refine hK.out _ _ ?_ (fun hHeld => ?_)
          · try dsimp only
            exact HCC.out _ HB3.out
          clear hK K
          try simp only [Act.put, List.setIfInBounds_toArray, List.set_cons_zero, List.set_cons_succ]
          refine wpAnyH_take (i := 14) (oi := ?_) (v := ?_) ?_ (by kernel_rfl) (by kernel_rfl) (by kernel_rfl) ?_ ?_ (by assumption) ?_
          rotate_left 2
          · simp only [List.getElem?_toArray, List.getElem?_cons_succ, List.getElem?_cons_zero]; rfl
          · exact fun _ _ _ h => h
          · first
              | (refine Or.inr ⟨?_, ?_⟩ <;> rfl)
              | (refine Or.inl ⟨?_, ?_⟩; · rfl
                 intro w hSw; (try dsimp only at hSw); go_simp; (try with_reducible rfl); done)
          try simp only [Act.put, List.setIfInBounds_toArray, List.set_cons_zero, List.set_cons_succ]
          refine wpAnyH_done (by kernel_rfl) ?_ _
          clear hxc hxf hxl
          go_wp2_with fail
          go_ret
          exact ⟨by rw [HOT.out]; rfl, own, by rw [HST.out]; exact HS.out.keep (Fr.of_below HB3.out _), Fr.of_below HB3.out own, fun _ hq => .inl hq⟩
        · exact AllReadyH.nil
    · refine AllReadyH.cons (o := ?_) ?_ (fun K hK => ?_) ?_
      rotate_left 1
      · simp only [List.getElem?_toArray, List.getElem?_cons_succ, List.getElem?_cons_zero]; rfl
      · go_simp
        skip
        refine hK.out _ _ ?_ (fun hHeld => ?_)
        · try dsimp only
          exact HCC.out _ HBA.out
        clear hK K
        try simp only [Act.put, List.setIfInBounds_toArray, List.set_cons_zero, List.set_cons_succ]
        refine wpAnyH_ready (rs := [3]) (by kernel_rfl) (by simp) ?_
        refine AllReadyH.cons (o := ?_) ?_ (fun K hK => ?_) AllReadyH.nil
        rotate_left 1
        · simp only [List.getElem?_toArray, List.getElem?_cons_succ, List.getElem?_cons_zero]; rfl
        go_simp
        go_at_call 120
        go_must (refine Calls.mono (numberOf_any l1 _) ?_)
        rintro e w' ⟨rfl, rfl⟩
        refine hK.out _ _ ?_ (fun hHeld => ?_)
        · try dsimp only
          exact HCC.out _ HBA.out
        clear hK K
        try simp only [Act.put, List.setIfInBounds_toArray, List.set_cons_zero, List.set_cons_succ]
        refine wpAnyH_ready (rs := [7]) (by kernel_rfl) (by simp) ?_
        refine AllReadyH.cons (o := ?_) ?_ (fun K hK => ?_) AllReadyH.nil
        rotate_left 1
        · simp only [List.getElem?_toArray, List.getElem?_cons_succ, List.getElem?_cons_zero]; rfl
        go_simp
        go_at_call 120
        go_must (refine Calls.mono (numberOf_any l2 _) ?_)
        rintro e w' ⟨rfl, rfl⟩
        refine hK.out _ _ ?_ (fun hHeld => ?_)
        · try dsimp only
          exact HCC.out _ HBA.out
        clear hK K
        try simp only [Act.put, List.setIfInBounds_toArray, List.set_cons_zero, List.set_cons_succ]
        have HXA : Hid (Bx (w.drew.alloc (.cells #[.slice none 0 0, .slice none 0 0] 31)) w.heap.size 31 #[.slice none 0 0, .slice none 0 0]) := Bx.newAt rfl
        refine wpAnyH_ready (rs := [8]) (by kernel_rfl) (by simp) ?_
        refine AllReadyH.cons (o := ?_) ?_ (fun K hK => ?_) AllReadyH.nil
        rotate_left 1
        · simp only [List.getElem?_toArray, List.getElem?_cons_succ, List.getElem?_cons_zero]; rfl
        go_simp
        go_at_call 16
        go_must (refine Calls.mono (lineNew_any (nmF l1) (nmF l2) _ (by omega)) ?_)
        rintro e w2 ⟨hb2, h2⟩
        rcases h2 with ⟨_, rfl⟩ | ⟨_, _, h, _⟩
        rotate_left
        · rw [HO.out] at h; cases h
        have HB2 : Hid (Below w.heap.size w w2) := HBA.out.trans (hb2.mono HBA.out.size)
        unfold nilLn
        have HX2 := Lib.hid (HXA.out.below hb2 HXA.out.lt)
        have hxc := HX2.out.cell
        have hxf := HX2.out.free
        have hxl := HX2.out.lt
        refine hK.out _ _ ?_ (fun hHeld => ?_)
        · try dsimp only
          exact HCC.out _ HB2.out
        clear hK K
        try simp only [Act.put, List.setIfInBounds_toArray, List.set_cons_zero, List.set_cons_succ]
        refine wpAnyH_take (i := 9) (oi := ?_) (v := ?_) ?_ (by kernel_rfl) (by kernel_rfl) (by kernel_rfl) ?_ ?_ (by assumption) ?_
        rotate_left 2
        · simp only [List.getElem?_toArray, List.getElem?_cons_succ, List.getElem?_cons_zero]; rfl
        · exact fun _ _ _ h => h
        · first
            | (refine Or.inr ⟨?_, ?_⟩ <;> rfl)
            | (refine Or.inl ⟨?_, ?_⟩; · rfl
               intro w hSw; (try dsimp only at hSw); go_simp; (try with_reducible rfl); done)
        try simp only [Act.put, List.setIfInBounds_toArray, List.set_cons_zero, List.set_cons_succ]
        refine wpAnyH_take (i := 10) (oi := ?_) (v := ?_) ?_ (by kernel_rfl) (by kernel_rfl) (by kernel_rfl) ?_ ?_ (by assumption) ?_
        rotate_left 2
        · simp only [List.getElem?_toArray, List.getElem?_cons_succ, List.getElem?_cons_zero]; rfl
        · exact fun _ _ _ h => h
        · first
            | (refine Or.inr ⟨?_, ?_⟩ <;> rfl)
            | (refine Or.inl ⟨?_, ?_⟩; · rfl
               intro w hSw; (try dsimp only at hSw); go_simp; (try with_reducible rfl); done)
        try simp only [Act.put, List.setIfInBounds_toArray, List.set_cons_zero, List.set_cons_succ]
        refine wpAnyH_take (i := 11) (oi := ?_) (v := ?_) ?_ (by kernel_rfl) (by kernel_rfl) (by kernel_rfl) ?_ ?_ (by assumption) ?_
        rotate_left 2
        · simp only [List.getElem?_toArray, List.getElem?_cons_succ, List.getElem?_cons_zero]; rfl
        · exact fun _ _ _ h => h
        · first
            | (refine Or.inr ⟨?_, ?_⟩ <;> rfl)
            | (refine Or.inl ⟨?_, ?_⟩; · rfl
               intro w hSw; (try dsimp only at hSw); go_simp; (try with_reducible rfl); done)
        try simp only [Act.put, List.setIfInBounds_toArray, List.set_cons_zero, List.set_cons_succ]
        refine wpAnyH_ready (rs := [13]) (by kernel_rfl) (by simp) ?_
        refine AllReadyH.cons (o := ?_) ?_ (fun K hK => ?_) AllReadyH.nil
        rotate_left 1
        · simp only [List.getElem?_toArray, List.getElem?_cons_succ, List.getElem?_cons_zero]; rfl
        go_simp
        have HB3 := Lib.hid ((HB2.out.setCell (p := ⟨w.heap.size, 0, none⟩) (Nat.le_refl _) (.slice none 0 0)).setCell (p := ⟨w.heap.size, 1, none⟩) (Nat.le_refl _) (.slice none 0 0))
        refine hK.out _ _ ?_ (fun hHeld => ?_)
        · try dsimp only
          exact HCC.out _ HB3.out
        clear hK K
        try simp only [Act.put, List.setIfInBounds_toArray, List.set_cons_zero, List.set_cons_succ]
        refine wpAnyH_take (i := 14) (oi := ?_) (v := ?_) ?_ (by kernel_rfl) (by kernel_rfl) (by kernel_rfl) ?_ ?_ (by assumption) ?_
        rotate_left 2
        · simp only [List.getElem?_toArray, List.getElem?_cons_succ, List.getElem?_cons_zero]; rfl
        · exact fun _ _ _ h => h
        · first
            | (refine Or.inr ⟨?_, ?_⟩ <;> rfl)
            | (refine Or.inl ⟨?_, ?_⟩; · rfl
               intro w hSw; (try dsimp only at hSw); go_simp; (try with_reducible rfl); done)
        try simp only [Act.put, List.setIfInBounds_toArray, List.set_cons_zero, List.set_cons_succ]
        refine wpAnyH_done (by kernel_rfl) ?_ _
        clear hxc hxf hxl
        go_wp2_with fail
        go_ret
        exact ⟨by rw [HOT.out]; rfl, own, by rw [HST.out]; exact HS.out.keep (Fr.of_below HB3.out _), Fr.of_below HB3.out own, fun _ hq => .inl hq⟩
      · exact AllReadyH.nil
  | some y =>
    rw [ho] at HST HOT
    have HO := Lib.hid ho
    clear ho
    go_enter Tryz.func96, Tryz.ntmps96
    go_wp2_with fail
    refine wp_region_held_drew (S := fun W => W.cell? ⟨bw, 1, none⟩ = some (.string l1) ∧ W.cell? ⟨bw, 2, none⟩ = some (.string l2)) (by kernel_rfl) (HCC.out _ HBd.out) (fun hHeld => ?_)
    have HBA : Hid (Below w.heap.size w (w.drew.alloc (.cells #[.slice none 0 0, .slice none 0 0] 31))) := HBd.out.alloc HBd.out.size _
    refine wpAnyH_take (i := 0) (oi := ?_) (v := ?_) ?_ (by kernel_rfl) (by kernel_rfl) (by kernel_rfl) ?_ ?_ (by assumption) ?_
    rotate_left 2
    · simp only [List.getElem?_toArray, List.getElem?_cons_succ, List.getElem?_cons_zero]; rfl
    · exact fun _ _ _ h => h
    · first
        | (refine Or.inr ⟨?_, ?_⟩ <;> rfl)
        | (refine Or.inl ⟨?_, ?_⟩; · rfl
           intro w hSw; (try dsimp only at hSw); go_simp; (try with_reducible rfl); done)
    try simp only [Act.put, List.setIfInBounds_toArray, List.set_cons_zero, List.set_cons_succ]
    refine wpAnyH_take (i := 1) (oi := ?_) (v := ?_) ?_ (by kernel_rfl) (by kernel_rfl) (by kernel_rfl) ?_ ?_ (by assumption) ?_
    rotate_left 2
    · simp only [List.getElem?_toArray, List.getElem?_cons_succ, List.getElem?_cons_zero]; rfl
    · exact fun _ _ _ h => h
    · first
        | (refine Or.inr ⟨?_, ?_⟩ <;> rfl)
        | (refine Or.inl ⟨?_, ?_⟩; · rfl
           intro w hSw; (try dsimp only at hSw); go_simp; (try with_reducible rfl); done)
    try simp only [Act.put, List.setIfInBounds_toArray, List.set_cons_zero, List.set_cons_succ]
    refine wpAnyH_take (i := 2) (oi := ?_) (v := ?_) ?_ (by kernel_rfl) (by kernel_rfl) (by kernel_rfl) ?_ ?_ (by assumption) ?_
    rotate_left 2
    · simp only [List.getElem?_toArray, List.getElem?_cons_succ, List.getElem?_cons_zero]; rfl
    · exact fun _ _ _ h => h
    · first
        | (refine Or.inr ⟨?_, ?_⟩ <;> rfl)
        | (refine Or.inl ⟨?_, ?_⟩; · rfl
           intro w hSw; (try dsimp only at hSw); go_simp; (try with_reducible rfl); done)
    try simp only [Act.put, List.setIfInBounds_toArray, List.set_cons_zero, List.set_cons_succ]
    refine wpAnyH_take (i := 4) (oi := ?_) (v := ?_) ?_ (by kernel_rfl) (by kernel_rfl) (by kernel_rfl) ?_ ?_ (by assumption) ?_
    rotate_left 2
    · simp only [List.getElem?_toArray, List.getElem?_cons_succ, List.getElem?_cons_zero]; rfl
    · exact fun _ _ _ h => h
    · first
        | (refine Or.inr ⟨?_, ?_⟩ <;> rfl)
        | (refine Or.inl ⟨?_, ?_⟩; · rfl
           intro w hSw; (try dsimp only at hSw); go_simp; (try with_reducible rfl); done)
    try simp only [Act.put, List.setIfInBounds_toArray, List.set_cons_zero, List.set_cons_succ]
    refine wpAnyH_take (i := 5) (oi := ?_) (v := ?_) ?_ (by kernel_rfl) (by kernel_rfl) (by kernel_rfl) ?_ ?_ (by assumption) ?_
    rotate_left 2
    · simp only [List.getElem?_toArray, List.getElem?_cons_succ, List.getElem?_cons_zero]; rfl
    · exact fun _ _ _ h => h
    · first
        | (refine Or.inr ⟨?_, ?_⟩ <;> rfl)
        | (refine Or.inl ⟨?_, ?_⟩; · rfl
           intro w hSw; (try dsimp only at hSw); go_simp; (try with_reducible rfl); done)
    try simp only [Act.put, List.setIfInBounds_toArray, List.set_cons_zero, List.set_cons_succ]
    refine wpAnyH_take (i := 6) (oi := ?_) (v := ?_) ?_ (by kernel_rfl) (by kernel_rfl) (by kernel_rfl) ?_ ?_ (by assumption) ?_
    rotate_left 2
    · simp only [List.getElem?_toArray, List.getElem?_cons_succ, List.getElem?_cons_zero]; rfl
    · exact fun _ _ _ h => h
    · first
        | (refine Or.inr ⟨?_, ?_⟩ <;> rfl)
        | (refine Or.inl ⟨?_, ?_⟩; · rfl
           intro w hSw; (try dsimp only at hSw); go_simp; (try with_reducible rfl); done)
    try simp only [Act.put, List.setIfInBounds_toArray, List.set_cons_zero, List.set_cons_succ]
    refine wpAnyH_ready (rs := [3, 12]) (by kernel_rfl) (by simp) ?_
    refine AllReadyH.cons (o := ?_) ?_ (fun K hK => ?_) ?_
    rotate_left 1
    · simp only [List.getElem?_toArray, List.getElem?_cons_succ, List.getElem?_cons_zero]; rfl
    · go_simp
      go_at_call 120
      go_must (refine Calls.mono (numberOf_any l1 _) ?_)
      rintro e w' ⟨rfl, rfl⟩
      refine hK.out _ _ ?_ (fun hHeld => ?_)
      · try dsimp only
        exact HCC.out _ HBd.out
      clear hK K
      try simp only [Act.put, List.setIfInBounds_toArray, List.set_cons_zero, List.set_cons_succ]
      refine wpAnyH_ready (rs := [7, 12]) (by kernel_rfl) (by simp) ?_
      refine AllReadyH.cons (o := ?_) ?_ (fun K hK => ?_) ?_
      rotate_left 1
      · simp only [List.getElem?_toArray, List.getElem?_cons_succ, List.getElem?_cons_zero]; rfl
      · go_simp
        go_at_call 120
        go_must (refine Calls.mono (numberOf_any l2 _) ?_)
        rintro e w' ⟨rfl, rfl⟩
        refine hK.out _ _ ?_ (fun hHeld => ?_)
        · try dsimp only
          exact HCC.out _ HBd.out
        clear hK K
        try simp only [Act.put, List.setIfInBounds_toArray, List.set_cons_zero, List.set_cons_succ]
        refine wpAnyH_ready (rs := [8, 12]) (by kernel_rfl) (by simp) ?_
        refine AllReadyH.cons (o := ?_) ?_ (fun K hK => ?_) ?_
        rotate_left 1
        · simp only [List.getElem?_toArray, List.getElem?_cons_succ, List.getElem?_cons_zero]; rfl
        · go_simp
          go_at_call 16
          go_must (refine Calls.mono (lineNew_any (nmF l1) (nmF l2) _ (by omega)) ?_)
          rintro e w2 h2
          obtain ⟨v, rfl, hl2, hb2⟩ := h2.some HO.out
          have HL0 := Lib.hid hl2
          have HL2 := Lib.hid (hl2.mono (D := w.heap.size) (by have := HBd.out.size; exact this))
          obtain ⟨g1, c1, g2, c2, rfl, _⟩ := hl2
          have HB2 : Hid (Below w.heap.size w w2) := HBd.out.trans (hb2.mono HBd.out.size)
          refine hK.out _ _ ?_ (fun hHeld => ?_)
          · try dsimp only
            exact HCC.out _ HB2.out
          clear hK K
          try simp only [Act.put, List.setIfInBounds_toArray, List.set_cons_zero, List.set_cons_succ]
          refine wpAnyH_take (i := 9) (oi := ?_) (v := ?_) ?_ (by kernel_rfl) (by kernel_rfl) (by kernel_rfl) ?_ ?_ (by assumption) ?_
          rotate_left 2
          · simp only [List.getElem?_toArray, List.getElem?_cons_succ, List.getElem?_cons_zero]; rfl
          · exact fun _ _ _ h => h
          · first
              | (refine Or.inr ⟨?_, ?_⟩ <;> rfl)
              | (refine Or.inl ⟨?_, ?_⟩; · rfl
                 intro w hSw; (try dsimp only at hSw); go_simp; (try with_reducible rfl); done)
          try simp only [Act.put, List.setIfInBounds_toArray, List.set_cons_zero, List.set_cons_succ]
          refine wpAnyH_take (i := 10) (oi := ?_) (v := ?_) ?_ (by kernel_rfl) (by kernel_rfl) (by kernel_rfl) ?_ ?_ (by assumption) ?_
          rotate_left 2
          · simp only [List.getElem?_toArray, List.getElem?_cons_succ, List.getElem?_cons_zero]; rfl
          · exact fun _ _ _ h => h
          · first
              | (refine Or.inr ⟨?_, ?_⟩ <;> rfl)
              | (refine Or.inl ⟨?_, ?_⟩; · rfl
                 intro w hSw; (try dsimp only at hSw); go_simp; (try with_reducible rfl); done)
          try simp only [Act.put, List.setIfInBounds_toArray, List.set_cons_zero, List.set_cons_succ]
          refine wpAnyH_take (i := 11) (oi := ?_) (v := ?_) ?_ (by kernel_rfl) (by kernel_rfl) (by kernel_rfl) ?_ ?_ (by assumption) ?_
          rotate_left 2
          · simp only [List.getElem?_toArray, List.getElem?_cons_succ, List.getElem?_cons_zero]; rfl
          · exact fun _ _ _ h => h
          · first
              | (refine Or.inr ⟨?_, ?_⟩ <;> rfl)
              | (refine Or.inl ⟨?_, ?_⟩; · rfl
                 intro w hSw; (try dsimp only at hSw); go_simp; (try with_reducible rfl); done)
          try simp only [Act.put, List.setIfInBounds_toArray, List.set_cons_zero, List.set_cons_succ]
          refine wpAnyH_ready (rs := [12]) (by kernel_rfl) (by simp) ?_
          refine AllReadyH.cons (o := ?_) ?_ (fun K hK => ?_) AllReadyH.nil
          rotate_left 1
          · simp only [List.getElem?_toArray, List.getElem?_cons_succ, List.getElem?_cons_zero]; rfl
          go_simp
          skip
          refine hK.out _ _ ?_ (fun hHeld => ?_)
          · try dsimp only
            exact HCC.out _ (HB2.out.alloc HB2.out.size _)
          clear hK K
          try simp only [Act.put, List.setIfInBounds_toArray, List.set_cons_zero, List.set_cons_succ]
          refine wpAnyH_ready (rs := [13]) (by kernel_rfl) (by simp) ?_
          refine AllReadyH.cons (o := ?_) ?_ (fun K hK => ?_) AllReadyH.nil
          rotate_left 1
          · simp only [List.getElem?_toArray, List.getElem?_cons_succ, List.getElem?_cons_zero]; rfl
          go_simp
          skip
          refine hK.out _ _ ?_ (fun hHeld => ?_)
          · try dsimp only
            exact HCC.out _ (HB2.out.alloc HB2.out.size _)
          clear hK K
          try simp only [Act.put, List.setIfInBounds_toArray, List.set_cons_zero, List.set_cons_succ]
          refine wpAnyH_take (i := 14) (oi := ?_) (v := ?_) ?_ (by kernel_rfl) (by kernel_rfl) (by kernel_rfl) ?_ ?_ (by assumption) ?_
          rotate_left 2
          · simp only [List.getElem?_toArray, List.getElem?_cons_succ, List.getElem?_cons_zero]; rfl
          · exact fun _ _ _ h => h
          · first
              | (refine Or.inr ⟨?_, ?_⟩ <;> rfl)
              | (refine Or.inl ⟨?_, ?_⟩; · rfl
                 intro w hSw; (try dsimp only at hSw); go_simp; (try with_reducible rfl); done)
          try simp only [Act.put, List.setIfInBounds_toArray, List.set_cons_zero, List.set_cons_succ]
          refine wpAnyH_done (by kernel_rfl) ?_ _
          have HB3 := Lib.hid (HB2.out.alloc HB2.out.size (.cells #[.slice (some ⟨g1, 0, none⟩) y.n c1, .slice (some ⟨g2, 0, none⟩) y.m c2] 31))
          have HX3 : Hid (Bx (w2.alloc (.cells #[.slice (some ⟨g1, 0, none⟩) y.n c1, .slice (some ⟨g2, 0, none⟩) y.m c2] 31)) w2.heap.size 31 #[.slice (some ⟨g1, 0, none⟩) y.n c1, .slice (some ⟨g2, 0, none⟩) y.m c2]) := Bx.new _ _ _
          have HL3 := Lib.hid (HL2.out.below (below_all w2 (.cells #[.slice (some ⟨g1, 0, none⟩) y.n c1, .slice (some ⟨g2, 0, none⟩) y.m c2] 31)) (Nat.le_refl _))
          have hxc := HX3.out.cell
          generalize w2.alloc (.cells #[.slice (some ⟨g1, 0, none⟩) y.n c1, .slice (some ⟨g2, 0, none⟩) y.m c2] 31) = w3 at *
          clear hHeld
          obtain ⟨p1, d1, p2, d2, vm, vt, hs3, hown⟩ := HS.out.keep (Fr.of_below HB3.out (fun q => ¬ own q))
          have hsb := hs3.box.lt
          have hsf := hs3.box.free
          have hsc := hs3.box.cell
          clear hs3 hown
          go_wp2_with fail
          go_ret
          exact ⟨by rw [HOT.out]; rfl, by rw [HST.out]; exact ses_line HB3.out (HS.out.keep (Fr.of_below HB3.out _)) HL3.out HSL.out hz HSO.out⟩
        · refine AllReadyH.cons (o := ?_) ?_ (fun K hK => ?_) ?_
          rotate_left 1
          · simp only [List.getElem?_toArray, List.getElem?_cons_succ, List.getElem?_cons_zero]; rfl
          · go_simp
            skip
            refine hK.out _ _ ?_ (fun hHeld => ?_)
            · try dsimp only
              exact HCC.out _ HBA.out
            clear hK K
            try simp only [Act.put, List.setIfInBounds_toArray, List.set_cons_zero, List.set_cons_succ]
            have HXA : Hid (Bx (w.drew.alloc (.cells #[.slice none 0 0, .slice none 0 0] 31)) w.heap.size 31 #[.slice none 0 0, .slice none 0 0]) := Bx.newAt rfl
            refine wpAnyH_ready (rs := [8]) (by kernel_rfl) (by simp) ?_
            refine AllReadyH.cons (o := ?_) ?_ (fun K hK => ?_) AllReadyH.nil
            rotate_left 1
            · simp only [List.getElem?_toArray, List.getElem?_cons_succ, List.getElem?_cons_zero]; rfl
            go_simp
            go_at_call 16
            go_must (refine Calls.mono (lineNew_any (nmF l1) (nmF l2) _ (by omega)) ?_)
            rintro e w2 h2
            obtain ⟨v, rfl, hl2, hb2⟩ := h2.some HO.out
            have HL0 := Lib.hid hl2
            have HL2 := Lib.hid (hl2.mono (D := w.heap.size) (by have := HBA.out.size; exact this))
            obtain ⟨g1, c1, g2, c2, rfl, _⟩ := hl2
            have HB2 : Hid (Below w.heap.size w w2) := HBA.out.trans (hb2.mono HBA.out.size)
            have HX2 := Lib.hid (HXA.out.below hb2 HXA.out.lt)
            have hxc := HX2.out.cell
            have hxf := HX2.out.free
            have hxl := HX2.out.lt
            refine hK.out _ _ ?_ (fun hHeld => ?_)
            · try dsimp only
              exact HCC.out _ HB2.out
            clear hK K
            try simp only [Act.put, List.setIfInBounds_toArray, List.set_cons_zero, List.set_cons_succ]
            refine wpAnyH_take (i := 9) (oi := ?_) (v := ?_) ?_ (by kernel_rfl) (by kernel_rfl) (by kernel_rfl) ?_ ?_ (by assumption) ?_
            rotate_left 2
            · simp only [List.getElem?_toArray, List.getElem?_cons_succ, List.getElem?_cons_zero]; rfl
            · exact fun _ _ _ h => h
            · first
                | (refine Or.inr ⟨?_, ?_⟩ <;> rfl)
                | (refine Or.inl ⟨?_, ?_⟩; · rfl
                   intro w hSw; (try dsimp only at hSw); go_simp; (try with_reducible rfl); done)
            try simp only [Act.put, List.setIfInBounds_toArray, List.set_cons_zero, List.set_cons_succ]
            refine wpAnyH_take (i := 10) (oi := ?_) (v := ?_) ?_ (by kernel_rfl) (by kernel_rfl) (by kernel_rfl) ?_ ?_ (by assumption) ?_
            rotate_left 2
            · simp only [List.getElem?_toArray, List.getElem?_cons_succ, List.getElem?_cons_zero]; rfl
            · exact fun _ _ _ h => h
            · first
                | (refine Or.inr ⟨?_, ?_⟩ <;> rfl)
                | (refine Or.inl ⟨?_, ?_⟩; · rfl
                   intro w hSw; (try dsimp only at hSw); go_simp; (try with_reducible rfl); done)
            try simp only [Act.put, List.setIfInBounds_toArray, List.set_cons_zero, List.set_cons_succ]
            refine wpAnyH_take (i := 11) (oi := ?_) (v := ?_) ?_ (by kernel_rfl) (by kernel_rfl) (by kernel_rfl) ?_ ?_ (by assumption) ?_
            rotate_left 2
            · simp only [List.getElem?_toArray, List.getElem?_cons_succ, List.getElem?_cons_zero]; rfl
            · exact fun _ _ _ h => h
            · first
                | (refine Or.inr ⟨?_, ?_⟩ <;> rfl)
                | (refine Or.inl ⟨?_, ?_⟩; · rfl
                   intro w hSw; (try dsimp only at hSw); go_simp; (try with_reducible rfl); done)
            try simp only [Act.put, List.setIfInBounds_toArray, List.set_cons_zero, List.set_cons_succ]
            refine wpAnyH_ready (rs := [13]) (by kernel_rfl) (by simp) ?_
            refine AllReadyH.cons (o := ?_) ?_ (fun K hK => ?_) AllReadyH.nil
            rotate_left 1
            · simp only [List.getElem?_toArray, List.getElem?_cons_succ, List.getElem?_cons_zero]; rfl
            go_simp
            have HB3 := Lib.hid ((HB2.out.setCell (p := ⟨w.heap.size, 0, none⟩) (Nat.le_refl _) (.slice (some ⟨g1, 0, none⟩) y.n c1)).setCell (p := ⟨w.heap.size, 1, none⟩) (Nat.le_refl _) (.slice (some ⟨g2, 0, none⟩) y.m c2))
            refine hK.out _ _ ?_ (fun hHeld => ?_)
            · try dsimp only
              exact HCC.out _ HB3.out
            clear hK K
            try simp only [Act.put, List.setIfInBounds_toArray, List.set_cons_zero, List.set_cons_succ]
            refine wpAnyH_take (i := 14) (oi := ?_) (v := ?_) ?_ (by kernel_rfl) (by kernel_rfl) (by kernel_rfl) ?_ ?_ (by assumption) ?_
            rotate_left 2
            · simp only [List.getElem?_toArray, List.getElem?_cons_succ, List.getElem?_cons_zero]; rfl
            · exact fun _ _ _ h => h
            · first
                | (refine Or.inr ⟨?_, ?_⟩ <;> rfl)
                | (refine Or.inl ⟨?_, ?_⟩; · rfl
                   intro w hSw; (try dsimp only at hSw); go_simp; (try with_reducible rfl); done)
            try simp only [Act.put, List.setIfInBounds_toArray, List.set_cons_zero, List.set_cons_succ]
            refine wpAnyH_done (by kernel_rfl) ?_ _
            clear hxc hxf hxl
            have HX3 : Hid (Bx ((w2.setCell ⟨w.heap.size, 0, none⟩ (.slice (some ⟨g1, 0, none⟩) y.n c1)).setCell ⟨w.heap.size, 1, none⟩ (.slice (some ⟨g2, 0, none⟩) y.m c2)) w.heap.size 31 #[.slice (some ⟨g1, 0, none⟩) y.n c1, .slice (some ⟨g2, 0, none⟩) y.m c2]) := by
              have hb := (HX2.out.set 0 (.slice (some ⟨g1, 0, none⟩) y.n c1)).set 1 (.slice (some ⟨g2, 0, none⟩) y.m c2)
              show Bx _ _ _ _
              simpa using hb
            have hLO : LnO w.heap.size ((w2.setCell ⟨w.heap.size, 0, none⟩ (.slice (some ⟨g1, 0, none⟩) y.n c1)).setCell ⟨w.heap.size, 1, none⟩ (.slice (some ⟨g2, 0, none⟩) y.m c2)) (.agg #[.slice (some ⟨g1, 0, none⟩) y.n c1, .slice (some ⟨g2, 0, none⟩) y.m c2]) y := by
              obtain ⟨q1, e1, q2, e2, e, h1, h2, h3, h4, h5⟩ := HL0.out
              cases e
              have h4' : w.heap.size + 1 ≤ g1 := by simpa using h4
              have h5' : w.heap.size + 1 ≤ g2 := by simpa using h5
              exact ⟨_, _, _, _, rfl, (h1.setOther (by dsimp only; omega) _).setOther (by dsimp only; omega) _, (h2.setOther (by dsimp only; omega) _).setOther (by dsimp only; omega) _, h3, by omega, by omega⟩
            have HL3 := Lib.hid hLO
            clear hLO
            have hxc := HX3.out.cell
            generalize (w2.setCell ⟨w.heap.size, 0, none⟩ (.slice (some ⟨g1, 0, none⟩) y.n c1)).setCell ⟨w.heap.size, 1, none⟩ (.slice (some ⟨g2, 0, none⟩) y.m c2) = w3 at *
            clear hHeld
            obtain ⟨p1, d1, p2, d2, vm, vt, hs3, hown⟩ := HS.out.keep (Fr.of_below HB3.out (fun q => ¬ own q))
            have hsb := hs3.box.lt
            have hsf := hs3.box.free
            have hsc := hs3.box.cell
            clear hs3 hown
            go_wp2_with fail
            go_ret
            exact ⟨by rw [HOT.out]; rfl, by rw [HST.out]; exact ses_line HB3.out (HS.out.keep (Fr.of_below HB3.out _)) HL3.out HSL.out hz HSO.out⟩
          · exact AllReadyH.nil
      · refine AllReadyH.cons (o := ?_) ?_ (fun K hK => ?_) ?_
        rotate_left 1
        · simp only [List.getElem?_toArray, List.getElem?_cons_succ, List.getElem?_cons_zero]; rfl
        · go_simp
          skip
          refine hK.out _ _ ?_ (fun hHeld => ?_)
          · try dsimp only
            exact HCC.out _ HBA.out
          clear hK K
          try simp only [Act.put, List.setIfInBounds_toArray, List.set_cons_zero, List.set_cons_succ]
          refine wpAnyH_ready (rs := [7]) (by kernel_rfl) (by simp) ?_
          refine AllReadyH.cons (o := ?_) ?_ (fun K hK => ?_) AllReadyH.nil
          rotate_left 1
          · simp only [List.getElem?_toArray, List.getElem?_cons_succ, List.getElem?_cons_zero]; rfl
          go_simp
          go_at_call 120
          go_must (refine Calls.mono (numberOf_any l2 _) ?_)
          rintro e w' ⟨rfl, rfl⟩
          refine hK.out _ _ ?_ (fun hHeld => ?_)
          · try dsimp only
            exact HCC.out _ HBA.out
          clear hK K
          try simp only [Act.put, List.setIfInBounds_toArray, List.set_cons_zero, List.set_cons_succ]
          have HXA : Hid (Bx (w.drew.alloc (.cells #[.slice none 0 0, .slice none 0 0] 31)) w.heap.size 31 #[.slice none 0 0, .slice none 0 0]) := Bx.newAt rfl
          refine wpAnyH_ready (rs := [8]) (by kernel_rfl) (by simp) ?_
          refine AllReadyH.cons (o := ?_) ?_ (fun K hK => ?_) AllReadyH.nil
          rotate_left 1
          · simp only [List.getElem?_toArray, List.getElem?_cons_succ, List.getElem?_cons_zero]; rfl
          go_simp
          go_at_call 16
          go_must (refine Calls.mono (lineNew_any (nmF l1) (nmF l2) _ (by omega)) ?_)
          rintro e w2 h2
          obtain ⟨v, rfl, hl2, hb2⟩ := h2.some HO.out
          have HL0 := Lib.hid hl2
          have HL2 := Lib.hid (hl2.mono (D := w.heap.size) (by have := HBA.out.size; exact this))
          obtain ⟨g1, c1, g2, c2, rfl, _⟩ := hl2
          have HB2 : Hid (Below w.heap.size w w2) := HBA.out.trans (hb2.mono HBA.out.size)
          have HX2 := Lib.hid (HXA.out.below hb2 HXA.out.lt)
          have hxc := HX2.out.cell
          have hxf := HX2.out.free
          have hxl := HX2.out.lt
          refine hK.out _ _ ?_ (fun hHeld => ?_)
          · try dsimp only
            exact HCC.out _ HB2.out
          clear hK K
          try simp only [Act.put, List.setIfInBounds_toArray, List.set_cons_zero, List.set_cons_succ]
          refine wpAnyH_take (i := 9) (oi := ?_) (v := ?_) ?_ (by kernel_rfl) (by kernel_rfl) (by kernel_rfl) ?_ ?_ (by assumption) ?_
          rotate_left 2
          · simp only [List.getElem?_toArray, List.getElem?_cons_succ, List.getElem?_cons_zero]; rfl
          · exact fun _ _ _ h => h
          · first
              | (refine Or.inr ⟨?_, ?_⟩ <;> rfl)
              | (refine Or.inl ⟨?_, ?_⟩; · rfl
                 intro w hSw; (try dsimp only at hSw); go_simp; (try with_reducible rfl); done)
          try simp only [Act.put, List.setIfInBounds_toArray, List.set_cons_zero, List.set_cons_succ]
          refine wpAnyH_take (i := 10) (oi := ?_) (v := ?_) ?_ (by kernel_rfl) (by kernel_rfl) (by kernel_rfl) ?_ ?_ (by assumption) ?_
          rotate_left 2
          · simp only [List.getElem?_toArray, List.getElem?_cons_succ, List.getElem?_cons_zero]; rfl
          · exact fun _ _ _ h => h
          · first
              | (refine Or.inr ⟨?_, ?_⟩ <;> rfl)
              | (refine Or.inl ⟨?_, ?_⟩; · rfl
                 intro w hSw; (try dsimp only at hSw); go_simp; (try with_reducible rfl); done)
          try simp only [Act.put, List.setIfInBounds_toArray, List.set_cons_zero, List.set_cons_succ]
          refine wpAnyH_take (i := 11) (oi := ?_) (v := ?_) ?_ (by kernel_rfl) (by kernel_rfl) (by kernel_rfl) ?_ ?_ (by assumption) ?_
          rotate_left 2
          · simp only [List.getElem?_toArray, List.getElem?_cons_succ, List.getElem?_cons_zero]; rfl
          · exact fun _ _ _ h => h
          · first
              | (refine Or.inr ⟨?_, ?_⟩ <;> rfl)
              | (refine Or.inl ⟨?_, ?_⟩; · rfl
                 intro w hSw; (try dsimp only at hSw); go_simp; (try with_reducible rfl); done)
          try simp only [Act.put, List.setIfInBounds_toArray, List.set_cons_zero, List.set_cons_succ]
          refine wpAnyH_ready (rs := [13]) (by kernel_rfl) (by simp) ?_
          refine AllReadyH.cons (o := ?_) ?_ (fun K hK => ?_) AllReadyH.nil
          rotate_left 1
          · simp only [List.getElem?_toArray, List.getElem?_cons_succ, List.getElem?_cons_zero]; rfl
          go_simp
          have HB3 := Lib.hid ((HB2.out.setCell (p := ⟨w.heap.size, 0, none⟩) (Nat.le_refl _) (.slice (some ⟨g1, 0, none⟩) y.n c1)).setCell (p := ⟨w.heap.size, 1, none⟩) (Nat.le_refl _) (.slice (some ⟨g2, 0, none⟩) y.m c2))
          refine hK.out _ _ ?_ (fun hHeld => ?_)
          · try dsimp only
            exact HCC.out _ HB3.out
          clear hK K
          try simp only [Act.put, List.setIfInBounds_toArray, List.set_cons_zero, List.set_cons_succ]
          refine wpAnyH_take (i := 14) (oi := ?_) (v := ?_) ?_ (by kernel_rfl) (by kernel_rfl) (by kernel_rfl) ?_ ?_ (by assumption) ?_
          rotate_left 2
          · simp only [List.getElem?_toArray, List.getElem?_cons_succ, List.getElem?_cons_zero]; rfl
          · exact fun _ _ _ h => h
          · first
              | (refine Or.inr ⟨?_, ?_⟩ <;> rfl)
              | (refine Or.inl ⟨?_, ?_⟩; · rfl
                 intro w hSw; (try dsimp only at hSw); go_simp; (try with_reducible rfl); done)
          try simp only [Act.put, List.setIfInBounds_toArray, List.set_cons_zero, List.set_cons_succ]
          refine wpAnyH_done (by kernel_rfl) ?_ _
          clear hxc hxf hxl
          have HX3 : Hid (Bx ((w2.setCell ⟨w.heap.size, 0, none⟩ (.slice (some ⟨g1, 0, none⟩) y.n c1)).setCell ⟨w.heap.size, 1, none⟩ (.slice (some ⟨g2, 0, none⟩) y.m c2)) w.heap.size 31 #[.slice (some ⟨g1, 0, none⟩) y.n c1, .slice (some ⟨g2, 0, none⟩) y.m c2]) := by
            have hb := (HX2.out.set 0 (.slice (some ⟨g1, 0, none⟩) y.n c1)).set 1 (.slice (some ⟨g2, 0, none⟩) y.m c2)
            show Bx _ _ _ _
            simpa using hb
          have hLO : LnO w.heap.size ((w2.setCell ⟨w.heap.size, 0, none⟩ (.slice (some ⟨g1, 0, none⟩) y.n c1)).setCell ⟨w.heap.size, 1, none⟩ (.slice (some ⟨g2, 0, none⟩) y.m c2)) (.agg #[.slice (some ⟨g1, 0, none⟩) y.n c1, .slice (some ⟨g2, 0, none⟩) y.m c2]) y := by
            obtain ⟨q1, e1, q2, e2, e, h1, h2, h3, h4, h5⟩ := HL0.out
            cases e
            have h4' : w.heap.size + 1 ≤ g1 := by simpa using h4
            have h5' : w.heap.size + 1 ≤ g2 := by simpa using h5
            exact ⟨_, _, _, _, rfl, (h1.setOther (by dsimp only; omega) _).setOther (by dsimp only; omega) _, (h2.setOther (by dsimp only; omega) _).setOther (by dsimp only; omega) _, h3, by omega, by omega⟩
          have HL3 := Lib.hid hLO
          clear hLO
          have hxc := HX3.out.cell
          generalize (w2.setCell ⟨w.heap.size, 0, none⟩ (.slice (some ⟨g1, 0, none⟩) y.n c1)).setCell ⟨w.heap.size, 1, none⟩ (.slice (some ⟨g2, 0, none⟩) y.m c2) = w3 at *
          clear hHeld
          obtain ⟨p1, d1, p2, d2, vm, vt, hs3, hown⟩ := HS.out.keep (Fr.of_below HB3.out (fun q => ¬ own q))
          have hsb := hs3.box.lt
          have hsf := hs3.box.free
          have hsc := hs3.box.cell
          clear hs3 hown
          go_wp2_with fail
          go_ret
          exact ⟨by rw [HOT.out]; rfl, by rw [HST.out]; exact ses_line HB3.out (HS.out.keep (Fr.of_below HB3.out _)) HL3.out HSL.out hz HSO.out⟩
        · exact AllReadyH.nil
    · refine AllReadyH.cons (o := ?_) ?_ (fun K hK => ?_) ?_
      rotate_left 1
      · simp only [List.getElem?_toArray, List.getElem?_cons_succ, List.getElem?_cons_zero]; rfl
      · go_simp
        skip
        refine hK.out _ _ ?_ (fun hHeld => ?_)
        · try dsimp only
          exact HCC.out _ HBA.out
        clear hK K
        try simp only [Act.put, List.setIfInBounds_toArray, List.set_cons_zero, List.set_cons_succ]
        refine wpAnyH_ready (rs := [3]) (by kernel_rfl) (by simp) ?_
        refine AllReadyH.cons (o := ?_) ?_ (fun K hK => ?_) AllReadyH.nil
        rotate_left 1
        · simp only [List.getElem?_toArray, List.getElem?_cons_succ, List.getElem?_cons_zero]; rfl
        go_simp
        go_at_call 120
        go_must (refine Calls.mono (numberOf_any l1 _) ?_)
        rintro e w' ⟨rfl, rfl⟩
        refine hK.out _ _ ?_ (fun hHeld => ?_)
        · try dsimp only
          exact HCC.out _ HBA.out
        clear hK K
        try simp only [Act.put, List.setIfInBounds_toArray, List.set_cons_zero, List.set_cons_succ]
        refine wpAnyH_ready (rs := [7]) (by kernel_rfl) (by simp) ?_
        refine AllReadyH.cons (o := ?_) ?_ (fun K hK => ?_) AllReadyH.nil
        rotate_left 1
        · simp only [List.getElem?_toArray, List.getElem?_cons_succ, List.getElem?_cons_zero]; rfl
        go_simp
        go_at_call 120
        go_must (refine Calls.mono (numberOf_any l2 _) ?_)
        rintro e w' ⟨rfl, rfl⟩
        refine hK.out _ _ ?_ (fun hHeld => ?_)
        · try dsimp only
          exact HCC.out _ HBA.out
        clear hK K
        try simp only [Act.put, List.setIfInBounds_toArray, List.set_cons_zero, List.set_cons_succ]
        have HXA : Hid (Bx (w.drew.alloc (.cells #[.slice none 0 0, .slice none 0 0] 31)) w.heap.size 31 #[.slice none 0 0, .slice none 0 0]) := Bx.newAt rfl
        refine wpAnyH_ready (rs := [8]) (by kernel_rfl) (by simp) ?_
        refine AllReadyH.cons (o := ?_) ?_ (fun K hK => ?_) AllReadyH.nil
        rotate_left 1
        · simp only [List.getElem?_toArray, List.getElem?_cons_succ, List.getElem?_cons_zero]; rfl
        go_simp
        go_at_call 16
        go_must (refine Calls.mono (lineNew_any (nmF l1) (nmF l2) _ (by omega)) ?_)
        rintro e w2 h2
        obtain ⟨v, rfl, hl2, hb2⟩ := h2.some HO.out
        have HL0 := Lib.hid hl2
        have HL2 := Lib.hid (hl2.mono (D := w.heap.size) (by have := HBA.out.size; exact this))
        obtain ⟨g1, c1, g2, c2, rfl, _⟩ := hl2
        have HB2 : Hid (Below w.heap.size w w2) := HBA.out.trans (hb2.mono HBA.out.size)
        have HX2 := Lib.hid (HXA.out.below hb2 HXA.out.lt)
        have hxc := HX2.out.cell
        have hxf := HX2.out.free
        have hxl := HX2.out.lt
        refine hK.out _ _ ?_ (fun hHeld => ?_)
        · try dsimp only
          exact HCC.out _ HB2.out
        clear hK K
        try simp only [Act.put, List.setIfInBounds_toArray, List.set_cons_zero, List.set_cons_succ]
        refine wpAnyH_take (i := 9) (oi := ?_) (v := ?_) ?_ (by kernel_rfl) (by kernel_rfl) (by kernel_rfl) ?_ ?_ (by assumption) ?_
        rotate_left 2
        · simp only [List.getElem?_toArray, List.getElem?_cons_succ, List.getElem?_cons_zero]; rfl
        · exact fun _ _ _ h => h
        · first
            | (refine Or.inr ⟨?_, ?_⟩ <;> rfl)
            | (refine Or.inl ⟨?_, ?_⟩; · rfl
               intro w hSw; (try dsimp only at hSw); go_simp; (try with_reducible rfl); done)
        try simp only [Act.put, List.setIfInBounds_toArray, List.set_cons_zero, List.set_cons_succ]
        refine wpAnyH_take (i := 10) (oi := ?_) (v := ?_) ?_ (by kernel_rfl) (by kernel_rfl) (by kernel_rfl) ?_ ?_ (by assumption) ?_
        rotate_left 2
        · simp only [List.getElem?_toArray, List.getElem?_cons_succ, List.getElem?_cons_zero]; rfl
        · exact fun _ _ _ h => h
        · first
            | (refine Or.inr ⟨?_, ?_⟩ <;> rfl)
            | (refine Or.inl ⟨?_, ?_⟩; · rfl
               intro w hSw; (try dsimp only at hSw); go_simp; (try with_reducible rfl); done)
        try simp only [Act.put, List.setIfInBounds_toArray, List.set_cons_zero, List.set_cons_succ]
        refine wpAnyH_take (i := 11) (oi := ?_) (v := ?_) ?_ (by kernel_rfl) (by kernel_rfl) (by kernel_rfl) ?_ ?_ (by assumption) ?_
        rotate_left 2
        · simp only [List.getElem?_toArray, List.getElem?_cons_succ, List.getElem?_cons_zero]; rfl
        · exact fun _ _ _ h => h
        · first
            | (refine Or.inr ⟨?_, ?_⟩ <;> rfl)
            | (refine Or.inl ⟨?_, ?_⟩; · rfl
               intro w hSw; (try dsimp only at hSw); go_simp; (try with_reducible rfl); done)
        try simp only [Act.put, List.setIfInBounds_toArray, List.set_cons_zero, List.set_cons_succ]
        refine wpAnyH_ready (rs := [13]) (by kernel_rfl) (by simp) ?_
        refine AllReadyH.cons (o := ?_) ?_ (fun K hK => ?_) AllReadyH.nil
        rotate_left 1
        · simp only [List.getElem?_toArray, List.getElem?_cons_succ, List.getElem?_cons_zero]; rfl
        go_simp
        have HB3 := Lib.hid ((HB2.out.setCell (p := ⟨w.heap.size, 0, none⟩) (Nat.le_refl _) (.slice (some ⟨g1, 0, none⟩) y.n c1)).setCell (p := ⟨w.heap.size, 1, none⟩) (Nat.le_refl _) (.slice (some ⟨g2, 0, none⟩) y.m c2))
        refine hK.out _ _ ?_ (fun hHeld => ?_)
        · try dsimp only
          exact HCC.out _ HB3.out
        clear hK K
        try simp only [Act.put, List.setIfInBounds_toArray, List.set_cons_zero, List.set_cons_succ]
        refine wpAnyH_take (i := 14) (oi := ?_) (v := ?_) ?_ (by kernel_rfl) (by kernel_rfl) (by kernel_rfl) ?_ ?_ (by assumption) ?_
        rotate_left 2
        · simp only [List.getElem?_toArray, List.getElem?_cons_succ, List.getElem?_cons_zero]; rfl
        · exact fun _ _ _ h => h
        · first
            | (refine Or.inr ⟨?_, ?_⟩ <;> rfl)
            | (refine Or.inl ⟨?_, ?_⟩; · rfl
               intro w hSw; (try dsimp only at hSw); go_simp; (try with_reducible rfl); done)
        try simp only [Act.put, List.setIfInBounds_toArray, List.set_cons_zero, List.set_cons_succ]
        refine wpAnyH_done (by kernel_rfl) ?_ _
        clear hxc hxf hxl
        have HX3 : Hid (Bx ((w2.setCell ⟨w.heap.size, 0, none⟩ (.slice (some ⟨g1, 0, none⟩) y.n c1)).setCell ⟨w.heap.size, 1, none⟩ (.slice (some ⟨g2, 0, none⟩) y.m c2)) w.heap.size 31 #[.slice (some ⟨g1, 0, none⟩) y.n c1, .slice (some ⟨g2, 0, none⟩) y.m c2]) := by
          have hb := (HX2.out.set 0 (.slice (some ⟨g1, 0, none⟩) y.n c1)).set 1 (.slice (some ⟨g2, 0, none⟩) y.m c2)
          show Bx _ _ _ _
          simpa using hb
        have hLO : LnO w.heap.size ((w2.setCell ⟨w.heap.size, 0, none⟩ (.slice (some ⟨g1, 0, none⟩) y.n c1)).setCell ⟨w.heap.size, 1, none⟩ (.slice (some ⟨g2, 0, none⟩) y.m c2)) (.agg #[.slice (some ⟨g1, 0, none⟩) y.n c1, .slice (some ⟨g2, 0, none⟩) y.m c2]) y := by
          obtain ⟨q1, e1, q2, e2, e, h1, h2, h3, h4, h5⟩ := HL0.out
          cases e
          have h4' : w.heap.size + 1 ≤ g1 := by simpa using h4
          have h5' : w.heap.size + 1 ≤ g2 := by simpa using h5
          exact ⟨_, _, _, _, rfl, (h1.setOther (by dsimp only; omega) _).setOther (by dsimp only; omega) _, (h2.setOther (by dsimp only; omega) _).setOther (by dsimp only; omega) _, h3, by omega, by omega⟩
        have HL3 := Lib.hid hLO
        clear hLO
        have hxc := HX3.out.cell
        generalize (w2.setCell ⟨w.heap.size, 0, none⟩ (.slice (some ⟨g1, 0, none⟩) y.n c1)).setCell ⟨w.heap.size, 1, none⟩ (.slice (some ⟨g2, 0, none⟩) y.m c2) = w3 at *
        clear hHeld
        obtain ⟨p1, d1, p2, d2, vm, vt, hs3, hown⟩ := HS.out.keep (Fr.of_below HB3.out (fun q => ¬ own q))
        have hsb := hs3.box.lt
        have hsf := hs3.box.free
        have hsc := hs3.box.cell
        clear hs3 hown
        go_wp2_with fail
        go_ret
        exact ⟨by rw [HOT.out]; rfl, by rw [HST.out]; exact ses_line HB3.out (HS.out.keep (Fr.of_below HB3.out _)) HL3.out HSL.out hz HSO.out⟩
      · exact AllReadyH.nil
end Go.Proofs.YtlkdmpfifpkpaaaGreatDoor
