/-
  Parts of the proof: Kf Kg Jm Jn Jo. No condition.
-/
import Derived.Test.YtlkdmpfifpkpaaaGreatDoorV20
namespace Go.Proofs.YtlkdmpfifpkpaaaGreatDoor
open Go.RowKit
def RgR (z : Nat) (w : World) (v : Value) (ns : List (Int × ByteArray)) : Prop :=
 ∃ r es, v = .pointer (some ⟨r, 0, none⟩) ∧ RgC w r es ns ∧ RgB z r es
def RgRes (ok : Bool) (ns : List (Int × ByteArray)) (w : World) (e : Ending) (w' : World) : Prop :=
 (∃ r, e = .returned (.tuple #[.pointer (some ⟨r, 0, none⟩), .bool ok]) ∧ (ns.length ≤ 30 → RgR w.heap.size w' (.pointer (some ⟨r, 0, none⟩)) ns)) ∧ Below w.heap.size w w'
set_option linter.unusedSimpArgs false in
set_option maxHeartbeats 1000000 in
theorem registerOf_any (b off c : Nat) (ns : List (Int × ByteArray)) (w : World) (hn : ns.length ≤ 1000000000000) (hc : NtC w b off ns) :
    Calls Tryz.prog 169 #[.slice (some ⟨b, off, none⟩) ns.length c] w (RgRes (rgV ns) ns w) := by
  have HC : Hid (∀ w', Below w.heap.size w w' → NtC w' b off ns) := fun w' hb => hc.keep hb
  have HX : Hid (Bx (w.alloc (.cells #[.pointer none, .pointer none, .int .i64 0] 210)) w.heap.size 210 #[.pointer none, .pointer none, .int .i64 0]) := Bx.new _ _ _
  have HBB : Hid (Below w.heap.size w (w.alloc (.cells #[.pointer none, .pointer none, .int .i64 0] 210))) := below_all _ _
  clear hc
  by_cases h30 : (30 : Int) < (ns.length : Int)
  ·have HV : Hid (rgV ns = false) := rgV_long (by omega)
   go_enter Tryz.func169, Tryz.ntmps169
   go_wp2_with fail
   go_ret2
   exact ⟨⟨w.heap.size, by rw [HV.out]; rfl, fun h => by omega⟩, HBB.out⟩
  go_enter Tryz.func169, Tryz.ntmps169
  go_wp2_with fail
  go_loopw [6, 15] (fun _ i wr => ∃ k : Nat, k ≤ ns.length ∧ i = .int .i64 k ∧ ∃ es, Hid (RgC wr w.heap.size es (ns.take k) ∧ RgB w.heap.size w.heap.size es) ∧ Hid (Below w.heap.size w wr)) (fun _ i _ => ns.length - (intOf i).toNat)
  case atStart => exact ⟨0, Nat.zero_le _, rfl, [], Lib.hid ⟨RgC.nil HX.out, Nat.le_refl _, fun i hi => by simp at hi⟩, HBB⟩
  case round =>
   obtain ⟨k, hk, rfl, es, HR, HB⟩ := hrel
   by_cases hlt : k < ns.length
   ·obtain ⟨c0, c1⟩ := HC.out _ HB.out k hlt
    have HTK : Hid (ns.take (k + 1) = ns.take k ++ [(nM ns k, nL ns k)]) := by show _ = _; rw [nM_at hlt, nL_at hlt]; exact List.take_succ_eq_append_getElem hlt
    have HLT : Hid ((ns.take k).length ≤ 1000000) := by show _ ≤ _; simp; omega
    generalize nM ns k = m at *
    generalize nL ns k = l at *
    have HPT : Hid (∀ o, Calls Tryz.prog 175 #[.pointer (some ⟨w.heap.size, 0, none⟩), .agg #[.int .i64 m, .string l]] (wr.alloc o) fun e w' => e = .returned (.tuple #[]) ∧ (∃ b, (wr.alloc o).heap.size ≤ b ∧ RgC w' w.heap.size (es ++ [b]) (ns.take k ++ [(m, l)])) ∧ Below w.heap.size (wr.alloc o) w') := fun o => put_any w.heap.size w.heap.size es (ns.take k) (m, l) (wr.alloc o) (HR.out.1.alloc _) HLT.out HR.out.2 (by have := HB.out.size; simp; omega)
    go_wp2_with fail
    refine (HPT.out _).mono ?_
    rintro e w2 ⟨rfl, ⟨bn, hbn, hrg⟩, hb2⟩
    have HR2 : Hid (RgC w2 w.heap.size (es ++ [bn]) (ns.take (k + 1)) ∧ RgB w.heap.size w.heap.size (es ++ [bn])) := ⟨by rw [HTK.out]; exact hrg, HR.out.2.push (by have := HB.out.size; simp at hbn; omega)⟩
    have HB2 : Hid (Below w.heap.size w w2) := (HB.out.alloc HB.out.size _).trans hb2
    clear hrg hb2 hbn
    go_wp2_with fail
    go_roundw
    case rel => exact ⟨k + 1, by omega, by go_num, es ++ [bn], HR2, HB2⟩
    case measure => simp [intOf]; omega
   ·obtain e : k = ns.length := by omega
    subst e
    have HR3 : Hid (RgC wr w.heap.size es ns) := by have h := HR.out.1; rwa [List.take_length] at h
    have HVD := Lib.hid (valid_any w.heap.size es ns wr HR3.out (by omega))
    go_wp2_with fail
    refine HVD.out.mono ?_
    rintro e w' ⟨rfl, rfl⟩
    go_wp2_with fail
    go_ret2
    exact ⟨⟨w.heap.size, rfl, fun _ => ⟨_, es, rfl, HR3.out, HR.out.2⟩⟩, HB.out⟩
def iF (l : List Int) (i : Nat) : Int := (l[i]?).getD 0
theorem iF_new {l : List Int} {z : Int} : iF (l ++ [z]) l.length = z := by
 unfold iF
 simp
structure Ses where
  x : Ln
  tm : Int
  ms : List (Int × ByteArray)
  ts : List Int
  pa : Option Addr := none
  pn : Nat := 0
  pc : Nat := 0
structure SsC (z : Nat) (w : World) (s g1 c1 g2 c2 : Nat) (vm vt : Value) (st : Ses) : Prop where
  box : Bx w s 56 #[.slice (some ⟨g1, 0, none⟩) st.x.n c1, .slice (some ⟨g2, 0, none⟩) st.x.m c2, .slice st.pa st.pn st.pc, .int .i64 st.tm, vm, vt]
  bs : Own w g1 c1 st.x.n 3 76 (bkF st.x.N st.x.I st.x.O)
  tr : Own w g2 c2 st.x.m 1 3 (fun i => .int .i64 (st.x.T i))
  mv : Rw z w vm st.ms.length 2 94 (mvF (mvM st.ms) (mvS st.ms))
  tv : Rw z w vt st.ts.length 1 3 (fun i => .int .i64 (iF st.ts i))
  n12 : g1 ≠ g2
  s1 : s ≠ g1
  s2 : s ≠ g2
  dm : ∀ q, vm.ownBlock = some q → q ≠ s ∧ q ≠ g1 ∧ q ≠ g2 ∧ vt.ownBlock ≠ some q
  dt : ∀ q, vt.ownBlock = some q → q ≠ s ∧ q ≠ g1 ∧ q ≠ g2
  z1 : z ≤ g1
  z2 : z ≤ g2
  zs : z ≤ s
def ownS (s g1 g2 : Nat) (vm vt : Value) (q : Nat) : Prop := q = s ∨ q = g1 ∨ q = g2 ∨ vm.ownBlock = some q ∨ vt.ownBlock = some q
theorem SsC.oz {z : Nat} {w : World} {s g1 c1 g2 c2 : Nat} {vm vt : Value} {st : Ses} (h : SsC z w s g1 c1 g2 c2 vm vt st) : ∀ q, ownS s g1 g2 vm vt q → z ≤ q ∧ q < w.heap.size := fun q hq => by
 rcases hq with rfl | rfl | rfl | hq | hq
 ·exact ⟨h.zs, h.box.lt⟩
 ·exact ⟨h.z1, h.bs.lt⟩
 ·exact ⟨h.z2, h.tr.lt⟩
 ·exact h.mv.blk q hq
 ·exact h.tv.blk q hq
theorem SsC.fr {S : Nat → Prop} {z : Nat} {w w' : World} {s g1 c1 g2 c2 : Nat} {vm vt : Value} {st : Ses} (h : SsC z w s g1 c1 g2 c2 vm vt st) (hf : Fr S w w') (hd : ∀ q, ownS s g1 g2 vm vt q → ¬ S q) : SsC z w' s g1 c1 g2 c2 vm vt st :=
 ⟨h.box.fr hf (hd s (.inl rfl)), h.bs.fr hf (hd g1 (.inr (.inl rfl))), h.tr.fr hf (hd g2 (.inr (.inr (.inl rfl)))), h.mv.fr hf (fun q hq => hd q (.inr (.inr (.inr (.inl hq))))), h.tv.fr hf (fun q hq => hd q (.inr (.inr (.inr (.inr hq))))), h.n12, h.s1, h.s2, h.dm, h.dt, h.z1, h.z2, h.zs⟩
def StS (z : Nat) (st : Ses) (own : Nat → Prop) (w : World) (s : Nat) : Prop := ∃ g1 c1 g2 c2 vm vt, SsC z w s g1 c1 g2 c2 vm vt st ∧ ∀ q, own q ↔ ownS s g1 g2 vm vt q
theorem StS.keep {z : Nat} {st : Ses} {own : Nat → Prop} {w w' : World} {s : Nat} (h : StS z st own w s) (hf : Fr (fun q => ¬ own q) w w') : StS z st own w' s := by
 obtain ⟨g1, c1, g2, c2, vm, vt, h1, h2⟩ := h
 exact ⟨g1, c1, g2, c2, vm, vt, h1.fr hf (fun q hq h => h ((h2 q).2 hq)), h2⟩
theorem StS.oz {z : Nat} {st : Ses} {own : Nat → Prop} {w : World} {s : Nat} (h : StS z st own w s) : own s ∧ ∀ q, own q → z ≤ q ∧ q < w.heap.size := by
 obtain ⟨g1, c1, g2, c2, vm, vt, h1, h2⟩ := h
 exact ⟨(h2 s).2 (.inl rfl), fun q hq => h1.oz q ((h2 q).1 hq)⟩
def Md (z : Nat) (st' : Ses) (o : ByteArray) (s : Nat) (own : Nat → Prop) (w : World) (e : Ending) (w' : World) : Prop :=
 e = .returned (.string o) ∧ ∃ own', StS z st' own' w' s ∧ Fr own w w' ∧ ∀ q, own' q → own q ∨ w.heap.size ≤ q
theorem line_none (z s : Nat) (t : ByteArray) (m : Int) (st : Ses) (own : Nat → Prop) (w : World) (ht : t.size ≤ 1000) (hm : w.cell? ⟨0, 0, none⟩ = some (.int .i64 m)) (hc : cmdK (wd0 t) (wdL t).length = 9) (hS : StS z st own w s) :
    Calls Tryz.prog 37 #[.pointer (some ⟨s, 0, none⟩), .string t] w (Md z st whatT s own w) :=
  (answer_none s t m w ht hm hc).mono fun _ _ ⟨h1, h2⟩ => ⟨h1, own, hS.keep (Fr.of_below h2 _), Fr.of_below h2 _, fun _ hq => .inl hq⟩
theorem line_some (z s k : Nat) (t : ByteArray) (m : Int) (st st' : Ses) (o : ByteArray) (own : Nat → Prop) (w : World) (ht : t.size ≤ 1000) (hm : w.cell? ⟨0, 0, none⟩ = some (.int .i64 m)) (hc : cmdK (wd0 t) (wdL t).length = k) (hk : k < 9) (hS : StS z st own w s)
    (HC : ∀ W bw, StS z st own W s → Below w.heap.size w W → (∀ i, i < (wdL t).length → W.cell? ⟨bw, i, none⟩ = some (.string (wdI t i))) → ¬ own bw → Calls Tryz.prog (cmF k) #[.pointer (some ⟨s, 0, none⟩), .slice (some ⟨bw, 0, none⟩) (wdL t).length (wdL t).length] W (Md z st' o s own W)) :
    Calls Tryz.prog 37 #[.pointer (some ⟨s, 0, none⟩), .string t] w (Md z st' o s own w) := by
  have hoz := hS.oz.2
  refine (answer_some s k t m (fun o' w' => o' = o ∧ ∃ own', StS z st' own' w' s ∧ Fr own w w' ∧ ∀ q, own' q → own q ∨ w.heap.size < q) w ht hm hc hk (fun W bw hW hz hl hw => ?_)).mono ?_
  ·have hS2 : StS z st own W s := hS.keep (Fr.of_below hW _)
   refine (HC W bw hS2 hW hw (fun h => by have := (hoz bw h).2; omega)).mono ?_
   rintro e w' ⟨rfl, own', h1, h2, h3⟩
   refine ⟨o, rfl, fun b hb1 hb2 => h2.block b hb2 (fun h => by have := (hoz b h).2; omega), rfl, own', h1, (Fr.of_below hW own).trans h2, fun q hq => ?_⟩
   rcases h3 q hq with h | h
   ·exact .inl h
   ·right; omega
  ·rintro e w' ⟨o', w2, rfl, ⟨rfl, own', h1, h2, h3⟩, hlt, rfl⟩
   have hset := Fr.set w2 ⟨w.heap.size, 0, none⟩ (.string o')
   refine ⟨rfl, own', h1.keep (hset.mono (fun q _ hq ho => ?_)), ⟨h2.os, h2.tape, h2.output, by have := h2.size; simpa using this, fun k hk hs => ?_⟩, fun q hq => ?_⟩
   ·have hqe : q = w.heap.size := hq
    rcases h3 q ho with h | h
    ·have := (hoz q h).2; omega
    ·omega
   ·rw [hset.block k (by have := h2.size; omega) (fun e => by have : k = w.heap.size := e; omega)]
    exact h2.block k hk hs
   ·rcases h3 q hq with h | h
    ·exact .inl h
    ·right; omega
def okT : ByteArray := ⟨#[111, 107]⟩
def noT : ByteArray := ⟨#[110, 111]⟩
def wtS (st : Ses) (l : ByteArray) : Ses := if st.tm + nmF l ≤ 2000 then { st with tm := st.tm + nmF l } else st
def wtO (st : Ses) (l : ByteArray) : ByteArray := if st.tm + nmF l ≤ 2000 then okT else noT
set_option linter.unusedSimpArgs false in
set_option maxRecDepth 100000 in
set_option maxHeartbeats 2000000 in
theorem doWait_any (z s bw n c : Nat) (l : ByteArray) (st : Ses) (own : Nat → Prop) (w : World) (hn : 2 ≤ n) (hS : StS z st own w s) (ht : 0 ≤ st.tm ∧ st.tm ≤ 2000) (hw : w.cell? ⟨bw, 1, none⟩ = some (.string l)) :
    Calls Tryz.prog 97 #[.pointer (some ⟨s, 0, none⟩), .slice (some ⟨bw, 0, none⟩) n c] w (Md z (wtS st l) (wtO st l) s own w) := by
  obtain ⟨g1, c1, g2, c2, vm, vt, h1, h2⟩ := hS
  have HS := Lib.hid h1
  have HO := Lib.hid h2
  have hbl : bw < w.heap.size := World.block_lt_of_cell? w ⟨bw, 1, none⟩ hw
  have HW := Lib.hid hw
  have hnm := nmF_bd l
  have HST : Hid (wtS st l = if st.tm + nmF l ≤ 2000 then { st with tm := st.tm + nmF l } else st) := rfl
  have HOT : Hid (wtO st l = if st.tm + nmF l ≤ 2000 then okT else noT) := rfl
  have HTM : Hid (∀ W, Below w.heap.size w W → W.cell? ⟨s, 3, none⟩ = some (.int .i64 st.tm) ∧ W.cell? ⟨bw, 1, none⟩ = some (.string l)) := fun W h => ⟨(HS.out.box.below h HS.out.box.lt).cell 3, by rw [h.cell (p := ⟨bw, 1, none⟩) hbl]; exact HW.out⟩
  have HNU : Hid (∀ W, Calls Tryz.prog 120 #[.string l] W fun e w' => e = .returned (.int .i64 (nmF l)) ∧ W = w') := fun W => numberOf_any l W
  clear h1 h2 hw
  generalize nmF l = nl at *
  have htm : ∃ tm, tm = st.tm := ⟨_, rfl⟩
  obtain ⟨tm, htm⟩ := htm
  rw [← htm] at HST HOT HTM ht
  have HTE := Lib.hid htm
  clear htm
  have hw1 : IntKind.i64.wrap (tm + nl) = tm + nl := IntWalk.i64_in _ (by omega)
  have hn1 : (1 : Int) < (n : Int) := by omega
  have hn2 : 1 < n := by omega
  have HBd : Hid (Below w.heap.size w w.drew) := (Below.refl _ _).drew
  go_enter Tryz.func97, Tryz.ntmps97
  go_wp2_with fail
  refine wp_region_held_drew (S := fun W => W.cell? ⟨s, 3, none⟩ = some (.int .i64 tm) ∧ W.cell? ⟨bw, 1, none⟩ = some (.string l)) (by kernel_rfl) (HTM.out _ HBd.out) (fun hHeld => ?_)
  refine tkR 0 ?_
  refine tkR 1 ?_
  refine tkR 2 ?_
  refine tkR 3 ?_
  refine tkR 4 ?_
  refine tkR 5 ?_
  refine tkR 6 ?_
  refine r1R 7 (fun K hK => ?_)
  go_simp
  go_at_call 120
  go_must (refine Calls.mono (HNU.out _) ?_)
  rintro e w' ⟨rfl, rfl⟩
  refine oR hK ?_ (fun hHeld => ?_)
  ·try dsimp only
   exact HTM.out _ HBd.out
  clear hK K
  refine tkR 8 ?_
  refine tkR 9 ?_
  refine wpAnyH_done (by kernel_rfl) ?_ _
  clear hHeld
  have HS2 := Lib.hid (HS.out.fr (Fr.of_below HBd.out (fun _ => False)) (fun _ _ h => h))
  by_cases hle : tm + nl ≤ 2000
  ·have hgt : ¬ (2000 : Int) < tm + nl := by omega
   have hbx := HS2.out.box.cell
   have hbf := HS2.out.box.free
   have hlt := HS2.out.box.lt
   go_wp2_with fail
   go_ret
   refine ⟨by rw [HOT.out, if_pos (by omega)]; rfl, own, ⟨g1, c1, g2, c2, vm, vt, ?_, HO.out⟩, ?_, fun _ hq => .inl hq⟩
   ·rw [HST.out, if_pos (by omega)]
    have hst := HS2.out
    have hfr := (Fr.set w.drew ⟨s, 3, none⟩ (.int .i64 (tm + nl)))
    refine ⟨?_, hst.bs.fr hfr (fun e => hst.s1 e.symm), hst.tr.fr hfr (fun e => hst.s2 e.symm), hst.mv.fr hfr (fun q hq e => (hst.dm q hq).1 e), hst.tv.fr hfr (fun q hq e => (hst.dt q hq).1 e), hst.n12, hst.s1, hst.s2, hst.dm, hst.dt, hst.z1, hst.z2, hst.zs⟩
    have hb : Bx (w.setCell ⟨s, 3, none⟩ (.int .i64 (tm + nl))).drew s 56 _ := hst.box.set 3 (.int .i64 (tm + nl))
    simpa using hb
   ·exact (Fr.of_below HBd.out own).trans ((Fr.set w.drew ⟨s, 3, none⟩ _).mono (fun q _ e => by rw [e]; exact (HO.out s).2 (.inl rfl)))
  ·have hgt : (2000 : Int) < tm + nl := by omega
   go_wp2_with fail
   go_ret
   exact ⟨by rw [HOT.out, if_neg (by omega)]; rfl, own, by rw [HST.out, if_neg (by omega)]; exact ⟨g1, c1, g2, c2, vm, vt, HS2.out, HO.out⟩, Fr.of_below HBd.out own, fun _ hq => .inl hq⟩
def lwS (st : Ses) (l1 l2 : ByteArray) : Ses := match nwO (nmF l1) (nmF l2) with | some y => { x := y, tm := 0, ms := [], ts := [] } | none => st
def lwO (l1 l2 : ByteArray) : ByteArray := match nwO (nmF l1) (nmF l2) with | some _ => okT | none => noT
theorem ses_line {z s g1 c1 g2 c2 : Nat} {st : Ses} {y : Ln} {own : Nat → Prop} {w w5 : World} (hb : Below w.heap.size w w5) (hS : StS z st own w5 s) (hl : LnO w.heap.size w5 (.agg #[.slice (some ⟨g1, 0, none⟩) y.n c1, .slice (some ⟨g2, 0, none⟩) y.m c2]) y) (hsl : s < w.heap.size) (hz : z ≤ w.heap.size) (hso : own s) :
    ∃ own', StS z { x := y, tm := 0, ms := [], ts := [] } own' ((((((w5.setCell ⟨s, 0, none⟩ (.slice (some ⟨g1, 0, none⟩) y.n c1)).setCell ⟨s, 1, none⟩ (.slice (some ⟨g2, 0, none⟩) y.m c2)).setCell ⟨s, 2, none⟩ (.slice none 0 0)).setCell ⟨s, 3, none⟩ (.int .i64 0)).setCell ⟨s, 4, none⟩ (.slice none 0 0)).setCell ⟨s, 5, none⟩ (.slice none 0 0)) s ∧ Fr own w ((((((w5.setCell ⟨s, 0, none⟩ (.slice (some ⟨g1, 0, none⟩) y.n c1)).setCell ⟨s, 1, none⟩ (.slice (some ⟨g2, 0, none⟩) y.m c2)).setCell ⟨s, 2, none⟩ (.slice none 0 0)).setCell ⟨s, 3, none⟩ (.int .i64 0)).setCell ⟨s, 4, none⟩ (.slice none 0 0)).setCell ⟨s, 5, none⟩ (.slice none 0 0)) ∧ ∀ q, own' q → own q ∨ w.heap.size ≤ q := by
  obtain ⟨p1, d1, p2, d2, vm, vt, h1, _⟩ := hS
  obtain ⟨_, _, _, _, e, o1, o2, h12, hg1, hg2⟩ := hl
  cases e
  have f : ∀ (W : World) (i : Nat) (v : Value), Fr (fun q => q = s) W (W.setCell ⟨s, i, none⟩ v) := fun W i v => Fr.set W ⟨s, i, none⟩ v
  have F := ((((((f w5 0 (.slice (some ⟨g1, 0, none⟩) y.n c1)).trans (f _ 1 (.slice (some ⟨g2, 0, none⟩) y.m c2))).trans (f _ 2 (.slice none 0 0))).trans (f _ 3 (.int .i64 0))).trans (f _ 4 (.slice none 0 0))).trans (f _ 5 (.slice none 0 0)))
  have hbx := (((((h1.box.set 0 (.slice (some ⟨g1, 0, none⟩) y.n c1)).set 1 (.slice (some ⟨g2, 0, none⟩) y.m c2)).set 2 (.slice none 0 0)).set 3 (.int .i64 0)).set 4 (.slice none 0 0)).set 5 (.slice none 0 0)
  refine ⟨ownS s g1 g2 (.slice none 0 0) (.slice none 0 0), ⟨g1, c1, g2, c2, _, _, ⟨?_, o1.fr F (by omega), o2.fr F (by omega), .inr ⟨rfl, rfl⟩, .inr ⟨rfl, rfl⟩, h12, by omega, by omega, fun q hq => (by cases hq), fun q hq => (by cases hq), by omega, by omega, h1.zs⟩, fun _ => Iff.rfl⟩, (Fr.of_below hb own).trans (F.mono (fun q _ e => by rw [e]; exact hso)), fun q hq => ?_⟩
  ·simpa using hbx
  ·rcases hq with rfl | rfl | rfl | hq | hq
   ·exact .inl hso
   ·exact .inr hg1
   ·exact .inr hg2
   ·cases hq
   ·cases hq
set_option linter.unusedSimpArgs false in
set_option maxRecDepth 100000 in
set_option maxHeartbeats 2000000 in
theorem doLine_any (z s bw n c : Nat) (l1 l2 : ByteArray) (st : Ses) (own : Nat → Prop) (w : World) (hn : 3 ≤ n) (hz : z ≤ w.heap.size) (hS : StS z st own w s) (hw1 : w.cell? ⟨bw, 1, none⟩ = some (.string l1)) (hw2 : w.cell? ⟨bw, 2, none⟩ = some (.string l2)) :
    Calls Tryz.prog 96 #[.pointer (some ⟨s, 0, none⟩), .slice (some ⟨bw, 0, none⟩) n c] w (Md z (lwS st l1 l2) (lwO l1 l2) s own w) := by
  have hbl : bw < w.heap.size := World.block_lt_of_cell? w ⟨bw, 1, none⟩ hw1
  have HSL : Hid (s < w.heap.size) := (hS.oz.2 s hS.oz.1).2
  have HSO : Hid (own s) := hS.oz.1
  have HW1 := Lib.hid hw1
  have HW2 := Lib.hid hw2
  have HS := Lib.hid hS
  clear hw1 hw2 hS
  have HCC : Hid (∀ W, Below w.heap.size w W → W.cell? ⟨bw, 1, none⟩ = some (.string l1) ∧ W.cell? ⟨bw, 2, none⟩ = some (.string l2)) := fun W h => ⟨by rw [h.cell (p := ⟨bw, 1, none⟩) hbl]; exact HW1.out, by rw [h.cell (p := ⟨bw, 2, none⟩) hbl]; exact HW2.out⟩
  have hn1 : (1 : Int) < (n : Int) := by omega
  have hn2 : 1 < n := by omega
  have hn3 : (2 : Int) < (n : Int) := by omega
  have hn4 : 2 < n := by omega
  have HBd : Hid (Below w.heap.size w w.drew) := (Below.refl _ _).drew
  have hb1 := nmF_bd l1
  have HST : Hid (lwS st l1 l2 = match nwO (nmF l1) (nmF l2) with | some y => { x := y, tm := 0, ms := [], ts := [] } | none => st) := rfl
  have HOT : Hid (lwO l1 l2 = match nwO (nmF l1) (nmF l2) with | some _ => okT | none => noT) := rfl
  cases ho : nwO (nmF l1) (nmF l2) with
  | none =>
   rw [ho] at HST HOT
   have HO := Lib.hid ho
   clear ho
   go_enter Tryz.func96, Tryz.ntmps96
   go_wp2_with fail
   refine wp_region_held_drew (S := fun W => W.cell? ⟨bw, 1, none⟩ = some (.string l1) ∧ W.cell? ⟨bw, 2, none⟩ = some (.string l2)) (by kernel_rfl) (HCC.out _ HBd.out) (fun hHeld => ?_)
   have HBA : Hid (Below w.heap.size w (w.drew.alloc (.cells #[.slice none 0 0, .slice none 0 0] 31))) := HBd.out.alloc HBd.out.size _
   refine tkR 0 ?_
   refine tkR 1 ?_
   refine tkR 2 ?_
   refine tkR 4 ?_
   refine tkR 5 ?_
   refine tkR 6 ?_
   refine wpAnyH_ready (rs := [3, 12]) (by kernel_rfl) (by simp) ?_
   refine c1R (fun K hK => ?_) ?_
   ·go_simp
    go_at_call 120
    go_must (refine Calls.mono (numberOf_any l1 _) ?_)
    rintro e w' ⟨rfl, rfl⟩
    refine oR hK ?_ (fun hHeld => ?_)
    ·try dsimp only
     exact HCC.out _ HBd.out
    clear hK K
    refine wpAnyH_ready (rs := [7, 12]) (by kernel_rfl) (by simp) ?_
    refine c1R (fun K hK => ?_) ?_
    ·go_simp
     go_at_call 120
     go_must (refine Calls.mono (numberOf_any l2 _) ?_)
     rintro e w' ⟨rfl, rfl⟩
     refine oR hK ?_ (fun hHeld => ?_)
     ·try dsimp only
      exact HCC.out _ HBd.out
     clear hK K
     refine wpAnyH_ready (rs := [8, 12]) (by kernel_rfl) (by simp) ?_
     refine c1R (fun K hK => ?_) ?_
     ·go_simp
      go_at_call 16
      go_must (refine Calls.mono (lineNew_any (nmF l1) (nmF l2) _ (by omega)) ?_)
      rintro e w2 ⟨hb2, h2⟩
      rcases h2 with ⟨_, rfl⟩ | ⟨_, _, h, _⟩
      rotate_left
      ·rw [HO.out] at h; cases h
      have HB2 : Hid (Below w.heap.size w w2) := HBd.out.trans (hb2.mono HBd.out.size)
      unfold nilLn
      refine oR hK ?_ (fun hHeld => ?_)
      ·try dsimp only
       exact HCC.out _ HB2.out
      clear hK K
      refine tkR 9 ?_
      refine tkR 10 ?_
      refine tkR 11 ?_
      refine r1R 12 (fun K hK => ?_)
      go_simp
      skip
      refine oR hK ?_ (fun hHeld => ?_)
      ·try dsimp only
       exact HCC.out _ (HB2.out.alloc HB2.out.size _)
      clear hK K
      refine r1R 13 (fun K hK => ?_)
      go_simp
      skip
      refine oR hK ?_ (fun hHeld => ?_)
      ·try dsimp only
       exact HCC.out _ (HB2.out.alloc HB2.out.size _)
      clear hK K
      refine tkR 14 ?_
      refine wpAnyH_done (by kernel_rfl) ?_ _
      have HB3 := Lib.hid (HB2.out.alloc HB2.out.size (.cells #[.slice none 0 0, .slice none 0 0] 31))
      go_wp2_with fail
      go_ret
      exact ⟨by rw [HOT.out]; rfl, own, by rw [HST.out]; exact HS.out.keep (Fr.of_below HB3.out _), Fr.of_below HB3.out own, fun _ hq => .inl hq⟩
     ·refine c1R (fun K hK => ?_) ?_
      ·go_simp
       skip
       refine oR hK ?_ (fun hHeld => ?_)
       ·try dsimp only
        exact HCC.out _ HBA.out
       clear hK K
       have HXA : Hid (Bx (w.drew.alloc (.cells #[.slice none 0 0, .slice none 0 0] 31)) w.heap.size 31 #[.slice none 0 0, .slice none 0 0]) := Bx.newAt rfl
       refine r1R 8 (fun K hK => ?_)
       go_simp
       go_at_call 16
       go_must (refine Calls.mono (lineNew_any (nmF l1) (nmF l2) _ (by omega)) ?_)
       rintro e w2 ⟨hb2, h2⟩
       rcases h2 with ⟨_, rfl⟩ | ⟨_, _, h, _⟩
       rotate_left
       ·rw [HO.out] at h; cases h
       have HB2 : Hid (Below w.heap.size w w2) := HBA.out.trans (hb2.mono HBA.out.size)
       unfold nilLn
       have HX2 := Lib.hid (HXA.out.below hb2 HXA.out.lt)
       have hxc := HX2.out.cell
       have hxf := HX2.out.free
       have hxl := HX2.out.lt
       refine oR hK ?_ (fun hHeld => ?_)
       ·try dsimp only
        exact HCC.out _ HB2.out
       clear hK K
       refine tkR 9 ?_
       refine tkR 10 ?_
       refine tkR 11 ?_
       refine r1R 13 (fun K hK => ?_)
       go_simp
       have HB3 := Lib.hid ((HB2.out.setCell (p := ⟨w.heap.size, 0, none⟩) (Nat.le_refl _) (.slice none 0 0)).setCell (p := ⟨w.heap.size, 1, none⟩) (Nat.le_refl _) (.slice none 0 0))
       refine oR hK ?_ (fun hHeld => ?_)
       ·try dsimp only
        exact HCC.out _ HB3.out
       clear hK K
       refine tkR 14 ?_
       refine wpAnyH_done (by kernel_rfl) ?_ _
       clear hxc hxf hxl
       go_wp2_with fail
       go_ret
       exact ⟨by rw [HOT.out]; rfl, own, by rw [HST.out]; exact HS.out.keep (Fr.of_below HB3.out _), Fr.of_below HB3.out own, fun _ hq => .inl hq⟩
      ·exact AllReadyH.nil
    ·refine c1R (fun K hK => ?_) ?_
     ·go_simp
      skip
      refine oR hK ?_ (fun hHeld => ?_)
      ·try dsimp only
       exact HCC.out _ HBA.out
      clear hK K
      refine r1R 7 (fun K hK => ?_)
      go_simp
      go_at_call 120
      go_must (refine Calls.mono (numberOf_any l2 _) ?_)
      rintro e w' ⟨rfl, rfl⟩
      refine oR hK ?_ (fun hHeld => ?_)
      ·try dsimp only
       exact HCC.out _ HBA.out
      clear hK K
      have HXA : Hid (Bx (w.drew.alloc (.cells #[.slice none 0 0, .slice none 0 0] 31)) w.heap.size 31 #[.slice none 0 0, .slice none 0 0]) := Bx.newAt rfl
      refine r1R 8 (fun K hK => ?_)
      go_simp
      go_at_call 16
      go_must (refine Calls.mono (lineNew_any (nmF l1) (nmF l2) _ (by omega)) ?_)
      rintro e w2 ⟨hb2, h2⟩
      rcases h2 with ⟨_, rfl⟩ | ⟨_, _, h, _⟩
      rotate_left
      ·rw [HO.out] at h; cases h
      have HB2 : Hid (Below w.heap.size w w2) := HBA.out.trans (hb2.mono HBA.out.size)
      unfold nilLn
      have HX2 := Lib.hid (HXA.out.below hb2 HXA.out.lt)
      have hxc := HX2.out.cell
      have hxf := HX2.out.free
      have hxl := HX2.out.lt
      refine oR hK ?_ (fun hHeld => ?_)
      ·try dsimp only
       exact HCC.out _ HB2.out
      clear hK K
      refine tkR 9 ?_
      refine tkR 10 ?_
      refine tkR 11 ?_
      refine r1R 13 (fun K hK => ?_)
      go_simp
      have HB3 := Lib.hid ((HB2.out.setCell (p := ⟨w.heap.size, 0, none⟩) (Nat.le_refl _) (.slice none 0 0)).setCell (p := ⟨w.heap.size, 1, none⟩) (Nat.le_refl _) (.slice none 0 0))
      refine oR hK ?_ (fun hHeld => ?_)
      ·try dsimp only
       exact HCC.out _ HB3.out
      clear hK K
      refine tkR 14 ?_
      refine wpAnyH_done (by kernel_rfl) ?_ _
      clear hxc hxf hxl
      go_wp2_with fail
      go_ret
      exact ⟨by rw [HOT.out]; rfl, own, by rw [HST.out]; exact HS.out.keep (Fr.of_below HB3.out _), Fr.of_below HB3.out own, fun _ hq => .inl hq⟩
     ·exact AllReadyH.nil
   ·refine c1R (fun K hK => ?_) ?_
    ·go_simp
     skip
     refine oR hK ?_ (fun hHeld => ?_)
     ·try dsimp only
      exact HCC.out _ HBA.out
     clear hK K
     refine r1R 3 (fun K hK => ?_)
     go_simp
     go_at_call 120
     go_must (refine Calls.mono (numberOf_any l1 _) ?_)
     rintro e w' ⟨rfl, rfl⟩
     refine oR hK ?_ (fun hHeld => ?_)
     ·try dsimp only
      exact HCC.out _ HBA.out
     clear hK K
     refine r1R 7 (fun K hK => ?_)
     go_simp
     go_at_call 120
     go_must (refine Calls.mono (numberOf_any l2 _) ?_)
     rintro e w' ⟨rfl, rfl⟩
     refine oR hK ?_ (fun hHeld => ?_)
     ·try dsimp only
      exact HCC.out _ HBA.out
     clear hK K
     have HXA : Hid (Bx (w.drew.alloc (.cells #[.slice none 0 0, .slice none 0 0] 31)) w.heap.size 31 #[.slice none 0 0, .slice none 0 0]) := Bx.newAt rfl
     refine r1R 8 (fun K hK => ?_)
     go_simp
     go_at_call 16
     go_must (refine Calls.mono (lineNew_any (nmF l1) (nmF l2) _ (by omega)) ?_)
     rintro e w2 ⟨hb2, h2⟩
     rcases h2 with ⟨_, rfl⟩ | ⟨_, _, h, _⟩
     rotate_left
     ·rw [HO.out] at h; cases h
     have HB2 : Hid (Below w.heap.size w w2) := HBA.out.trans (hb2.mono HBA.out.size)
     unfold nilLn
     have HX2 := Lib.hid (HXA.out.below hb2 HXA.out.lt)
     have hxc := HX2.out.cell
     have hxf := HX2.out.free
     have hxl := HX2.out.lt
     refine oR hK ?_ (fun hHeld => ?_)
     ·try dsimp only
      exact HCC.out _ HB2.out
     clear hK K
     refine tkR 9 ?_
     refine tkR 10 ?_
     refine tkR 11 ?_
     refine r1R 13 (fun K hK => ?_)
     go_simp
     have HB3 := Lib.hid ((HB2.out.setCell (p := ⟨w.heap.size, 0, none⟩) (Nat.le_refl _) (.slice none 0 0)).setCell (p := ⟨w.heap.size, 1, none⟩) (Nat.le_refl _) (.slice none 0 0))
     refine oR hK ?_ (fun hHeld => ?_)
     ·try dsimp only
      exact HCC.out _ HB3.out
     clear hK K
     refine tkR 14 ?_
     refine wpAnyH_done (by kernel_rfl) ?_ _
     clear hxc hxf hxl
     go_wp2_with fail
     go_ret
     exact ⟨by rw [HOT.out]; rfl, own, by rw [HST.out]; exact HS.out.keep (Fr.of_below HB3.out _), Fr.of_below HB3.out own, fun _ hq => .inl hq⟩
    ·exact AllReadyH.nil
  | some y =>
   rw [ho] at HST HOT
   have HO := Lib.hid ho
   clear ho
   go_enter Tryz.func96, Tryz.ntmps96
   go_wp2_with fail
   refine wp_region_held_drew (S := fun W => W.cell? ⟨bw, 1, none⟩ = some (.string l1) ∧ W.cell? ⟨bw, 2, none⟩ = some (.string l2)) (by kernel_rfl) (HCC.out _ HBd.out) (fun hHeld => ?_)
   have HBA : Hid (Below w.heap.size w (w.drew.alloc (.cells #[.slice none 0 0, .slice none 0 0] 31))) := HBd.out.alloc HBd.out.size _
   refine tkR 0 ?_
   refine tkR 1 ?_
   refine tkR 2 ?_
   refine tkR 4 ?_
   refine tkR 5 ?_
   refine tkR 6 ?_
   refine wpAnyH_ready (rs := [3, 12]) (by kernel_rfl) (by simp) ?_
   refine c1R (fun K hK => ?_) ?_
   ·go_simp
    go_at_call 120
    go_must (refine Calls.mono (numberOf_any l1 _) ?_)
    rintro e w' ⟨rfl, rfl⟩
    refine oR hK ?_ (fun hHeld => ?_)
    ·try dsimp only
     exact HCC.out _ HBd.out
    clear hK K
    refine wpAnyH_ready (rs := [7, 12]) (by kernel_rfl) (by simp) ?_
    refine c1R (fun K hK => ?_) ?_
    ·go_simp
     go_at_call 120
     go_must (refine Calls.mono (numberOf_any l2 _) ?_)
     rintro e w' ⟨rfl, rfl⟩
     refine oR hK ?_ (fun hHeld => ?_)
     ·try dsimp only
      exact HCC.out _ HBd.out
     clear hK K
     refine wpAnyH_ready (rs := [8, 12]) (by kernel_rfl) (by simp) ?_
     refine c1R (fun K hK => ?_) ?_
     ·go_simp
      go_at_call 16
      go_must (refine Calls.mono (lineNew_any (nmF l1) (nmF l2) _ (by omega)) ?_)
      rintro e w2 h2
      obtain ⟨v, rfl, hl2, hb2⟩ := h2.some HO.out
      have HL0 := Lib.hid hl2
      have HL2 := Lib.hid (hl2.mono (D := w.heap.size) (by have := HBd.out.size; exact this))
      obtain ⟨g1, c1, g2, c2, rfl, _⟩ := hl2
      have HB2 : Hid (Below w.heap.size w w2) := HBd.out.trans (hb2.mono HBd.out.size)
      refine oR hK ?_ (fun hHeld => ?_)
      ·try dsimp only
       exact HCC.out _ HB2.out
      clear hK K
      refine tkR 9 ?_
      refine tkR 10 ?_
      refine tkR 11 ?_
      refine r1R 12 (fun K hK => ?_)
      go_simp
      skip
      refine oR hK ?_ (fun hHeld => ?_)
      ·try dsimp only
       exact HCC.out _ (HB2.out.alloc HB2.out.size _)
      clear hK K
      refine r1R 13 (fun K hK => ?_)
      go_simp
      skip
      refine oR hK ?_ (fun hHeld => ?_)
      ·try dsimp only
       exact HCC.out _ (HB2.out.alloc HB2.out.size _)
      clear hK K
      refine tkR 14 ?_
      refine wpAnyH_done (by kernel_rfl) ?_ _
      have HB3 := Lib.hid (HB2.out.alloc HB2.out.size (.cells #[.slice (some ⟨g1, 0, none⟩) y.n c1, .slice (some ⟨g2, 0, none⟩) y.m c2] 31))
      have HX3 : Hid (Bx (w2.alloc (.cells #[.slice (some ⟨g1, 0, none⟩) y.n c1, .slice (some ⟨g2, 0, none⟩) y.m c2] 31)) w2.heap.size 31 #[.slice (some ⟨g1, 0, none⟩) y.n c1, .slice (some ⟨g2, 0, none⟩) y.m c2]) := Bx.new _ _ _
      have HL3 := Lib.hid (HL2.out.below (below_all w2 (.cells #[.slice (some ⟨g1, 0, none⟩) y.n c1, .slice (some ⟨g2, 0, none⟩) y.m c2] 31)) (Nat.le_refl _))
      have hxc := HX3.out.cell
      generalize w2.alloc (.cells #[.slice (some ⟨g1, 0, none⟩) y.n c1, .slice (some ⟨g2, 0, none⟩) y.m c2] 31) = w3 at *
      clear hHeld
      obtain ⟨p1, d1, p2, d2, vm, vt, hs3, hown⟩ := HS.out.keep (Fr.of_below HB3.out (fun q => ¬ own q))
      have hsb := hs3.box.lt
      have hsf := hs3.box.free
      have hsc := hs3.box.cell
      clear hs3 hown
      go_wp2_with fail
      go_ret
      exact ⟨by rw [HOT.out]; rfl, by rw [HST.out]; exact ses_line HB3.out (HS.out.keep (Fr.of_below HB3.out _)) HL3.out HSL.out hz HSO.out⟩
     ·refine c1R (fun K hK => ?_) ?_
      ·go_simp
       skip
       refine oR hK ?_ (fun hHeld => ?_)
       ·try dsimp only
        exact HCC.out _ HBA.out
       clear hK K
       have HXA : Hid (Bx (w.drew.alloc (.cells #[.slice none 0 0, .slice none 0 0] 31)) w.heap.size 31 #[.slice none 0 0, .slice none 0 0]) := Bx.newAt rfl
       refine r1R 8 (fun K hK => ?_)
       go_simp
       go_at_call 16
       go_must (refine Calls.mono (lineNew_any (nmF l1) (nmF l2) _ (by omega)) ?_)
       rintro e w2 h2
       obtain ⟨v, rfl, hl2, hb2⟩ := h2.some HO.out
       have HL0 := Lib.hid hl2
       have HL2 := Lib.hid (hl2.mono (D := w.heap.size) (by have := HBA.out.size; exact this))
       obtain ⟨g1, c1, g2, c2, rfl, _⟩ := hl2
       have HB2 : Hid (Below w.heap.size w w2) := HBA.out.trans (hb2.mono HBA.out.size)
       have HX2 := Lib.hid (HXA.out.below hb2 HXA.out.lt)
       have hxc := HX2.out.cell
       have hxf := HX2.out.free
       have hxl := HX2.out.lt
       refine oR hK ?_ (fun hHeld => ?_)
       ·try dsimp only
        exact HCC.out _ HB2.out
       clear hK K
       refine tkR 9 ?_
       refine tkR 10 ?_
       refine tkR 11 ?_
       refine r1R 13 (fun K hK => ?_)
       go_simp
       have HB3 := Lib.hid ((HB2.out.setCell (p := ⟨w.heap.size, 0, none⟩) (Nat.le_refl _) (.slice (some ⟨g1, 0, none⟩) y.n c1)).setCell (p := ⟨w.heap.size, 1, none⟩) (Nat.le_refl _) (.slice (some ⟨g2, 0, none⟩) y.m c2))
       refine oR hK ?_ (fun hHeld => ?_)
       ·try dsimp only
        exact HCC.out _ HB3.out
       clear hK K
       refine tkR 14 ?_
       refine wpAnyH_done (by kernel_rfl) ?_ _
       clear hxc hxf hxl
       have HX3 : Hid (Bx ((w2.setCell ⟨w.heap.size, 0, none⟩ (.slice (some ⟨g1, 0, none⟩) y.n c1)).setCell ⟨w.heap.size, 1, none⟩ (.slice (some ⟨g2, 0, none⟩) y.m c2)) w.heap.size 31 #[.slice (some ⟨g1, 0, none⟩) y.n c1, .slice (some ⟨g2, 0, none⟩) y.m c2]) := by
        have hb := (HX2.out.set 0 (.slice (some ⟨g1, 0, none⟩) y.n c1)).set 1 (.slice (some ⟨g2, 0, none⟩) y.m c2)
        show Bx _ _ _ _
        simpa using hb
       have hLO : LnO w.heap.size ((w2.setCell ⟨w.heap.size, 0, none⟩ (.slice (some ⟨g1, 0, none⟩) y.n c1)).setCell ⟨w.heap.size, 1, none⟩ (.slice (some ⟨g2, 0, none⟩) y.m c2)) (.agg #[.slice (some ⟨g1, 0, none⟩) y.n c1, .slice (some ⟨g2, 0, none⟩) y.m c2]) y := by
        obtain ⟨q1, e1, q2, e2, e, h1, h2, h3, h4, h5⟩ := HL0.out
        cases e
        have h4' : w.heap.size + 1 ≤ g1 := by simpa using h4
        have h5' : w.heap.size + 1 ≤ g2 := by simpa using h5
        exact ⟨_, _, _, _, rfl, (h1.setOther (by dsimp only; omega) _).setOther (by dsimp only; omega) _, (h2.setOther (by dsimp only; omega) _).setOther (by dsimp only; omega) _, h3, by omega, by omega⟩
       have HL3 := Lib.hid hLO
       clear hLO
       have hxc := HX3.out.cell
       generalize (w2.setCell ⟨w.heap.size, 0, none⟩ (.slice (some ⟨g1, 0, none⟩) y.n c1)).setCell ⟨w.heap.size, 1, none⟩ (.slice (some ⟨g2, 0, none⟩) y.m c2) = w3 at *
       clear hHeld
       obtain ⟨p1, d1, p2, d2, vm, vt, hs3, hown⟩ := HS.out.keep (Fr.of_below HB3.out (fun q => ¬ own q))
       have hsb := hs3.box.lt
       have hsf := hs3.box.free
       have hsc := hs3.box.cell
       clear hs3 hown
       go_wp2_with fail
       go_ret
       exact ⟨by rw [HOT.out]; rfl, by rw [HST.out]; exact ses_line HB3.out (HS.out.keep (Fr.of_below HB3.out _)) HL3.out HSL.out hz HSO.out⟩
      ·exact AllReadyH.nil
    ·refine c1R (fun K hK => ?_) ?_
     ·go_simp
      skip
      refine oR hK ?_ (fun hHeld => ?_)
      ·try dsimp only
       exact HCC.out _ HBA.out
      clear hK K
      refine r1R 7 (fun K hK => ?_)
      go_simp
      go_at_call 120
      go_must (refine Calls.mono (numberOf_any l2 _) ?_)
      rintro e w' ⟨rfl, rfl⟩
      refine oR hK ?_ (fun hHeld => ?_)
      ·try dsimp only
       exact HCC.out _ HBA.out
      clear hK K
      have HXA : Hid (Bx (w.drew.alloc (.cells #[.slice none 0 0, .slice none 0 0] 31)) w.heap.size 31 #[.slice none 0 0, .slice none 0 0]) := Bx.newAt rfl
      refine r1R 8 (fun K hK => ?_)
      go_simp
      go_at_call 16
      go_must (refine Calls.mono (lineNew_any (nmF l1) (nmF l2) _ (by omega)) ?_)
      rintro e w2 h2
      obtain ⟨v, rfl, hl2, hb2⟩ := h2.some HO.out
      have HL0 := Lib.hid hl2
      have HL2 := Lib.hid (hl2.mono (D := w.heap.size) (by have := HBA.out.size; exact this))
      obtain ⟨g1, c1, g2, c2, rfl, _⟩ := hl2
      have HB2 : Hid (Below w.heap.size w w2) := HBA.out.trans (hb2.mono HBA.out.size)
      have HX2 := Lib.hid (HXA.out.below hb2 HXA.out.lt)
      have hxc := HX2.out.cell
      have hxf := HX2.out.free
      have hxl := HX2.out.lt
      refine oR hK ?_ (fun hHeld => ?_)
      ·try dsimp only
       exact HCC.out _ HB2.out
      clear hK K
      refine tkR 9 ?_
      refine tkR 10 ?_
      refine tkR 11 ?_
      refine r1R 13 (fun K hK => ?_)
      go_simp
      have HB3 := Lib.hid ((HB2.out.setCell (p := ⟨w.heap.size, 0, none⟩) (Nat.le_refl _) (.slice (some ⟨g1, 0, none⟩) y.n c1)).setCell (p := ⟨w.heap.size, 1, none⟩) (Nat.le_refl _) (.slice (some ⟨g2, 0, none⟩) y.m c2))
      refine oR hK ?_ (fun hHeld => ?_)
      ·try dsimp only
       exact HCC.out _ HB3.out
      clear hK K
      refine tkR 14 ?_
      refine wpAnyH_done (by kernel_rfl) ?_ _
      clear hxc hxf hxl
      have HX3 : Hid (Bx ((w2.setCell ⟨w.heap.size, 0, none⟩ (.slice (some ⟨g1, 0, none⟩) y.n c1)).setCell ⟨w.heap.size, 1, none⟩ (.slice (some ⟨g2, 0, none⟩) y.m c2)) w.heap.size 31 #[.slice (some ⟨g1, 0, none⟩) y.n c1, .slice (some ⟨g2, 0, none⟩) y.m c2]) := by
       have hb := (HX2.out.set 0 (.slice (some ⟨g1, 0, none⟩) y.n c1)).set 1 (.slice (some ⟨g2, 0, none⟩) y.m c2)
       show Bx _ _ _ _
       simpa using hb
      have hLO : LnO w.heap.size ((w2.setCell ⟨w.heap.size, 0, none⟩ (.slice (some ⟨g1, 0, none⟩) y.n c1)).setCell ⟨w.heap.size, 1, none⟩ (.slice (some ⟨g2, 0, none⟩) y.m c2)) (.agg #[.slice (some ⟨g1, 0, none⟩) y.n c1, .slice (some ⟨g2, 0, none⟩) y.m c2]) y := by
       obtain ⟨q1, e1, q2, e2, e, h1, h2, h3, h4, h5⟩ := HL0.out
       cases e
       have h4' : w.heap.size + 1 ≤ g1 := by simpa using h4
       have h5' : w.heap.size + 1 ≤ g2 := by simpa using h5
       exact ⟨_, _, _, _, rfl, (h1.setOther (by dsimp only; omega) _).setOther (by dsimp only; omega) _, (h2.setOther (by dsimp only; omega) _).setOther (by dsimp only; omega) _, h3, by omega, by omega⟩
      have HL3 := Lib.hid hLO
      clear hLO
      have hxc := HX3.out.cell
      generalize (w2.setCell ⟨w.heap.size, 0, none⟩ (.slice (some ⟨g1, 0, none⟩) y.n c1)).setCell ⟨w.heap.size, 1, none⟩ (.slice (some ⟨g2, 0, none⟩) y.m c2) = w3 at *
      clear hHeld
      obtain ⟨p1, d1, p2, d2, vm, vt, hs3, hown⟩ := HS.out.keep (Fr.of_below HB3.out (fun q => ¬ own q))
      have hsb := hs3.box.lt
      have hsf := hs3.box.free
      have hsc := hs3.box.cell
      clear hs3 hown
      go_wp2_with fail
      go_ret
      exact ⟨by rw [HOT.out]; rfl, by rw [HST.out]; exact ses_line HB3.out (HS.out.keep (Fr.of_below HB3.out _)) HL3.out HSL.out hz HSO.out⟩
     ·exact AllReadyH.nil
   ·refine c1R (fun K hK => ?_) ?_
    ·go_simp
     skip
     refine oR hK ?_ (fun hHeld => ?_)
     ·try dsimp only
      exact HCC.out _ HBA.out
     clear hK K
     refine r1R 3 (fun K hK => ?_)
     go_simp
     go_at_call 120
     go_must (refine Calls.mono (numberOf_any l1 _) ?_)
     rintro e w' ⟨rfl, rfl⟩
     refine oR hK ?_ (fun hHeld => ?_)
     ·try dsimp only
      exact HCC.out _ HBA.out
     clear hK K
     refine r1R 7 (fun K hK => ?_)
     go_simp
     go_at_call 120
     go_must (refine Calls.mono (numberOf_any l2 _) ?_)
     rintro e w' ⟨rfl, rfl⟩
     refine oR hK ?_ (fun hHeld => ?_)
     ·try dsimp only
      exact HCC.out _ HBA.out
     clear hK K
     have HXA : Hid (Bx (w.drew.alloc (.cells #[.slice none 0 0, .slice none 0 0] 31)) w.heap.size 31 #[.slice none 0 0, .slice none 0 0]) := Bx.newAt rfl
     refine r1R 8 (fun K hK => ?_)
     go_simp
     go_at_call 16
     go_must (refine Calls.mono (lineNew_any (nmF l1) (nmF l2) _ (by omega)) ?_)
     rintro e w2 h2
     obtain ⟨v, rfl, hl2, hb2⟩ := h2.some HO.out
     have HL0 := Lib.hid hl2
     have HL2 := Lib.hid (hl2.mono (D := w.heap.size) (by have := HBA.out.size; exact this))
     obtain ⟨g1, c1, g2, c2, rfl, _⟩ := hl2
     have HB2 : Hid (Below w.heap.size w w2) := HBA.out.trans (hb2.mono HBA.out.size)
     have HX2 := Lib.hid (HXA.out.below hb2 HXA.out.lt)
     have hxc := HX2.out.cell
     have hxf := HX2.out.free
     have hxl := HX2.out.lt
     refine oR hK ?_ (fun hHeld => ?_)
     ·try dsimp only
      exact HCC.out _ HB2.out
     clear hK K
     refine tkR 9 ?_
     refine tkR 10 ?_
     refine tkR 11 ?_
     refine r1R 13 (fun K hK => ?_)
     go_simp
     have HB3 := Lib.hid ((HB2.out.setCell (p := ⟨w.heap.size, 0, none⟩) (Nat.le_refl _) (.slice (some ⟨g1, 0, none⟩) y.n c1)).setCell (p := ⟨w.heap.size, 1, none⟩) (Nat.le_refl _) (.slice (some ⟨g2, 0, none⟩) y.m c2))
     refine oR hK ?_ (fun hHeld => ?_)
     ·try dsimp only
      exact HCC.out _ HB3.out
     clear hK K
     refine tkR 14 ?_
     refine wpAnyH_done (by kernel_rfl) ?_ _
     clear hxc hxf hxl
     have HX3 : Hid (Bx ((w2.setCell ⟨w.heap.size, 0, none⟩ (.slice (some ⟨g1, 0, none⟩) y.n c1)).setCell ⟨w.heap.size, 1, none⟩ (.slice (some ⟨g2, 0, none⟩) y.m c2)) w.heap.size 31 #[.slice (some ⟨g1, 0, none⟩) y.n c1, .slice (some ⟨g2, 0, none⟩) y.m c2]) := by
      have hb := (HX2.out.set 0 (.slice (some ⟨g1, 0, none⟩) y.n c1)).set 1 (.slice (some ⟨g2, 0, none⟩) y.m c2)
      show Bx _ _ _ _
      simpa using hb
     have hLO : LnO w.heap.size ((w2.setCell ⟨w.heap.size, 0, none⟩ (.slice (some ⟨g1, 0, none⟩) y.n c1)).setCell ⟨w.heap.size, 1, none⟩ (.slice (some ⟨g2, 0, none⟩) y.m c2)) (.agg #[.slice (some ⟨g1, 0, none⟩) y.n c1, .slice (some ⟨g2, 0, none⟩) y.m c2]) y := by
      obtain ⟨q1, e1, q2, e2, e, h1, h2, h3, h4, h5⟩ := HL0.out
      cases e
      have h4' : w.heap.size + 1 ≤ g1 := by simpa using h4
      have h5' : w.heap.size + 1 ≤ g2 := by simpa using h5
      exact ⟨_, _, _, _, rfl, (h1.setOther (by dsimp only; omega) _).setOther (by dsimp only; omega) _, (h2.setOther (by dsimp only; omega) _).setOther (by dsimp only; omega) _, h3, by omega, by omega⟩
     have HL3 := Lib.hid hLO
     clear hLO
     have hxc := HX3.out.cell
     generalize (w2.setCell ⟨w.heap.size, 0, none⟩ (.slice (some ⟨g1, 0, none⟩) y.n c1)).setCell ⟨w.heap.size, 1, none⟩ (.slice (some ⟨g2, 0, none⟩) y.m c2) = w3 at *
     clear hHeld
     obtain ⟨p1, d1, p2, d2, vm, vt, hs3, hown⟩ := HS.out.keep (Fr.of_below HB3.out (fun q => ¬ own q))
     have hsb := hs3.box.lt
     have hsf := hs3.box.free
     have hsc := hs3.box.cell
     clear hs3 hown
     go_wp2_with fail
     go_ret
     exact ⟨by rw [HOT.out]; rfl, by rw [HST.out]; exact ses_line HB3.out (HS.out.keep (Fr.of_below HB3.out _)) HL3.out HSL.out hz HSO.out⟩
    ·exact AllReadyH.nil
end Go.Proofs.YtlkdmpfifpkpaaaGreatDoor

