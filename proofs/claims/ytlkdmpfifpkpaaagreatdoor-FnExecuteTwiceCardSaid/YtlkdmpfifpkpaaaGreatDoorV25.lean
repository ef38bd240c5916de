/-
  Parts of the proof: Yg Yh Yi Ie. No condition.
-/
import Derived.Test.YtlkdmpfifpkpaaaGreatDoorV24
namespace Go.Proofs.YtlkdmpfifpkpaaaGreatDoor
open Go.RowKit
def PsR (z : Nat) (w : World) (pa : Option Addr) (ps : List Pt) (O : Nat → Prop) : Prop :=
 (∀ q, O q → z ≤ q ∧ q < w.heap.size) ∧ ∀ k, k < ps.length → ∃ g bi ci bo co, pa = some ⟨g, 0, none⟩ ∧ PtA w g (k * 2) (pA ps k) bi ci bo co ∧ O g ∧ O bi ∧ O bo
theorem Fr.cellN {S : Nat → Prop} {w w' : World} (h : Fr S w w') {b o : Nat} (hb : b < w.heap.size) (hs : ¬ S b) : w'.cell? ⟨b, o, none⟩ = w.cell? ⟨b, o, none⟩ := by
 have := h.block b hb hs
 simp only [World.cell?, this]
theorem PsR.fr {S O : Nat → Prop} {z : Nat} {w w' : World} {pa : Option Addr} {ps : List Pt} (h : PsR z w pa ps O) (hf : Fr S w w') (hd : ∀ q, O q → ¬ S q) : PsR z w' pa ps O := by
 obtain ⟨h1, h2⟩ := h
 refine ⟨fun q hq => ⟨(h1 q hq).1, Nat.lt_of_lt_of_le (h1 q hq).2 hf.size⟩, fun k hk => ?_⟩
 obtain ⟨g, bi, ci, bo, co, e, hp, o1, o2, o3⟩ := h2 k hk
 refine ⟨g, bi, ci, bo, co, e, ⟨?_, ?_, fun i hi => ?_, fun i hi => ?_⟩, o1, o2, o3⟩
 ·rw [hf.cellN (h1 g o1).2 (hd g o1)]; exact hp.c0
 ·rw [hf.cellN (h1 g o1).2 (hd g o1)]; exact hp.c1
 ·rw [hf.cellN (h1 bi o2).2 (hd bi o2)]; exact hp.I i hi
 ·rw [hf.cellN (h1 bo o3).2 (hd bo o3)]; exact hp.O i hi
theorem PsR.psv {z : Nat} {w : World} {pa : Option Addr} {ps : List Pt} {O : Nat → Prop} (h : PsR z w pa ps O) : PsV w pa ps := fun k hk => by
 obtain ⟨g, bi, ci, bo, co, e, hp, _⟩ := h.2 k hk
 exact ⟨g, bi, ci, bo, co, e, hp⟩
theorem PsR.nil (z : Nat) (w : World) (pa : Option Addr) : PsR z w pa [] (fun _ => False) := ⟨fun q h => h.elim, fun k hk => by simp at hk⟩
def StP (z : Nat) (st : Ses) (ps : List Pt) (own : Nat → Prop) (w : World) (s : Nat) : Prop :=
 ∃ pa pc own1 O, StS z { st with pa := pa, pn := ps.length, pc := pc } own1 w s ∧ PsR z w pa ps O ∧ (∀ q, own q ↔ own1 q ∨ O q) ∧ ∀ q, own1 q → ¬ O q
theorem StP.keep {z : Nat} {st : Ses} {ps : List Pt} {own : Nat → Prop} {w w' : World} {s : Nat} (h : StP z st ps own w s) (hf : Fr (fun q => ¬ own q) w w') : StP z st ps own w' s := by
 obtain ⟨pa, pc, own1, O, h1, h2, h3, h4⟩ := h
 exact ⟨pa, pc, own1, O, h1.keep (hf.mono fun q _ hq h => hq ((h3 q).2 (.inl h))), h2.fr hf (fun q hq hn => hn ((h3 q).2 (.inr hq))), h3, h4⟩
theorem StP.oz {z : Nat} {st : Ses} {ps : List Pt} {own : Nat → Prop} {w : World} {s : Nat} (h : StP z st ps own w s) : own s ∧ ∀ q, own q → z ≤ q ∧ q < w.heap.size := by
 obtain ⟨pa, pc, own1, O, h1, h2, h3, _⟩ := h
 refine ⟨(h3 s).2 (.inl h1.oz.1), fun q hq => ?_⟩
 rcases (h3 q).1 hq with h | h
 ·exact h1.oz.2 q h
 ·exact h2.1 q h
def MdP (z : Nat) (st' : Ses) (ps' : List Pt) (o : ByteArray) (s : Nat) (own : Nat → Prop) (w : World) (e : Ending) (w' : World) : Prop :=
 e = .returned (.string o) ∧ ∃ own', StP z st' ps' own' w' s ∧ Fr own w w' ∧ ∀ q, own' q → own q ∨ w.heap.size ≤ q
theorem MdP.same {z : Nat} {st : Ses} {ps : List Pt} {o : ByteArray} {s : Nat} {own : Nat → Prop} {w w' : World} {e : Ending} (h : StP z st ps own w s) (he : e = .returned (.string o)) (hb : Below w.heap.size w w') : MdP z st ps o s own w e w' :=
 ⟨he, own, h.keep (Fr.of_below hb _), Fr.of_below hb own, fun _ hq => .inl hq⟩
theorem MdP.of_md {z s : Nat} {st st' : Ses} {ps : List Pt} {o : ByteArray} {own own1 O : Nat → Prop} {pa : Option Addr} {pc : Nat} {w w' : World} {e : Ending} (hr : PsR z w pa ps O) (ho : ∀ q, own q ↔ own1 q ∨ O q) (hd : ∀ q, own1 q → ¬ O q)
    (h : Md z { st' with pa := pa, pn := ps.length, pc := pc } o s own1 w e w') : MdP z st' ps o s own w e w' := by
  have _ := st
  obtain ⟨he, own', h1, h2, h3⟩ := h
  refine ⟨he, fun q => own' q ∨ O q, ⟨pa, pc, own', O, h1, hr.fr h2 (fun q hq hn => hd q hn hq), fun _ => Iff.rfl, fun q hq hO => ?_⟩, h2.mono (fun q _ hq => (ho q).2 (.inl hq)), fun q hq => ?_⟩
  ·rcases h3 q hq with h | h
   ·exact hd q h hO
   ·have := (hr.1 q hO).2
    omega
  ·rcases hq with h | h
   ·rcases h3 q h with h | h
    ·exact .inl ((ho q).2 (.inl h))
    ·exact .inr h
   ·exact .inl ((ho q).2 (.inr h))
theorem lineP_some (z s k : Nat) (t : ByteArray) (m : Int) (st st' : Ses) (ps ps' : List Pt) (o : ByteArray) (own : Nat → Prop) (w : World) (ht : t.size ≤ 1000) (hm : w.cell? ⟨0, 0, none⟩ = some (.int .i64 m)) (hc : cmdK (wd0 t) (wdL t).length = k) (hk : k < 9) (hS : StP z st ps own w s)
    (HC : ∀ W bw, StP z st ps own W s → Below w.heap.size w W → (∀ i, i < (wdL t).length → W.cell? ⟨bw, i, none⟩ = some (.string (wdI t i))) → ¬ own bw → Calls Tryz.prog (cmF k) #[.pointer (some ⟨s, 0, none⟩), .slice (some ⟨bw, 0, none⟩) (wdL t).length (wdL t).length] W (MdP z st' ps' o s own W)) :
    Calls Tryz.prog 37 #[.pointer (some ⟨s, 0, none⟩), .string t] w (MdP z st' ps' o s own w) := by
  have hoz := hS.oz.2
  refine (answer_some s k t m (fun o' w' => o' = o ∧ ∃ own', StP z st' ps' own' w' s ∧ Fr own w w' ∧ ∀ q, own' q → own q ∨ w.heap.size < q) w ht hm hc hk (fun W bw hW hz hl hw => ?_)).mono ?_
  ·have hS2 : StP z st ps own W s := hS.keep (Fr.of_below hW _)
   refine (HC W bw hS2 hW hw (fun h => by have := (hoz bw h).2; omega)).mono ?_
   rintro e w' ⟨rfl, own', h1, h2, h3⟩
   refine ⟨o, rfl, fun b hb1 hb2 => h2.block b hb2 (fun h => by have := (hoz b h).2; omega), rfl, own', h1, (Fr.of_below hW own).trans h2, fun q hq => ?_⟩
   rcases h3 q hq with h | h
   ·exact .inl h
   ·right; omega
  ·rintro e w' ⟨o', w2, rfl, ⟨rfl, own', h1, h2, h3⟩, hlt, rfl⟩
   have hset := Fr.set w2 ⟨w.heap.size, 0, none⟩ (.string o')
   refine ⟨rfl, own', h1.keep (hset.mono (fun q _ hq ho => ?_)), ⟨h2.os, h2.tape, h2.output, by have := h2.size; simpa using this, fun k hk hs => ?_⟩, fun q hq => ?_⟩
   ·have hqe : q = w.heap.size := hq
    rcases h3 q ho with h | h
    ·have := (hoz q h).2; omega
    ·omega
   ·rw [hset.block k (by have := h2.size; omega) (fun e => by have : k = w.heap.size := e; omega)]
    exact h2.block k hk hs
   ·rcases h3 q hq with h | h
    ·exact .inl h
    ·right; omega
def AnsP (st : Ses) (ps : List Pt) (t : ByteArray) (st' : Ses) (ps' : List Pt) (o : ByteArray) : Prop :=
 ∀ (z s : Nat) (m : Int) (own : Nat → Prop) (w : World), z ≤ w.heap.size → 2 ≤ z → WF m w → StP z st ps own w s → Calls Tryz.prog 37 #[.pointer (some ⟨s, 0, none⟩), .string t] w (MdP z st' ps' o s own w)
theorem AnsP.of_ans {st st' : Ses} {ps : List Pt} {t o : ByteArray} (h : ∀ pa pc, Ans { st with pa := pa, pn := ps.length, pc := pc } t { st' with pa := pa, pn := ps.length, pc := pc } o) : AnsP st ps t st' ps o := by
 intro z s m own w hz hz2 hW hS
 obtain ⟨pa, pc, own1, O, h1, h2, h3, h4⟩ := hS
 exact (h pa pc z s m own1 w hz hz2 hW h1).mono fun e w' hm => MdP.of_md (st := st) h2 h3 h4 hm
theorem AnsP.of_new {st st' : Ses} {ps : List Pt} {t o : ByteArray} (h : ∀ pa pc, Ans { st with pa := pa, pn := ps.length, pc := pc } t { st' with pa := none, pn := 0, pc := 0 } o) : AnsP st ps t st' [] o := by
 intro z s m own w hz hz2 hW hS
 obtain ⟨pa, pc, own1, O, h1, h2, h3, h4⟩ := hS
 refine (h pa pc z s m own1 w hz hz2 hW h1).mono fun e w' hm => ?_
 obtain ⟨he, own', k1, k2, k3⟩ := hm
 refine ⟨he, own', ⟨none, 0, own', fun _ => False, k1, PsR.nil _ _ _, fun q => by simp, fun q _ h => h⟩, k2.mono (fun q _ hq => (h3 q).2 (.inl hq)), fun q hq => ?_⟩
 rcases k3 q hq with h | h
 ·exact .inl ((h3 q).2 (.inl h))
 ·exact .inr h
theorem executeP_of (t : ByteArray) (m : Int) (w : World) (hsz : t.size ≤ 500) (hW : WF m w) (sts : Nat → Ses) (pss : Nat → List Pt) (out : Nat → ByteArray) (h0 : sts 0 = ses0) (h0' : pss 0 = []) (hout : ∀ k, (out k).size ≤ 1000000)
    (hst : ∀ k, k + 1 < (lnT t).length → AnsP (sts k) (pss k) (lnI t k) (sts (k + 1)) (pss (k + 1)) (out k)) (hm : (sts ((lnT t).length - 1)).x.m < 100) (hp : (pss ((lnT t).length - 1)).length < 100) :
    Calls Tryz.prog 11 #[.string t] w fun e w' => e = .returned (.string ⟨(exO out ((lnT t).length - 1) ++ (exT (sts ((lnT t).length - 1)).x.m (pss ((lnT t).length - 1)).length).data.toList).toArray⟩) ∧ Below w.heap.size w w' := by
  refine execute_gen t m w hsz hW.mx (fun k own W s => StP w.heap.size (sts k) (pss k) own W s) out (sts ((lnT t).length - 1)).x.m (pss ((lnT t).length - 1)).length hout hm hp ?_ ?_ ?_ ?_
  ·intro W s g1 c1 g2 c2 hb h1 h2 h12 hs1 hs2 hbx ho1 ho2
   rw [h0, h0']
   refine ⟨none, 0, _, fun _ => False, ⟨g1, c1, g2, c2, .slice none 0 0, .slice none 0 0, ⟨hbx, ho1, ho2, .inr ⟨rfl, rfl⟩, .inr ⟨rfl, rfl⟩, h12, by omega, by omega, fun q hq => (by cases hq), fun q hq => (by cases hq), h1, h2, by omega⟩, fun q => Iff.rfl⟩, PsR.nil _ _ _, fun q => ?_, fun q _ h => h⟩
   unfold ownS
   constructor
   ·rintro (h | h | h)
    ·exact .inl (.inl h)
    ·exact .inl (.inr (.inl h))
    ·exact .inl (.inr (.inr (.inl h)))
   ·rintro (h | h)
    ·rcases h with h | h | h | h | h
     ·exact .inl h
     ·exact .inr (.inl h)
     ·exact .inr (.inr h)
     ·cases h
     ·cases h
    ·exact h.elim
  ·intro k own W W' s h hf
   exact h.keep hf
  ·intro k own W s hk hS hb _
   refine (hst k hk w.heap.size s m own W hb.size hW.size (hW.below hb) hS).mono ?_
   rintro e w' ⟨rfl, own', h1, h2, h3⟩
   exact ⟨rfl, own', h1, h2, h1.oz.1, fun q hq => ⟨h3 q hq, (h1.oz.2 q hq).2⟩⟩
  ·intro own W s ⟨pa, pc, own1, O, ⟨g1, c1, g2, c2, vm, vt, h, _⟩, _⟩
   exact ⟨⟨_, _, h.box.cell 1⟩, ⟨_, _, h.box.cell 2⟩⟩
def byF (ps : List Pt) (k : Nat) : Nat → Int
  | 0 => 0
  | j + 1 => byF ps k j + ((pA ps j).O k - (pA ps j).I k)
def byV (ps : List Pt) (n : Nat) (k : Int) : Int := if 0 ≤ k ∧ k < n then byF ps k.toNat ps.length else -1
theorem ptOk_at {p : Pt} {n k : Nat} (h : ptOk p n = true) (hk : k < n) : 0 ≤ p.I k ∧ p.I k < p.O k ∧ p.O k ≤ 2000 := by
 obtain ⟨_, e1, _, h3⟩ := ptOk_parts h
 have h4 := vk_bd k (fun j hj => h3 j (by omega))
 have h5 := vkB_true.1 (h3 k (by omega))
 omega
theorem byF_bd {ps : List Pt} {n k : Nat} (h : PsOk n ps) (hk : k < n) : ∀ j, j ≤ ps.length → 0 ≤ byF ps k j ∧ byF ps k j ≤ 2000 * j
  | 0, _ => ⟨Int.le_refl _, Int.le_refl _⟩
  | j + 1, hj => by
   have ih := byF_bd h hk j (by omega)
   have h1 := ptOk_at (h.ok j (by omega)) hk
   simp only [byF]
   omega
set_option linter.unusedSimpArgs false in
set_option maxRecDepth 100000 in
set_option maxHeartbeats 4000000 in
theorem pathsBusy_any (ao : Option Addr) (c n : Nat) (k : Int) (ps : List Pt) (w : World) (hk : PsOk n ps) (hv : PsV w ao ps) :
    Calls Tryz.prog 130 #[.int .i64 n, .slice ao ps.length c, .int .i64 k] w fun e w' => e = .returned (.int .i64 (byV ps n k)) ∧ Below w.heap.size w w' := by
  have HHS := Lib.hid (hasSection_ok ao c n k ps w hk hv)
  have HK := Lib.hid hk
  have HV := Lib.hid hv
  have hlen := hk.len
  clear hk hv
  by_cases hin : 0 ≤ k ∧ k < n
  ·obtain ⟨k, rfl⟩ := Int.eq_ofNat_of_zero_le hin.1
   have hkn : k < n := by omega
   have HN : Hid (byV ps n (k : Int) = byF ps k ps.length) := by show _ = _; unfold byV; rw [if_pos hin]; rfl
   rw [decide_eq_true hin.1, decide_eq_true hin.2, Bool.true_and] at HHS
   have HBF : Hid (∀ j, j ≤ ps.length → 0 ≤ byF ps k j ∧ byF ps k j ≤ 2000 * j) := byF_bd HK.out hkn
   clear hin
   go_enter Tryz.func130, Tryz.ntmps130
   go_wp2_with fail
   refine HHS.out.mono ?_
   rintro e w2 ⟨rfl, hb2⟩
   have HB2 := Lib.hid hb2
   clear hb2
   go_wp2_with fail
   go_loopw [7, 8, 16] (fun s _ i wr => ∃ j : Nat, j ≤ ps.length ∧ i = .int .i64 j ∧ s = .int .i64 (byF ps k j) ∧ Dr w2 wr) (fun _ _ i _ => ps.length - (intOf i).toNat)
   case atStart => exact ⟨0, Nat.zero_le _, rfl, rfl, Dr.refl _⟩
   case round =>
    obtain ⟨j, hj, rfl, rfl, d, rfl⟩ := hrel
    have hbj := HBF.out j hj
    by_cases hlt : j < ps.length
    ·have hji : (j : Int) < (ps.length : Int) := by omega
     obtain ⟨b, bi, ci, bo, co, rfl, hp0⟩ := HV.out j hlt
     have hp := hp0.keep HB2.out
     obtain ⟨_, e1, e2, _⟩ := ptOk_parts (HK.out.ok j hlt)
     have hat := ptOk_at (HK.out.ok j hlt) hkn
     have c0 := hp.c0
     have c1 := hp.c1
     have cI := hp.I.at k (by omega)
     have cO := hp.O.at k (by omega)
     rw [Nat.zero_add] at cI cO
     have i1 : (k : Int) < ((pA ps j).ni : Int) := by omega
     have i2 : (k : Int) < ((pA ps j).no : Int) := by omega
     have HS : Hid (byF ps k (j + 1) = byF ps k j + ((pA ps j).O k - (pA ps j).I k)) := rfl
     clear hp hp0 e1 e2
     generalize (pA ps j).I k = x1 at *
     generalize (pA ps j).O k = x2 at *
     have hw1 : IntKind.i64.wrap (x2 - x1) = x2 - x1 := IntWalk.i64_in _ (by omega)
     have hw2 : IntKind.i64.wrap (byF ps k j + (x2 - x1)) = byF ps k j + (x2 - x1) := IntWalk.i64_in _ (by omega)
     go_wp2_with fail
     go_quiet (fail)
     go_wp2_with fail
     go_roundw
     case rel => exact ⟨j + 1, by omega, by go_num, by rw [HS.out], (by repeat (first | exact Dr.refl _ | exact ⟨_, rfl⟩ | refine Dr.drewN ?_ _))⟩
     case measure => simp [intOf]; omega
    ·obtain rfl : j = ps.length := by omega
     go_wp2_with fail
     go_ret
     exact ⟨by rw [HN.out]; rfl, below_drewN HB2.out d⟩
  ·have HN : Hid (byV ps n k = -1) := by show _ = _; unfold byV; rw [if_neg hin]
   have hd : (decide (0 ≤ k) && decide (k < (n : Int))) = false := by
    cases h : (decide (0 ≤ k) && decide (k < (n : Int)))
    ·rfl
    ·rw [Bool.and_eq_true] at h
     exact absurd ⟨of_decide_eq_true h.1, of_decide_eq_true h.2⟩ hin
   rw [hd] at HHS
   clear hin hd
   go_enter Tryz.func130, Tryz.ntmps130
   go_wp2_with fail
   refine HHS.out.mono ?_
   rintro e w2 ⟨rfl, hb2⟩
   have HB2 := Lib.hid hb2
   clear hb2
   go_wp2_with fail
   go_ret
   exact ⟨by rw [HN.out]; rfl, HB2.out⟩
def byO (st : Ses) (ps : List Pt) (l : ByteArray) : ByteArray := if byV ps st.x.n (nmF l) < 0 then noT else itT (byV ps st.x.n (nmF l))
theorem byV_bd {ps : List Pt} {n : Nat} {k : Int} (h : PsOk n ps) : -1 ≤ byV ps n k ∧ byV ps n k ≤ 16000 := by
 unfold byV
 split
 ·rename_i hk
  have h1 := byF_bd h (k := k.toNat) (by omega) ps.length (Nat.le_refl _)
  have := h.len
  omega
 ·omega
set_option linter.unusedSimpArgs false in
set_option maxRecDepth 100000 in
set_option maxHeartbeats 4000000 in
theorem doBusy_any (z s bw n c : Nat) (l : ByteArray) (m : Int) (st : Ses) (ps : List Pt) (own : Nat → Prop) (w : World) (hn : 2 ≤ n) (hW : WF m w) (hS : StP z st ps own w s) (hk : PsOk st.x.n ps) (hw1 : w.cell? ⟨bw, 1, none⟩ = some (.string l)) :
    Calls Tryz.prog 104 #[.pointer (some ⟨s, 0, none⟩), .slice (some ⟨bw, 0, none⟩) n c] w (MdP z st ps (byO st ps l) s own w) := by
  have HS := Lib.hid hS
  have HWF := Lib.hid hW
  have hnm := nmF_bd l
  have hn1 : (1 : Int) < (n : Int) := by omega
  have hbl : bw < w.heap.size := World.block_lt_of_cell? w ⟨bw, 1, none⟩ hw1
  obtain ⟨pa, pc, own1, O, ⟨g1, c1, g2, c2, vm, vt, h1, _⟩, hr, _, _⟩ := hS
  have HBX := Lib.hid h1.box
  have HCC : Hid (∀ W, Below w.heap.size w W → (W.cell? ⟨s, 0, none⟩ = some (.slice (some ⟨g1, 0, none⟩) st.x.n c1) ∧ W.cell? ⟨s, 2, none⟩ = some (.slice pa ps.length pc)) ∧ W.cell? ⟨bw, 1, none⟩ = some (.string l)) := fun W h => ⟨⟨(HBX.out.below h HBX.out.lt).cell 0, (HBX.out.below h HBX.out.lt).cell 2⟩, by rw [h.cell (p := ⟨bw, 1, none⟩) hbl]; exact hw1⟩
  have HPB : Hid (∀ W, Below w.heap.size w W → Calls Tryz.prog 130 #[.int .i64 st.x.n, .slice pa ps.length pc, .int .i64 (nmF l)] W fun e w' => e = .returned (.int .i64 (byV ps st.x.n (nmF l))) ∧ Below W.heap.size W w') := fun W h => pathsBusy_any pa pc st.x.n (nmF l) ps W hk (hr.psv.keep h)
  have hbd := byV_bd hk (k := nmF l)
  have HBO : Hid (byO st ps l = if byV ps st.x.n (nmF l) < 0 then noT else itT (byV ps st.x.n (nmF l))) := rfl
  have HNU : Hid (∀ W, Calls Tryz.prog 120 #[.string l] W fun e w' => e = .returned (.int .i64 (nmF l)) ∧ W = w') := fun W => numberOf_any l W
  have HBd : Hid (Below w.heap.size w w.drew) := (Below.refl _ _).drew
  clear h1 hr hk hw1 hW
  generalize byV ps st.x.n (nmF l) = bv at *
  generalize nmF l = nl at *
  go_enter Tryz.func104, Tryz.ntmps104
  go_wp2_with fail
  refine wp_region_held_drew (S := fun W => (W.cell? ⟨s, 0, none⟩ = some (.slice (some ⟨g1, 0, none⟩) st.x.n c1) ∧ W.cell? ⟨s, 2, none⟩ = some (.slice pa ps.length pc)) ∧ W.cell? ⟨bw, 1, none⟩ = some (.string l)) (by kernel_rfl) (HCC.out _ HBd.out) (fun hHeld => ?_)
  refine tkR 0 ?_
  refine tkR 1 ?_
  refine tkR 2 ?_
  refine tkR 3 ?_
  refine tkR 4 ?_
  refine tkR 5 ?_
  refine tkR 6 ?_
  refine tkR 7 ?_
  refine tkR 8 ?_
  refine tkR 9 ?_
  refine tkR 10 ?_
  refine tkR 11 ?_
  refine tkR 12 ?_
  refine r1R 13 (fun K hK => ?_)
  go_simp
  go_at_call 120
  go_must (refine Calls.mono (HNU.out _) ?_)
  rintro e w' ⟨rfl, rfl⟩
  refine oR hK ?_ (fun hHeld => ?_)
  ·try dsimp only
   exact HCC.out _ HBd.out
  clear hK K
  refine r1R 14 (fun K hK => ?_)
  go_simp
  go_at_call 130
  go_must (refine Calls.mono (HPB.out _ HBd.out) ?_)
  rintro e w2 ⟨rfl, hb2⟩
  have HB2 := Lib.hid (HBd.out.trans (hb2.mono HBd.out.size))
  clear hb2
  refine oR hK ?_ (fun hHeld => ?_)
  ·try dsimp only
   exact HCC.out _ HB2.out
  clear hK K
  refine tkR 15 ?_
  refine wpAnyH_done (by kernel_rfl) ?_ _
  clear hHeld
  by_cases hneg : bv < 0
  ·have HE : Hid (byO st ps l = noT) := by show _ = _; rw [HBO.out, if_pos hneg]
   go_wp2_with fail
   go_ret
   exact MdP.same HS.out (by rw [HE.out]; rfl) HB2.out
  ·have HE : Hid (byO st ps l = itT bv) := by show _ = _; rw [HBO.out, if_neg hneg]
   go_wp2_with fail
   refine (itoa_any bv (by omega) (by omega) _ (HWF.out.below HB2.out)).mono ?_
   rintro e w3 ⟨rfl, hb3⟩
   have HB3 := Lib.hid (HB2.out.trans (hb3.mono HB2.out.size))
   clear hb3
   go_wp2_with fail
   go_ret
   exact MdP.same HS.out (by rw [HE.out]; rfl) HB3.out
set_option maxRecDepth 100000 in
set_option maxHeartbeats 4000000 in
set_option linter.unusedSimpArgs false in
theorem do_mal (s bw ow n c k : Nat) (w0 : ByteArray) (w : World) (hn : 0 < n) (h0 : w.cell? ⟨bw, ow, none⟩ = some (.string w0)) (hk : k < 9) (hix : ixC w0 = k) (hneg : cmN k < 0)
    (HC : ∀ W, Below w.heap.size w W → Calls Tryz.prog (cmF k) #[.pointer (some ⟨s, 0, none⟩), .slice (some ⟨bw, ow, none⟩) n c] W fun e w' => e = .panicked [{ v := .iface 87 (.agg #[]), recovered := false }] ∧ Below W.heap.size W w') :
    Calls Tryz.prog 57 #[.pointer (some ⟨s, 0, none⟩), .slice (some ⟨bw, ow, none⟩) n c] w fun e w' => e = .panicked [{ v := .iface 87 (.agg #[]), recovered := false }] ∧ Below w.heap.size w w' := by
  have hbw : bw < w.heap.size := World.block_lt_of_cell? w ⟨bw, ow, none⟩ h0
  have H0 := Lib.hid h0
  have HCC := Lib.hid HC
  have hmf : ∀ (fn : Fn) (first cap : Array Value) (w : World), (Instr.makeFunc fn first cap).run Tryz.prog w = .ok (.func fn first cap) w := fun _ _ _ _ => rfl
  have HX0 : Hid (Bx (w.alloc (.cells #[.slice (some ⟨bw, ow, none⟩) n c] 60)) w.heap.size 60 #[.slice (some ⟨bw, ow, none⟩) n c]) := Bx.new _ _ _
  have HB0 : Hid (Below w.heap.size w (w.alloc (.cells #[.slice (some ⟨bw, ow, none⟩) n c] 60))) := below_all _ _
  clear h0 HC
  go_enter Tryz.func57, Tryz.ntmps57
  go_wp2_with fail
  generalize w.alloc (.cells #[.slice (some ⟨bw, ow, none⟩) n c] 60) = w1 at *
  refine (commands_any w1).mono ?_
  rintro e w2 ⟨rfl, rfl⟩
  have HT : Hid (Bx (w1.alloc (.cells cmC 119)) w1.heap.size 119 cmC) := Bx.new _ _ _
  have HX1 : Hid (Bx (w1.alloc (.cells cmC 119)) w.heap.size 60 #[.slice (some ⟨bw, ow, none⟩) n c]) := HX0.out.alloc _
  have HB1 : Hid (Below w.heap.size w (w1.alloc (.cells cmC 119))) := HB0.out.alloc HB0.out.size _
  have hz1 := HB0.out.size
  go_wp2_with fail
  refine (indexFunc_any w1.heap.size w.heap.size bw ow n c w0 (w1.alloc (.cells cmC 119)) hn HT.out HX1.out (by rw [HB1.out.cell (p := ⟨bw, ow, none⟩) hbw]; exact H0.out)).mono ?_
  rintro e w3 ⟨rfl, hb3⟩
  have HT3 := Lib.hid (HT.out.below hb3 HT.out.lt)
  have HX3 := Lib.hid (HX1.out.below hb3 HX1.out.lt)
  have HB3 := Lib.hid (HB1.out.trans (hb3.mono HB1.out.size))
  have hz3 := HB3.out.size
  have HIR : Hid (ixR w0 = k) := by show _ = _; unfold ixR; rw [hix, if_pos hk]
  rw [HIR.out]
  clear hb3 HT HX1 HB1 HX0 HB0
  obtain ⟨_, c1, c2⟩ := cmC_at hk
  have HCL : Hid (∀ W, Bx W w1.heap.size 119 cmC → Bx W w.heap.size 60 #[.slice (some ⟨bw, ow, none⟩) n c] → (W.cell? ⟨w1.heap.size, k * 3 + 1, none⟩ = some (.int .i64 (cmN k)) ∧ W.cell? ⟨w1.heap.size, k * 3 + 2, none⟩ = some (.func (.func (cmF k)) #[] #[])) ∧ W.cell? ⟨w.heap.size, 0, none⟩ = some (.slice (some ⟨bw, ow, none⟩) n c)) := fun W g1 g2 =>
   ⟨⟨(g1.cell (k * 3 + 1)).trans c1, (g1.cell (k * 3 + 2)).trans c2⟩, g2.cell 0⟩
  clear c1 c2
  have HF := cmF_run hk
  generalize cmN k = nk at *
  generalize cmF k = f at *
  have hk0 : ¬ (k : Int) < 0 := by omega
  have hk9 : (k : Int) < 9 := by omega
  have hkd : decide ((k : Int) < 0) = false := decide_eq_false hk0
  have HBd : Hid (Below w3.heap.size w3 w3.drew) := (Below.refl _ _).drew
  ·have hg1 : decide (0 ≤ nk) = false := decide_eq_false (by omega)
   go_wp2_with fail
   refine wp_region_held_drew (S := fun W => (W.cell? ⟨w1.heap.size, k * 3 + 1, none⟩ = some (.int .i64 nk) ∧ W.cell? ⟨w1.heap.size, k * 3 + 2, none⟩ = some (.func (.func f) #[] #[])) ∧ W.cell? ⟨w.heap.size, 0, none⟩ = some (.slice (some ⟨bw, ow, none⟩) n c)) (by kernel_rfl) (HCL.out _ (HT3.out.below HBd.out HT3.out.lt) (HX3.out.below HBd.out HX3.out.lt)) (fun hHeld => ?_)
   refine tkR 0 ?_
   refine tkR 1 ?_
   refine tkR 2 ?_
   refine tkR 3 ?_
   refine tkR 4 ?_
   refine tkR 5 ?_
   refine tkR 6 ?_
   refine tkR 7 ?_
   refine tkR 8 ?_
   refine tkR 9 ?_
   refine tkR 10 ?_
   refine tkR 11 ?_
   refine tkR 12 ?_
   refine tkR 13 ?_
   refine tkR 14 ?_
   refine tkR 15 ?_
   refine tkR 16 ?_
   refine tkR 17 ?_
   refine tkR 18 ?_
   refine tkR 19 ?_
   refine wpAnyH_done (by kernel_rfl) ?_ _
   clear hHeld
   go_wp2_with fail
   have HB4 : Hid (Below w3.heap.size w3 w3.drew.drew) := (Below.refl _ _).drew.drew
   have HT4 := Lib.hid (HT3.out.below HB4.out HT3.out.lt)
   have HX4 := Lib.hid (HX3.out.below HB4.out HX3.out.lt)
   refine wp_region_held_drew (S := fun W => (W.cell? ⟨w1.heap.size, k * 3 + 1, none⟩ = some (.int .i64 nk) ∧ W.cell? ⟨w1.heap.size, k * 3 + 2, none⟩ = some (.func (.func f) #[] #[])) ∧ W.cell? ⟨w.heap.size, 0, none⟩ = some (.slice (some ⟨bw, ow, none⟩) n c)) (by kernel_rfl) (HCL.out _ HT4.out HX4.out) (fun hHeld => ?_)
   refine tkR 0 ?_
   refine tkR 1 ?_
   refine tkR 2 ?_
   refine tkR 3 ?_
   refine tkR 4 ?_
   refine tkR 5 ?_
   refine tkR 6 ?_
   refine r1R 7 (fun K hK => ?_)
   go_simp
   go_must (refine Calls.mono (HCC.out _ HB3.out.drew.drew) ?_)
   rintro e w5 ⟨rfl, hb5⟩
   dsimp only
   exact ⟨rfl, rfl, HB3.out.drew.drew.trans (hb5.mono HB3.out.drew.drew.size)⟩
set_option maxRecDepth 100000 in
set_option maxHeartbeats 2000000 in
set_option linter.unusedSimpArgs false in
theorem answer_mal (s k : Nat) (t : ByteArray) (m : Int) (w : World) (ht : t.size ≤ 1000) (hm : w.cell? ⟨0, 0, none⟩ = some (.int .i64 m)) (hc : cmdK (wd0 t) (wdL t).length = k) (hk : k < 9) (hneg : cmN k < 0)
    (HC : ∀ W bw, Below w.heap.size w W → Calls Tryz.prog (cmF k) #[.pointer (some ⟨s, 0, none⟩), .slice (some ⟨bw, 0, none⟩) (wdL t).length (wdL t).length] W fun e w' => e = .panicked [{ v := .iface 87 (.agg #[]), recovered := false }] ∧ Below W.heap.size W w') :
    Calls Tryz.prog 37 #[.pointer (some ⟨s, 0, none⟩), .string t] w fun e w' => e = .returned (.string whatT) ∧ Below w.heap.size w w' := by
  have hmf : ∀ (fn : Fn) (first cap : Array Value) (w : World), (Instr.makeFunc fn first cap).run Tryz.prog w = .ok (.func fn first cap) w := fun _ _ _ _ => rfl
  have H00 : 0 < w.heap.size := World.block_lt_of_cell? w ⟨0, 0, none⟩ hm
  have HX0 : Hid (Bx (w.alloc (.cells #[.string ⟨#[]⟩] 9)) w.heap.size 9 #[.string ⟨#[]⟩]) := Bx.new _ _ _
  have HB0 : Hid (Below w.heap.size w (w.alloc (.cells #[.string ⟨#[]⟩] 9))) := below_all _ _
  have HSP : Hid (∀ W, Below w.heap.size w W → Calls Tryz.prog 35 #[.string t, .string ⟨#[32]⟩] W fun e w' => e = .returned (.slice (some ⟨W.heap.size, 0, none⟩) (wdL t).length (wdL t).length) ∧ w' = W.alloc (.cells ((wdL t).map Value.string).toArray 9)) := fun W h => by
   have q := Tryz.strings_Split t ⟨#[32]⟩ m W (by omega) (by rw [h.cell (p := ⟨0, 0, none⟩) H00]; exact hm) (by decide)
   rw [← wdL_len] at q
   exact q
  have HLP : Hid (0 < (wdL t).length) := by show _ < _; rw [wdL_len]; omega
  have HC0 : Hid (∀ W : World, (W.alloc (.cells ((wdL t).map Value.string).toArray 9)).cell? ⟨W.heap.size, 0, none⟩ = some (.string (wd0 t))) := fun W => wd_cell t W HLP.out
  have hle := wdL_le t
  obtain ⟨hk1, _⟩ := cmdK_some hc hk
  have HK1 := Lib.hid hk1
  have HCC := Lib.hid HC
  clear hc hk1 HC
  generalize (wdL t).map Value.string = ws at *
  generalize (wdL t).length = n at *
  generalize wd0 t = w0 at *
  go_enter_defers Tryz.func37, Tryz.ntmps37
  go_wp2_with fail
  refine (HSP.out _ HB0.out).mono ?_
  rintro e w1 ⟨rfl, rfl⟩
  generalize w.alloc (.cells #[.string ⟨#[]⟩] 9) = wa at *
  have HX1 := Lib.hid (HX0.out.alloc (.cells ws.toArray 9))
  have HB1 := Lib.hid (HB0.out.alloc HB0.out.size (.cells ws.toArray 9))
  have hd := do_mal s wa.heap.size 0 n n k w0 _ HLP.out (HC0.out wa) hk HK1.out hneg (fun W hW => HCC.out W wa.heap.size (HB1.out.trans (hW.mono HB1.out.size)))
  have HD := Lib.hid hd
  clear hd
  generalize wa.alloc (.cells ws.toArray 9) = wb at *
  go_wp2_with fail
  refine HD.out.mono ?_
  rintro e w2 ⟨rfl, hb2⟩
  have HX2 := Lib.hid (HX1.out.below hb2 HX1.out.lt)
  have HB2 := Lib.hid (HB1.out.trans (hb2.mono HB1.out.size))
  clear hb2 HD
  refine leaves_cons (f := 56) (args := #[.pointer (some ⟨w.heap.size, 0, none⟩)]) (by simp) (by simp [go_sem]) ?_
  refine (catch_panic w.heap.size ⟨#[]⟩ [] _ HX2.out).mono ?_
  rintro e u' w'' ⟨rfl, rfl, rfl⟩
  have HB3 := Lib.hid ((HB2.out.setCell (p := ⟨w.heap.size, 0, none⟩) (Nat.le_refl _) (.string whatT)).alloc (by simpa using HB2.out.size) (.cells #[] 87))
  have HX3 := Lib.hid ((HX2.out.set 0 (.string whatT)).alloc (.cells #[] 87))
  generalize (w2.setCell ⟨w.heap.size, 0, none⟩ (.string whatT)).alloc (.cells #[] 87) = w3 at *
  have hxc : w3.cell? ⟨w.heap.size, 0, none⟩ = some (.string whatT) := HX3.out.cell 0
  simp [Leaves, settle, results, Tryz.results37, go_sem, hxc]
  exact HB3.out
set_option linter.unusedSimpArgs false in
set_option maxRecDepth 100000 in
set_option maxHeartbeats 4000000 in
theorem doFit_bad (z s bw n c : Nat) (st : Ses) (ps : List Pt) (own : Nat → Prop) (w : World) (hS : StP z st ps own w s) (hn : n ≠ st.x.n + 2) (hxn : st.x.n ≤ 1000000) :
    Calls Tryz.prog 103 #[.pointer (some ⟨s, 0, none⟩), .slice (some ⟨bw, 0, none⟩) n c] w fun e w' => e = .panicked [{ v := .iface 87 (.agg #[]), recovered := false }] ∧ Below w.heap.size w w' := by
  obtain ⟨pa, pc, own1, O, ⟨g1, c1, g2, c2, vm, vt, h1, _⟩, _⟩ := hS
  have hsc := h1.box.cell
  have HB0 : Hid (Below w.heap.size w w) := Below.refl _ _
  have hne : ((n : Int) != (st.x.n : Int) + 2) = true := by simp; omega
  have hwn : IntKind.i64.wrap ((st.x.n : Int) + 2) = (st.x.n : Int) + 2 := IntWalk.i64_in _ (by omega)
  clear h1 hn
  go_enter Tryz.func103, Tryz.ntmps103
  go_wp2_with fail
  exact ⟨rfl, rfl, HB0.out⟩
def spT (f : Nat → Int) (n : Nat) : ByteArray := jnT (fun i => itT (f i)) n
set_option linter.unusedSimpArgs false in
set_option maxRecDepth 100000 in
set_option maxHeartbeats 4000000 in
theorem spaced_any (b off n c : Nat) (f : Nat → Int) (m : Int) (w : World) (hW : WF m w) (hn : n ≤ 1000) (hf : ∀ k, k < n → -1000000 ≤ f k ∧ f k ≤ 1000000) (h : IC w b off n f) :
    Calls Tryz.prog 125 #[.slice (some ⟨b, off, none⟩) n c] w fun e w' => e = .returned (.string (spT f n)) ∧ Below w.heap.size w w' := by
  have hmk := fun w => run_mk0 elStr n (by omega) (by omega) w
  have HWF := Lib.hid hW
  have HF := Lib.hid hf
  have HC := Lib.hid h
  have HI0 : Hid (TdI w (w.alloc (.cells (madeCells #[.string ⟨#[]⟩] (n * 1)) 9)) w.heap.size n 0 (fun i => itT (f i))) := ⟨own_made _ _ _ _ _ _ (by unfold maxLen; omega), Nat.le_refl _, below_all _ _⟩
  clear hW hf h
  go_enter Tryz.func125, Tryz.ntmps125
  go_wp2_with fail
  go_loopw [3, 5, 11] (fun o _ i wr => ∃ j g cap : Nat, j ≤ n ∧ i = .int .i64 j ∧ o = .slice (some ⟨g, 0, none⟩) j cap ∧ Hid (TdI w wr g cap j (fun i => itT (f i)))) (fun _ _ i _ => n - (intOf i).toNat)
  case atStart => exact ⟨0, w.heap.size, n, Nat.zero_le _, rfl, rfl, by simpa using HI0⟩
  case round =>
   obtain ⟨j, g, cap, hj, rfl, rfl, HI⟩ := hrel
   by_cases hlt : j < n
   ·have hji : (j : Int) < (n : Int) := by omega
    have hck := (HC.out.keep HI.out.bl).at j hlt
    have HFJ := Lib.hid (HF.out j hlt)
    generalize hfj : f j = fj at *
    go_wp2_with fail
    refine (itoa_any fj (by have := HFJ.out; omega) (by have := HFJ.out; omega) _ (HWF.out.below HI.out.bl)).mono ?_
    rintro e w2 ⟨rfl, hb2⟩
    have HI2 := Lib.hid (HI.out.keep hb2)
    clear hb2 hck
    go_wp2_with (at_builtin; refine wpList_pushV elStr rfl (.tmp 15) (.tmp 18) (by rfl) (f := fun i => .string (itT (f i))) HI2.out.ow (by rfl) (by rfl) (by rw [hfj]) rfl (by omega) (by omega) ?_; intro g' c' wa HA hgr hd; have HI3 := Lib.hid (HI2.out.push HA hgr (hd.imp And.left Nat.le_of_lt)); clear HA hgr hd)
    go_roundw
    case rel => exact ⟨j + 1, g', c', by omega, by go_num, by simp, HI3⟩
    case measure => simp [intOf]; omega
   ·obtain rfl : j = n := by omega
    have HJ := Lib.hid (join_any g cap j (fun i => itT (f i)) wr (by omega) (fun i hi => by have := HF.out i hi; have := itT_size (f i) (by omega) (by omega); omega) HI.out.ow)
    go_wp2_with fail
    refine HJ.out.mono ?_
    rintro e w3 ⟨rfl, hb3⟩
    have HB3 := Lib.hid (HI.out.bl.trans (hb3.mono HI.out.bl.size))
    clear hb3
    go_wp2_with fail
    go_ret
    exact ⟨rfl, HB3.out⟩
def whO (st : Ses) : ByteArray := spT st.x.T st.x.m
set_option linter.unusedSimpArgs false in
set_option maxRecDepth 100000 in
set_option maxHeartbeats 4000000 in
theorem doWhere_any (z s bw n c : Nat) (m : Int) (st : Ses) (own : Nat → Prop) (w : World) (hW : WF m w) (hS : StS z st own w s) (hm : st.x.m ≤ 1000) (hT : ∀ k, k < st.x.m → -1000000 ≤ st.x.T k ∧ st.x.T k ≤ 1000000) :
    Calls Tryz.prog 100 #[.pointer (some ⟨s, 0, none⟩), .slice (some ⟨bw, 0, none⟩) n c] w (Md z st (whO st) s own w) := by
  have HS := Lib.hid hS
  obtain ⟨g1, c1, g2, c2, vm, vt, h1, _⟩ := hS
  have HSP := Lib.hid (spaced_any g2 0 st.x.m c2 st.x.T m w hW hm hT (IC.of_own h1.tr))
  have hsc := h1.box.cell
  clear h1 hW hT
  go_enter Tryz.func100, Tryz.ntmps100
  go_wp2_with fail
  refine HSP.out.mono ?_
  rintro e w2 ⟨rfl, hb2⟩
  have HB2 := Lib.hid hb2
  clear hb2 hsc
  go_wp2_with fail
  go_ret
  exact ⟨rfl, own, HS.out.keep (Fr.of_below HB2.out _), Fr.of_below HB2.out own, fun _ hq => .inl hq⟩
end Go.Proofs.YtlkdmpfifpkpaaaGreatDoor

