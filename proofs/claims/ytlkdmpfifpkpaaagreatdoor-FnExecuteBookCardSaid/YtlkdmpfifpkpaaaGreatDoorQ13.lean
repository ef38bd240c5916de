/-
  Parts of the proof of fnExecuteBook_proved: Ju Jv Jw Jx Jy Ia Ib Ic Rows2. No condition.
-/
import Derived.Laws.BitsAllLaws
import Derived.Deep.DeepCutAuto
import Derived.Maps.AppendAt
import Derived.Lib.ItoaLen
import Derived.RangeFuncNested
import Derived.RangeFuncBound
import Derived.RangeFuncCalls
import Derived.RangeFuncLeaves
import Derived.RangeFuncBox
import Derived.Shelf.Abstract
import Derived.OwnWalkIn
import Derived.TacticsInMore
import Derived.LoopNIn
import Derived.LoopIn
import Derived.Lib.IndexLaws
import Derived.Shelf.RegionOpen
import Derived.Lib.Strings
import Derived.Shelf.Strings.Builder1
import Derived.Shelf.Strings.Builder2
import Derived.Shelf.Strings.OnBuilder
import Derived.Shelf.Strings.BuilderF
import Derived.Shelf.Strconv.Itoa0
import Derived.Shelf.Strconv.Itoa1
import Derived.Shelf.LaysM
import Derived.Shelf.Strconv.Itoa2
import Derived.Shelf.Strconv.Itoa3
import Derived.Shelf.Strings.Search1
import Derived.Shelf.Strings.Search2
import Derived.Shelf.Strings.Search3
import Derived.Shelf.Strings.Count
import Derived.Shelf.Strings.Shaped
import Derived.Shelf.Strings.Split
import Derived.Shelf.Strings.SplitShaped
import Derived.Shelf.Unicode.DecodeSlow
import Derived.Test.YtlkdmpfifpkpaaaGreatDoorProg
import Derived.Deep.QuietTactic
import Derived.BigQuiet
import Derived.Lib.SlBytesRow
import Derived.WalkKit
import Derived.WalkSpells
import Derived.WalkLawsBesides
import Derived.Lib.Hide
import Derived.Deep.RegionHeld3
import Derived.Deep.DeepFit
import Derived.Recover
import Derived.Defers
import Derived.Lib.Builder
import Derived.Lib.AppendStr
import Derived.Lib.UnsafeStr
import Derived.Lib.Slices
import Derived.Laws.Externs
import Derived.Lib.ItoaMem
import Derived.Lib.AppendIntMem
import Derived.Lib.SplitLaws
import Derived.Deep.RegionWith
import Derived.Test.YtlkdmpfifpkpaaaGreatDoorChecked
import Derived.OrdersIn
import Derived.OrdersHeld
import Derived.Deep.RegionHeld
import Derived.Lib.IndexBytes
import Derived.Laws.IdiomStrings
import Derived.Test.YtlkdmpfifpkpaaaGreatDoorRows
import Derived.ProofKit
import Derived.OpenShut
import Derived.JoinedCond
import Derived.Lib.SmallJoins
import Derived.Test.YtlkdmpfifpkpaaaGreatDoorQ01
import Derived.Test.YtlkdmpfifpkpaaaGreatDoorQ02
import Derived.Test.YtlkdmpfifpkpaaaGreatDoorQ03
import Derived.Test.YtlkdmpfifpkpaaaGreatDoorQ04
import Derived.Test.YtlkdmpfifpkpaaaGreatDoorQ05
import Derived.Test.YtlkdmpfifpkpaaaGreatDoorQ06
import Derived.Test.YtlkdmpfifpkpaaaGreatDoorQ07
import Derived.Test.YtlkdmpfifpkpaaaGreatDoorQ08
import Derived.Test.YtlkdmpfifpkpaaaGreatDoorQ09
import Derived.Test.YtlkdmpfifpkpaaaGreatDoorQ10
import Derived.Test.YtlkdmpfifpkpaaaGreatDoorQ11
import Derived.Test.YtlkdmpfifpkpaaaGreatDoorQ12
namespace Go.Proofs.YtlkdmpfifpkpaaaGreatDoor
open Go.RowKit

theorem gPow : Tryz.prog.globalNamed "internal/strconv.uint64pow10" = some 1 := by kernel_rfl
theorem WF.size {m : Int} {w : World} (h : WF m w) : 2 ≤ w.heap.size := by
  have h1 := h.tab
  unfold Lib.TabIs World.var? at h1
  rw [gPow] at h1
  simp only [Option.bind_some] at h1
  rcases Nat.lt_or_ge 1 w.heap.size with h' | h'
  · omega
  · simp [Array.getElem?_eq_none h'] at h1
theorem WF.fr {S : Nat → Prop} {m : Int} {w w' : World} (h : WF m w) (hf : Fr S w w') (hS : ∀ q, S q → 2 ≤ q) : WF m w' := by
  have hs := h.size
  refine ⟨?_, ?_⟩
  · have hb := hf.block 0 (by omega) (fun e => by have := hS 0 e; omega)
    have hm := h.mx
    simp only [World.cell?] at hm ⊢
    rw [hb]
    exact hm
  · have hb := hf.block 1 (by omega) (fun e => by have := hS 1 e; omega)
    have h1 := h.tab
    unfold Lib.TabIs World.var? at h1 ⊢
    rw [gPow] at h1 ⊢
    simp only [Option.bind_some] at h1 ⊢
    rw [hb]
    exact h1
/-- a line of a script on a session: the session behind it and what it says -/
def Ans (st : Ses) (t : ByteArray) (st' : Ses) (o : ByteArray) : Prop :=
  ∀ (z s : Nat) (m : Int) (own : Nat → Prop) (w : World), z ≤ w.heap.size → 2 ≤ z → WF m w → StS z st own w s → Calls Tryz.prog 37 #[.pointer (some ⟨s, 0, none⟩), .string t] w (Md z st' o s own w)
/-- a session as the commands keep it -/
structure SesOk (st : Ses) : Prop where
  xv : vldL st.x = true
  t0 : 0 ≤ st.tm
  t1 : st.tm ≤ 2000
  ml : st.ms.length ≤ 100
  tl : st.ts.length = st.ms.length
theorem SesOk.xn {st : Ses} (h : SesOk st) : st.x.n ≤ 5 ∧ st.x.m ≤ 5 := by
  obtain ⟨_, h2, h3, _⟩ := vldL_true h.xv
  exact ⟨h2, h3⟩
def ses0 : Ses := { x := newL 1 0, tm := 0, ms := [], ts := [] }
theorem ans_line {st : Ses} {t : ByteArray} (ht : t.size ≤ 1000) (hc : cmdK (wd0 t) (wdL t).length = 0) (hl : (wdL t).length = 3) : Ans st t (lwS st (wdI t 1) (wdI t 2)) (lwO (wdI t 1) (wdI t 2)) :=
  fun z s m own w hz _ hW hS => line_some z s 0 t m st _ _ own w ht hW.mx hc (by omega) hS fun W bw hS2 hb hw _ =>
    doLine_any z s bw (wdL t).length (wdL t).length (wdI t 1) (wdI t 2) st own W (by omega) (Nat.le_trans hz hb.size) hS2 (hw 1 (by omega)) (hw 2 (by omega))
theorem ans_wait {st : Ses} {t : ByteArray} (ht : t.size ≤ 1000) (hk : SesOk st) (hc : cmdK (wd0 t) (wdL t).length = 1) (hl : (wdL t).length = 2) : Ans st t (wtS st (wdI t 1)) (wtO st (wdI t 1)) :=
  fun z s m own w _ _ hW hS => line_some z s 1 t m st _ _ own w ht hW.mx hc (by omega) hS fun W bw hS2 _ hw _ =>
    doWait_any z s bw (wdL t).length (wdL t).length (wdI t 1) st own W (by omega) hS2 ⟨hk.t0, hk.t1⟩ (hw 1 (by omega))
theorem ans_do {st : Ses} {t : ByteArray} (ht : t.size ≤ 1000) (hk : SesOk st) (hc : cmdK (wd0 t) (wdL t).length = 2) (hl : (wdL t).length = 3) : Ans st t (mvSS st (wdI t 1) (wdI t 2)) (mvSO st (wdI t 1) (wdI t 2)) :=
  fun z s m own w hz _ hW hS => line_some z s 2 t m st _ _ own w ht hW.mx hc (by omega) hS fun W bw hS2 hb hw _ =>
    doMove_any z s bw (wdL t).length (wdL t).length (wdI t 1) (wdI t 2) st own W (by omega) (Nat.le_trans hz hb.size) hS2 (by have := hk.xn; omega) (by have := hk.ml; omega) (by have := hk.ml; have := hk.tl; omega) (hw 1 (by omega)) (hw 2 (by omega))
theorem ans_book {st : Ses} {t : ByteArray} (ht : t.size ≤ 1000) (hk : SesOk st) (hc : cmdK (wd0 t) (wdL t).length = 6) (hl : (wdL t).length = 2) : Ans st t st (bkO st (wdI t 1)) :=
  fun z s m own w _ _ hW hS => line_some z s 6 t m st _ _ own w ht hW.mx hc (by omega) hS fun W bw hS2 hb hw _ =>
    doBook_any z s bw (wdL t).length (wdL t).length (wdI t 1) m st own W (by omega) (hW.below hb) hS2 hk.tl (by have := hk.ml; omega) (hw 1 (by omega))
/-- a script -/
theorem execute_of (t : ByteArray) (m : Int) (w : World) (hsz : t.size ≤ 500) (hW : WF m w) (sts : Nat → Ses) (out : Nat → ByteArray) (h0 : sts 0 = ses0) (hout : ∀ k, (out k).size ≤ 1000000)
    (hst : ∀ k, k + 1 < (lnT t).length → Ans (sts k) (lnI t k) (sts (k + 1)) (out k)) (hm : (sts ((lnT t).length - 1)).x.m < 100) (hp : (sts ((lnT t).length - 1)).pn < 100) :
    Calls Tryz.prog 11 #[.string t] w fun e w' => e = .returned (.string ⟨(exO out ((lnT t).length - 1) ++ (exT (sts ((lnT t).length - 1)).x.m (sts ((lnT t).length - 1)).pn).data.toList).toArray⟩) ∧ Below w.heap.size w w' := by
  refine execute_gen t m w hsz hW.mx (fun k own W s => StS w.heap.size (sts k) own W s) out (sts ((lnT t).length - 1)).x.m (sts ((lnT t).length - 1)).pn hout hm hp ?_ ?_ ?_ ?_
  · intro W s g1 c1 g2 c2 hb h1 h2 h12 hs1 hs2 hbx ho1 ho2
    rw [h0]
    refine ⟨g1, c1, g2, c2, .slice none 0 0, .slice none 0 0, ⟨hbx, ho1, ho2, .inr ⟨rfl, rfl⟩, .inr ⟨rfl, rfl⟩, h12, by omega, by omega, fun q hq => (by cases hq), fun q hq => (by cases hq), h1, h2, by omega⟩, fun q => ?_⟩
    unfold ownS
    constructor
    · rintro (h | h | h)
      · exact .inl h
      · exact .inr (.inl h)
      · exact .inr (.inr (.inl h))
    · rintro (h | h | h | h | h)
      · exact .inl h
      · exact .inr (.inl h)
      · exact .inr (.inr h)
      · cases h
      · cases h
  · intro k own W W' s h hf
    exact h.keep hf
  · intro k own W s hk hS hb _
    refine (hst k hk w.heap.size s m own W hb.size hW.size (hW.below hb) hS).mono ?_
    rintro e w' ⟨rfl, own', h1, h2, h3⟩
    exact ⟨rfl, own', h1, h2, h1.oz.1, fun q hq => ⟨h3 q hq, (h1.oz.2 q hq).2⟩⟩
  · intro own W s ⟨g1, c1, g2, c2, vm, vt, h, _⟩
    exact ⟨⟨_, _, h.box.cell 1⟩, ⟨_, _, h.box.cell 2⟩⟩
end Go.Proofs.YtlkdmpfifpkpaaaGreatDoor
namespace Go.Proofs.YtlkdmpfifpkpaaaGreatDoor
open Go.RowKit

/-- what is between a byte -/
def spB (c : UInt8) : List UInt8 → List (List UInt8)
  | [] => [[]]
  | b :: l => if b = c then [] :: spB c l else match spB c l with | [] => [[b]] | x :: r => (b :: x) :: r
theorem spB_free {c : UInt8} : ∀ {l : List UInt8}, c ∉ l → spB c l = [l]
  | [], _ => rfl
  | b :: l, h => by
    have h1 : b ≠ c := fun e => h (by simp [e])
    have h2 := spB_free (c := c) (l := l) (fun e => h (by simp [e]))
    simp [spB, h1, h2]
theorem spB_app {c : UInt8} : ∀ {a : List UInt8} (b : List UInt8), c ∉ a → spB c (a ++ c :: b) = a :: spB c b
  | [], b, _ => by simp [spB]
  | x :: a, b, h => by
    have h1 : x ≠ c := fun e => h (by simp [e])
    have h2 := spB_app (c := c) (a := a) b (fun e => h (by simp [e]))
    simp [spB, h1, h2]
/-- whole lines -/
def lnsB (ls : List (List UInt8)) : List UInt8 := ls.flatMap (· ++ [10])
theorem spB_lines : ∀ (ls : List (List UInt8)), (∀ l, l ∈ ls → (10 : UInt8) ∉ l) → spB 10 (lnsB ls) = ls ++ [[]]
  | [], _ => rfl
  | l :: ls, h => by
    have h2 := spB_lines ls (fun x hx => h x (by simp [hx]))
    have e : lnsB (l :: ls) = l ++ 10 :: lnsB ls := by simp [lnsB]
    rw [e, spB_app _ (h l (by simp)), h2]
    rfl
theorem countB_one (t : ByteArray) (c : UInt8) : Lib.countB t ⟨#[c]⟩ = t.data.toList.count c := Lib.count_one c t.data.toList
theorem indexByte_app {c : UInt8} : ∀ {a : List UInt8} (b : List UInt8), c ∉ a → Lib.indexByte (a ++ c :: b) c = a.length
  | [], b, _ => by simp [Lib.indexByte]
  | x :: a, b, h => by
    have h1 : (x == c) = false := beq_eq_false_iff_ne.2 (fun e => h (by simp [e]))
    have h2 := indexByte_app (c := c) (a := a) b (fun e => h (by simp [e]))
    have h3 : ((a.length : Int) == -1) = false := beq_eq_false_iff_ne.2 (by omega)
    simp only [List.cons_append, Lib.indexByte, h1, h2, h3, List.length_cons]
    simp
theorem ext_list (t : ByteArray) (i j : Nat) : (t.extract i j).data.toList = (t.data.toList.take j).drop i := by
  simp [ByteArray.data_extract, Array.toList_extract, List.extract_eq_take_drop, List.drop_take]
theorem splitB_spB (c : UInt8) : ∀ (k : Nat) (t : ByteArray), t.data.toList.count c = k → (Lib.splitB ⟨#[c]⟩ 0 k t).map (·.data.toList) = spB c t.data.toList
  | 0, t, h => by
    have hn : c ∉ t.data.toList := List.count_eq_zero.1 h
    rw [spB_free hn]
    rfl
  | k + 1, t, h => by
    have hm : c ∈ t.data.toList := List.count_pos_iff.1 (by omega)
    obtain ⟨a, b, e, ha⟩ := List.eq_append_cons_of_mem hm
    have hi : Lib.indexB t ⟨#[c]⟩ = (a.length : Int) := by
      show Lib.index t.data.toList [c] = _
      rw [Lib.index_one, e, indexByte_app b ha]
    have hz : t.size = a.length + (b.length + 1) := by
      have : t.data.toList.length = t.size := by simp
      rw [← this, e, List.length_append, List.length_cons]
    have h1 : (t.extract 0 a.length).data.toList = a := by
      rw [ext_list, e, List.drop_zero, List.take_left]
    have h2 : (t.extract (a.length + 1) t.size).data.toList = b := by
      rw [ext_list, e, hz, List.take_of_length_le (by rw [List.length_append, List.length_cons]; exact Nat.le_refl _), List.append_cons a c b, show a.length + 1 = (a ++ [c]).length from by rw [List.length_append]; rfl, List.drop_left]
    have hc : b.count c = k := by
      rw [e, List.count_append, List.count_eq_zero.2 ha, List.count_cons_self] at h
      omega
    rw [Lib.splitB_hit _ _ _ _ _ hi, e, spB_app b ha, List.map_cons]
    have ih := splitB_spB c k (t.extract (a.length + 1) t.size) (by rw [h2]; exact hc)
    rw [h2] at ih
    show (t.extract 0 (a.length + 0)).data.toList :: _ = _
    rw [Nat.add_zero, h1]
    exact congrArg _ ih
theorem wdL_spB (t : ByteArray) : (wdL t).map (·.data.toList) = spB 32 t.data.toList := by
  unfold wdL
  exact splitB_spB 32 _ t (countB_one t 32).symm
theorem lnT_spB (t : ByteArray) : (lnT t).map (·.data.toList) = spB 10 t.data.toList := by
  unfold lnT
  exact splitB_spB 10 _ t (countB_one t 10).symm
theorem ba_ext {a b : ByteArray} (h : a.data.toList = b.data.toList) : a = b := by
  cases a
  cases b
  simpa using h
theorem map_ba_inj : ∀ {xs ys : List ByteArray}, xs.map (·.data.toList) = ys.map (·.data.toList) → xs = ys
  | [], [], _ => rfl
  | [], _ :: _, h => by cases h
  | _ :: _, [], h => by cases h
  | x :: xs, y :: ys, h => by
    simp only [List.map_cons, List.cons.injEq] at h
    rw [ba_ext h.1, map_ba_inj h.2]
/-- the lines of a script of whole lines -/
theorem lnT_of {t : ByteArray} {ls : List ByteArray} (h : t.data.toList = lnsB (ls.map (·.data.toList))) (hf : ∀ l, l ∈ ls → (10 : UInt8) ∉ l.data.toList) : lnT t = ls ++ [⟨#[]⟩] := by
  refine map_ba_inj ?_
  rw [lnT_spB, h, spB_lines _ (fun l hl => by
    obtain ⟨x, hx, rfl⟩ := List.mem_map.1 hl
    exact hf x hx), List.map_append]
  rfl
/-- the words of a line -/
theorem wdL_of {t : ByteArray} {ws : List ByteArray} (h : spB 32 t.data.toList = ws.map (·.data.toList)) : wdL t = ws := map_ba_inj (by rw [wdL_spB, h])
end Go.Proofs.YtlkdmpfifpkpaaaGreatDoor
namespace Go.Proofs.YtlkdmpfifpkpaaaGreatDoor
open Go.RowKit

/-- lines one behind the other -/
def Stp : Ses → List (ByteArray × ByteArray) → Ses → Prop
  | st, [], st' => st = st'
  | st, y :: r, st' => ∃ st1, Ans st y.1 st1 y.2 ∧ Stp st1 r st'
theorem Stp.app : ∀ {a : List (ByteArray × ByteArray)} {st st1 st2 : Ses} {b : List (ByteArray × ByteArray)}, Stp st a st1 → Stp st1 b st2 → Stp st (a ++ b) st2
  | [], _, _, _, _, h, k => by cases h; exact k
  | _ :: _, _, _, _, _, ⟨s, h1, h2⟩, k => ⟨s, h1, Stp.app h2 k⟩
theorem Stp.one {st st' : Ses} {t o : ByteArray} (h : Ans st t st' o) : Stp st [(t, o)] st' := ⟨st', h, rfl⟩
theorem Stp.fn : ∀ {a : List (ByteArray × ByteArray)} {st st' : Ses}, Stp st a st' → ∃ sts : Nat → Ses, sts 0 = st ∧ sts a.length = st' ∧ ∀ k y, a[k]? = some y → Ans (sts k) y.1 (sts (k + 1)) y.2
  | [], st, st', h => ⟨fun _ => st, rfl, h, fun k y hy => by simp at hy⟩
  | y :: r, st, st', ⟨s1, h1, h2⟩ => by
    obtain ⟨sts, e0, en, hs⟩ := h2.fn
    refine ⟨fun k => match k with | 0 => st | k + 1 => sts k, rfl, en, fun k z hz => ?_⟩
    match k with
    | 0 =>
      cases hz
      show Ans st y.1 (sts 0) y.2
      rw [e0]
      exact h1
    | k + 1 => exact hs k z hz
/-- what the lines say, each with its newline -/
def sayL (a : List (ByteArray × ByteArray)) : List UInt8 := lnsB (a.map (·.2.data.toList))
theorem exO_say (a : List (ByteArray × ByteArray)) (out : Nat → ByteArray) (h : ∀ k y, a[k]? = some y → out k = y.2) : ∀ k, k ≤ a.length → exO out k = sayL (a.take k)
  | 0, _ => rfl
  | k + 1, hk => by
    have ih := exO_say a out h k (by omega)
    have hk2 : k < a.length := by omega
    have e : out k = a[k].2 := h k _ (List.getElem?_eq_getElem hk2)
    have et : a.take (k + 1) = a.take k ++ [a[k]] := List.take_succ_eq_append_getElem hk2
    rw [et]
    unfold sayL at ih ⊢
    unfold lnsB at ih ⊢
    rw [List.map_append, List.flatMap_append, ← ih]
    rw [exO, e]
    simp
/-- the script of some lines -/
theorem execute_stp (t : ByteArray) (m : Int) (w : World) (a : List (ByteArray × ByteArray)) (st : Ses) (hsz : t.size ≤ 500) (hW : WF m w) (ht : t.data.toList = lnsB (a.map (·.1.data.toList))) (hf : ∀ y, y ∈ a → (10 : UInt8) ∉ y.1.data.toList) (ho : ∀ y, y ∈ a → y.2.size ≤ 1000000)
    (hs : Stp ses0 a st) (hm : st.x.m < 100) (hp : st.pn < 100) :
    Calls Tryz.prog 11 #[.string t] w fun e w' => e = .returned (.string ⟨(sayL a ++ (exT st.x.m st.pn).data.toList).toArray⟩) ∧ Below w.heap.size w w' := by
  obtain ⟨sts, e0, en, hst⟩ := hs.fn
  have hl : lnT t = a.map (·.1) ++ [⟨#[]⟩] := lnT_of (by rw [ht, List.map_map]; rfl) (fun l hl => by
    obtain ⟨y, hy, rfl⟩ := List.mem_map.1 hl
    exact hf y hy)
  have hlen : (lnT t).length - 1 = a.length := by rw [hl]; simp
  have q := execute_of t m w hsz hW sts (fun k => ((a[k]?).map (·.2)).getD ⟨#[]⟩) e0 (fun k => ?_) (fun k hk => ?_) (by rw [hlen, en]; exact hm) (by rw [hlen, en]; exact hp)
  · rw [hlen, en, exO_say a _ (fun k y hy => by simp [hy]) a.length (Nat.le_refl _), List.take_length] at q
    exact q
  · cases hk : a[k]? with
    | none => exact Nat.zero_le _
    | some y => exact ho y (List.mem_of_getElem? hk)
  · have hk2 : k < a.length := by omega
    have h1 := hst k a[k] (List.getElem?_eq_getElem hk2)
    have e1 : lnI t k = a[k].1 := by
      unfold lnI
      rw [hl, List.getElem?_append_left (by simpa using hk2)]
      simp [hk2]
    rw [e1]
    simpa [hk2] using h1
end Go.Proofs.YtlkdmpfifpkpaaaGreatDoor
namespace Go.Proofs.YtlkdmpfifpkpaaaGreatDoor
open Go.RowKit

/-- the line behind some letters -/
def xL (l : List UInt8) : Ln := l.foldl (fun x c => mvTo x 0 (chr c)) (newL 1 1)
theorem xL_snoc (l : List UInt8) (c : UInt8) : xL (l ++ [c]) = mvTo (xL l) 0 (chr c) := by simp [xL]
structure XI (l : List UInt8) (x : Ln) : Prop where
  v : vldL x = true
  n1 : x.n = 1
  m1 : x.m = 1
  k : sk x 0 = rnS 0 l
  t : (101 : UInt8) ∉ l → x.T 0 = 0
theorem XI.zero : XI [] (newL 1 1) := ⟨newL_vld (by omega) (by omega) (by omega), rfl, rfl, by decide, fun _ => rfl⟩
theorem XI.ok {l : List UInt8} {x : Ln} {c : UInt8} (h : XI l x) (hr : rnS 0 (l ++ [c]) < 5) (he : c = 101 → (101 : UInt8) ∉ l) : mvOk x 0 (chr c) = true := by
  have hJ : mvJ x 0 (chr c) = nx (sk x 0) (c.toNat : Int) := mvJ_chr x 0 c
  have hr2 : nx (sk x 0) (c.toNat : Int) < 5 := by
    rw [rnS_app] at hr
    rw [h.k]
    exact hr
  have hf1 : ∀ p : Int, x.T 0 = p → fstA x.T p x.m < x.m := fun p hp => by rw [h.m1]; simp [fstA, hp]
  unfold mvOk
  rw [Bool.and_eq_true, Bool.and_eq_true, inB_true, decide_eq_true_eq, hJ]
  refine ⟨⟨by omega, by rw [h.n1]; decide⟩, hr2, ?_⟩
  by_cases h1 : c = 101
  · subst h1
    have : plI 0 (chr 101) = 0 := by decide
    rw [this, decide_eq_true (hf1 0 (h.t (he rfl)))]
    simp
  by_cases h2 : c = 108
  · subst h2
    have h3 : sk x 0 = 3 := by
      rcases nx_cases hr2 with ⟨a, b, d⟩ | ⟨a, b, d⟩ | ⟨a, b, d⟩ | ⟨a, b, d⟩ | ⟨a, b, d⟩ | ⟨a, b, d⟩ | ⟨a, b, d⟩
      all_goals first | exact a | (exfalso; revert b; decide)
    have hI : x.I 0 = true := by rw [sk_I h.v (by rw [h.n1]; omega), h3]; rfl
    have hc := cnOk_true.1 ((vldL_true h.v).2.2.2.2.2 0 (by rw [h.n1]; omega))
    rw [hI, h.m1] at hc
    have hT : x.T 0 = 1 := by
      by_cases e : x.T 0 = 1
      · exact e
      · exfalso
        simp [cntA, e] at hc
    have : plI 0 (chr 108) = 1 := by decide
    rw [this, decide_eq_true (hf1 1 hT)]
    simp
  · have e1 : eB (chr c) = false := decide_eq_false (fun e => h1 (by simpa [chr] using e))
    have e2 : lB (chr c) = false := decide_eq_false (fun e => h2 (by simpa [chr] using e))
    simp [e1, e2]
theorem XI.next {l : List UInt8} {x : Ln} {c : UInt8} (h : XI l x) (hr : rnS 0 (l ++ [c]) < 5) (he : c = 101 → (101 : UInt8) ∉ l) : XI (l ++ [c]) (mvTo x 0 (chr c)) := by
  have ho := h.ok hr he
  have hJ : mvJ x 0 (chr c) = nx (sk x 0) (c.toNat : Int) := mvJ_chr x 0 c
  have hr2 : nx (sk x 0) (c.toNat : Int) < 5 := by
    rw [rnS_app] at hr
    rw [h.k]
    exact hr
  refine ⟨vld_mv h.v ho, h.n1, h.m1, ?_, fun hn => ?_⟩
  · have q := sk_mv (x := x) (k := 0) (l := chr c) (by show mvJ x 0 (chr c) < 5; rw [hJ]; exact hr2) 0
    rw [if_pos rfl] at q
    rw [rnS_app]
    refine q.trans ?_
    refine hJ.trans ?_
    rw [h.k]
    rfl
  · have hn1 : (101 : UInt8) ∉ l := fun e => hn (by simp [e])
    have hc : c ≠ 101 := fun e => hn (by simp [e])
    have hT := h.t hn1
    obtain ⟨k, hk0, hk, hJ5, hh⟩ := mv_kind ho
    have hk1 := h.n1
    obtain rfl : k = 0 := by omega
    rcases hh with ⟨e, _⟩ | ⟨i, hi, e, _, _, _, e3⟩ | ⟨i, hi, e, _⟩
    · rw [e]; exact hT
    · exfalso
      rw [hJ] at e3
      rcases nx_cases hr2 with ⟨a, b, d⟩ | ⟨a, b, d⟩ | ⟨a, b, d⟩ | ⟨a, b, d⟩ | ⟨a, b, d⟩ | ⟨a, b, d⟩ | ⟨a, b, d⟩
      all_goals first | (rw [d] at e3; omega) | exact hc (UInt8.toNat_inj.1 (by have : (101 : UInt8).toNat = 101 := rfl; omega))
    · exfalso
      have hm1 := h.m1
      obtain rfl : i = 0 := by omega
      rw [hT] at e
      omega
end Go.Proofs.YtlkdmpfifpkpaaaGreatDoor
namespace Go.Proofs.YtlkdmpfifpkpaaaGreatDoor
open Go.RowKit

def nt (l : List UInt8) : List (Int × ByteArray) := l.zipIdx.map fun z => (2 * ((z.2 : Int) + 1), chr z.1)
def tsB (l : List UInt8) : List Int := l.zipIdx.map fun z => 2 * ((z.2 : Int) + 1)
def bkS (l : List UInt8) : Ses := { x := xL l, tm := 2 * (l.length : Int), ms := l.map fun c => (0, chr c), ts := tsB l }
theorem nt_snoc (l : List UInt8) (c : UInt8) : nt (l ++ [c]) = nt l ++ [(2 * ((l.length : Int) + 1), chr c)] := by simp [nt, List.zipIdx_append]
theorem tsB_snoc (l : List UInt8) (c : UInt8) : tsB (l ++ [c]) = tsB l ++ [2 * ((l.length : Int) + 1)] := by simp [tsB, List.zipIdx_append]
def wT : ByteArray := ⟨#[119, 97, 105, 116, 32, 50]⟩
def dT (c : UInt8) : ByteArray := ⟨#[100, 111, 32, 48, 32, c]⟩
def lT : ByteArray := ⟨#[108, 105, 110, 101, 32, 49, 32, 49]⟩
def bT : ByteArray := ⟨#[98, 111, 111, 107, 32, 48]⟩
theorem wT_w : wdL wT = [⟨#[119, 97, 105, 116]⟩, ⟨#[50]⟩] := wdL_of (by decide)
theorem lT_w : wdL lT = [⟨#[108, 105, 110, 101]⟩, ⟨#[49]⟩, ⟨#[49]⟩] := wdL_of (by decide)
theorem bT_w : wdL bT = [⟨#[98, 111, 111, 107]⟩, ⟨#[48]⟩] := wdL_of (by decide)
theorem dT_w {c : UInt8} (h : c ≠ 32) : wdL (dT c) = [⟨#[100, 111]⟩, ⟨#[48]⟩, chr c] := wdL_of (by simp [dT, chr, spB, h])
theorem nm2 : nmF ⟨#[50]⟩ = 2 := by decide
theorem nm1 : nmF ⟨#[49]⟩ = 1 := by decide
theorem nm0 : nmF ⟨#[48]⟩ = 0 := by decide
theorem cm_w : cmdK ⟨#[119, 97, 105, 116]⟩ 2 = 1 := by decide +kernel
theorem cm_l : cmdK ⟨#[108, 105, 110, 101]⟩ 3 = 0 := by decide +kernel
theorem cm_b : cmdK ⟨#[98, 111, 111, 107]⟩ 2 = 6 := by decide +kernel
theorem cm_d : cmdK ⟨#[100, 111]⟩ 3 = 2 := by decide +kernel
theorem bkS_ok {l : List UInt8} (h : XI l (xL l)) (hl : l.length ≤ 12) : SesOk (bkS l) :=
  ⟨h.v, by show (0 : Int) ≤ 2 * (l.length : Int); omega, by show 2 * (l.length : Int) ≤ 2000; omega, by show (l.map _).length ≤ 100; rw [List.length_map]; omega, by show (tsB l).length = (l.map _).length; simp [tsB]⟩
theorem bk_line (st : Ses) : Ans st lT (bkS []) okT := by
  have h := ans_line (st := st) (t := lT) (by decide) (by rw [show wd0 lT = ⟨#[108, 105, 110, 101]⟩ by unfold wd0; rw [lT_w]; rfl, lT_w]; exact cm_l) (by rw [lT_w]; rfl)
  rw [show wdI lT 1 = ⟨#[49]⟩ by unfold wdI; rw [lT_w]; rfl, show wdI lT 2 = ⟨#[49]⟩ by unfold wdI; rw [lT_w]; rfl] at h
  have e : nwO (nmF ⟨#[49]⟩) (nmF ⟨#[49]⟩) = some (newL 1 1) := by rw [nm1]; exact nwO_yes (n := 1) (t := 1) (by decide) (by decide)
  have e1 : lwS st ⟨#[49]⟩ ⟨#[49]⟩ = bkS [] := by unfold lwS; rw [e]; rfl
  have e2 : lwO ⟨#[49]⟩ ⟨#[49]⟩ = okT := by unfold lwO; rw [e]
  rw [e1, e2] at h
  exact h
theorem bk_pair {l : List UInt8} {c : UInt8} (h : XI l (xL l)) (hl : l.length < 12) (hr : rnS 0 (l ++ [c]) < 5) (he : c = 101 → (101 : UInt8) ∉ l) (hc : c ≠ 32) : Stp (bkS l) [(wT, okT), (dT c, okT)] (bkS (l ++ [c])) := by
  have hk := bkS_ok h (by omega)
  have h1 := ans_wait (st := bkS l) (t := wT) (by decide) hk (by rw [show wd0 wT = ⟨#[119, 97, 105, 116]⟩ by unfold wd0; rw [wT_w]; rfl, wT_w]; exact cm_w) (by rw [wT_w]; rfl)
  rw [show wdI wT 1 = ⟨#[50]⟩ by unfold wdI; rw [wT_w]; rfl] at h1
  have htm : (bkS l).tm + nmF ⟨#[50]⟩ ≤ 2000 := by rw [nm2]; show 2 * (l.length : Int) + 2 ≤ 2000; omega
  have e1 : wtS (bkS l) ⟨#[50]⟩ = { bkS l with tm := 2 * ((l.length : Int) + 1) } := by
    unfold wtS
    rw [if_pos htm, nm2]
    show ({ bkS l with tm := 2 * (l.length : Int) + 2 } : Ses) = _
    rw [show 2 * (l.length : Int) + 2 = 2 * ((l.length : Int) + 1) by omega]
  have e2 : wtO (bkS l) ⟨#[50]⟩ = okT := by unfold wtO; rw [if_pos htm]
  rw [e1, e2] at h1
  have hk2 : SesOk { bkS l with tm := 2 * ((l.length : Int) + 1) } := ⟨hk.xv, by show (0 : Int) ≤ 2 * ((l.length : Int) + 1); omega, by show 2 * ((l.length : Int) + 1) ≤ 2000; omega, hk.ml, hk.tl⟩
  have h2 := ans_do (st := { bkS l with tm := 2 * ((l.length : Int) + 1) }) (t := dT c) (by show (6 : Nat) ≤ 1000; omega) hk2 (by rw [show wd0 (dT c) = ⟨#[100, 111]⟩ by unfold wd0; rw [dT_w hc]; rfl, dT_w hc]; exact cm_d) (by rw [dT_w hc]; rfl)
  rw [show wdI (dT c) 1 = ⟨#[48]⟩ by unfold wdI; rw [dT_w hc]; rfl, show wdI (dT c) 2 = chr c by unfold wdI; rw [dT_w hc]; rfl] at h2
  have hst : stO (xL l) 0 (chr c) = some (mvTo (xL l) 0 (chr c)) := by
    unfold stO stepO
    rw [h.v, h.ok hr he]
    rfl
  have e3 : mvSt { bkS l with tm := 2 * ((l.length : Int) + 1) } (nmF ⟨#[48]⟩) (chr c) = some (bkS (l ++ [c])) := by
    rw [nm0, mvSt_some hst (by show (l.map _).length ≠ 100; rw [List.length_map]; omega)]
    unfold rcS bkS
    rw [xL_snoc, tsB_snoc]
    simp
  have e4 : mvSS { bkS l with tm := 2 * ((l.length : Int) + 1) } ⟨#[48]⟩ (chr c) = bkS (l ++ [c]) := by unfold mvSS; rw [e3]; rfl
  have e5 : mvSO { bkS l with tm := 2 * ((l.length : Int) + 1) } ⟨#[48]⟩ (chr c) = okT := by unfold mvSO; rw [e3]
  rw [e4, e5] at h2
  exact ⟨_, h1, _, h2, rfl⟩
/-- the script ahead of the last line, with what it says -/
def bkL (l : List UInt8) : List (ByteArray × ByteArray) := (lT, okT) :: l.flatMap fun c => [(wT, okT), (dT c, okT)]
theorem bkL_snoc (l : List UInt8) (c : UInt8) : bkL (l ++ [c]) = bkL l ++ [(wT, okT), (dT c, okT)] := by simp [bkL]
/-- letters of a legal text -/
structure Lgl (L : List UInt8) : Prop where
  run : rnS 0 L < 5
  len : L.length ≤ 12
  cnt : L.count 101 ≤ 1
theorem evl_of {s : Nat} {c : UInt8} (h : nx s c.toNat < 5) : c ∈ evL := by
  have hc : ∀ d : UInt8, ((c.toNat : Nat) : Int) = (d.toNat : Int) → c = d := fun d h => UInt8.toNat_inj.1 (by omega)
  rcases nx_cases h with ⟨_, b, _⟩ | ⟨_, b, _⟩ | ⟨_, b, _⟩ | ⟨_, b, _⟩ | ⟨_, b, _⟩ | ⟨_, b, _⟩ | ⟨_, b, _⟩
  · rw [hc 111 b]; decide
  · rw [hc 114 b]; decide
  · rw [hc 97 b]; decide
  · rw [hc 99 b]; decide
  · rw [hc 101 b]; decide
  · rw [hc 108 b]; decide
  · rw [hc 102 b]; decide
theorem Lgl.pre {a b : List UInt8} (h : Lgl (a ++ b)) : Lgl a := by
  obtain ⟨h1, h2, h3⟩ := h
  refine ⟨?_, by rw [List.length_append] at h2; omega, by rw [List.count_append] at h3; omega⟩
  rw [rnS_app] at h1
  have := rnS_le (s := 0) (by omega) a
  rcases Nat.lt_or_ge (rnS 0 a) 5 with h | h
  · exact h
  · rw [show rnS 0 a = 5 by omega, rnS_five] at h1
    omega
theorem Lgl.last {a : List UInt8} {c : UInt8} (h : Lgl (a ++ [c])) : c ∈ evL ∧ (c = 101 → (101 : UInt8) ∉ a) := by
  obtain ⟨h1, h2, h3⟩ := h
  refine ⟨evl_of (s := rnS 0 a) (by rw [rnS_app] at h1; exact h1), fun e hm => ?_⟩
  subst e
  have := List.count_pos_iff.2 hm
  rw [List.count_append, List.count_singleton_self] at h3
  omega
theorem snoc_ind {P : List UInt8 → Prop} (h0 : P []) (h1 : ∀ a c, P a → P (a ++ [c])) (l : List UInt8) : P l := by
  rw [← List.reverse_reverse l]
  induction l.reverse with
  | nil => exact h0
  | cons c r ih =>
    rw [List.reverse_cons]
    exact h1 _ _ ih
theorem bk_run : ∀ a : List UInt8, Lgl a → XI a (xL a) ∧ Stp ses0 (bkL a) (bkS a) :=
  snoc_ind (fun _ => ⟨XI.zero, ⟨_, bk_line ses0, rfl⟩⟩) fun a c ih h => by
    obtain ⟨h1, h2⟩ := ih h.pre
    obtain ⟨h3, h4⟩ := h.last
    have hl : a.length < 12 := by have := h.len; rw [List.length_append] at this; simp at this; omega
    refine ⟨by rw [xL_snoc]; exact h1.next h.run h4, ?_⟩
    rw [bkL_snoc]
    exact h2.app (bk_pair h1 hl h.run h4 (fun e => by rw [e] at h3; revert h3; decide))
theorem nt_len (l : List UInt8) : (nt l).length = l.length := by simp [nt]
theorem nt_at {l : List UInt8} {i : Nat} (h : i < l.length) : (nt l)[i]? = some (2 * ((i : Int) + 1), chr l[i]) := by simp [nt, h]
theorem nt_nM {l : List UInt8} {i : Nat} (h : i < l.length) : nM (nt l) i = 2 * ((i : Int) + 1) ∧ nL (nt l) i = chr l[i] := by
  unfold nM nL
  rw [nt_at h]
  exact ⟨rfl, rfl⟩
theorem roF_bk (l : List UInt8) : ∀ i, i ≤ l.length → roF (bkS l).ms (iF (bkS l).ts) 0 i = (nt l).take i
  | 0, _ => rfl
  | i + 1, h => by
    have hi : i < l.length := by omega
    have hm : mvM (bkS l).ms i = 0 := by unfold mvM bkS; simp [hi]
    have hs : mvS (bkS l).ms i = chr l[i] := by unfold mvS bkS; simp [hi]
    have ht : iF (bkS l).ts i = 2 * ((i : Int) + 1) := by unfold iF bkS tsB; simp [hi]
    have hn : i < (nt l).length := by rw [nt_len]; exact hi
    rw [roF, if_pos hm, hs, ht, roF_bk l i (by omega), List.take_succ_eq_append_getElem hn]
    have := nt_at hi
    rw [List.getElem?_eq_getElem hn] at this
    rw [Option.some.inj this]
theorem bk_rgV {l : List UInt8} (h : Lgl l) (hv : ∀ c, c ∈ l → c ∈ evL) : rgV (nt l) = true := by
  refine rgV_true.2 ⟨by rw [nt_len]; have := h.len; omega, fun i hi => okN_true.2 ⟨⟨?_, ?_⟩, ?_⟩⟩
  · have hi2 : i < l.length := by rw [← nt_len]; exact hi
    rw [(nt_nM hi2).1]
    unfold prM
    split
    · omega
    · rw [(nt_nM (show i - 1 < l.length by omega)).1]
      omega
  · have hi2 : i < l.length := by rw [← nt_len]; exact hi
    have := h.len
    rw [(nt_nM hi2).1]
    omega
  · have hi2 : i < l.length := by rw [← nt_len]; exact hi
    rw [(nt_nM hi2).2]
    exact evB_of (hv _ (List.getElem_mem hi2))
theorem bk_book {l : List UInt8} (h : Lgl l) (hv : ∀ c, c ∈ l → c ∈ evL) : Ans (bkS l) bT (bkS l) (jnT (bkW (nt l)) l.length) := by
  have hk := bkS_ok (bk_run l h).1 h.len
  have h1 := ans_book (st := bkS l) (t := bT) (by decide) hk (by rw [show wd0 bT = ⟨#[98, 111, 111, 107]⟩ by unfold wd0; rw [bT_w]; rfl, bT_w]; exact cm_b) (by rw [bT_w]; rfl)
  rw [show wdI bT 1 = ⟨#[48]⟩ by unfold wdI; rw [bT_w]; rfl] at h1
  have hml : (bkS l).ms.length = l.length := by show (l.map _).length = _; rw [List.length_map]
  have hro : roF (bkS l).ms (iF (bkS l).ts) 0 (bkS l).ms.length = nt l := by rw [roF_bk l _ (by rw [hml]; exact Nat.le_refl _), hml, ← nt_len, List.take_length]
  have hg : bkG (bkS l) 0 = true := by
    unfold bkG
    rw [hro, bk_rgV h hv, Bool.and_true]
    exact decide_eq_true (by rw [show (bkS l).x.n = 1 from (bk_run l h).1.n1]; decide)
  have hN : bkN (bkS l) 0 = nt l := by
    unfold bkN roL
    rw [hro, if_pos (bk_rgV h hv)]
  have e : bkO (bkS l) ⟨#[48]⟩ = jnT (bkW (nt l)) l.length := by
    unfold bkO
    rw [nm0, if_pos hg, hN, nt_len]
  rw [e] at h1
  exact h1
end Go.Proofs.YtlkdmpfifpkpaaaGreatDoor
namespace Go.Proofs.YtlkdmpfifpkpaaaGreatDoor
open Go.RowKit

theorem itT_small {n : Int} (h0 : 0 ≤ n) (h : n < 10) : itT n = ⟨#[UInt8.ofNat (48 + n.toNat)]⟩ := by
  unfold itT Lib.itoa
  rw [if_neg (by omega), Lib.decDigits_one (by omega)]
def dg1 (n : Int) : ByteArray := ⟨#[UInt8.ofNat (48 + n.toNat % 10)]⟩
theorem itT_big {n : Int} (h0 : 10 ≤ n) : itT n = itT (n / 10) ++ dg1 n := by
  refine ba_ext ?_
  unfold itT dg1 Lib.itoa
  rw [if_neg (by omega), if_neg (by omega), Lib.decDigits, dif_neg (by omega), show (n / 10).toNat = n.toNat / 10 by omega]
  simp
/-- string([]byte{d}) -/
theorem conv1 {d : Int} {k : Nat} {tx : ByteArray} (hd : d = (k : Int)) (hk : k < 256) (htx : tx = ⟨#[UInt8.ofNat k]⟩) (w : World) :
    (convert 22 9 (.slice (some ⟨w.heap.size, 0, none⟩) 1 1)).run Tryz.prog (w.alloc (.cells #[.int .u8 d] 5)) = .ok (.string tx) (w.alloc (.cells #[.int .u8 d] 5)) := by
  subst hd htx
  have q := run_convert_bytes_back (P := Tryz.prog) (w.alloc (.cells #[.int .u8 (k : Int)] 5)) 22 9 5 ⟨w.heap.size, 0, none⟩ 1 [UInt8.ofNat k] Tryz.underlying22 Tryz.underlying5 Tryz.underlying9 (fun j hj => by
    obtain rfl : j = 0 := by simp at hj; omega
    rw [addr_add, World.cell?_alloc_mark]
    simp
    omega)
  exact q
theorem conv2 {d : Int} {k b : Nat} {tx : ByteArray} (hd : d = (k : Int)) (hk : k < 256) (htx : tx = ⟨#[UInt8.ofNat k]⟩) (w : World) (hc : w.cell? ⟨b, 0, none⟩ = some (.int .u8 d)) :
    (convert 22 9 (.slice (some ⟨b, 0, none⟩) 1 1)).run Tryz.prog w = .ok (.string tx) w := by
  subst hd htx
  have q := run_convert_bytes_back (P := Tryz.prog) w 22 9 5 ⟨b, 0, none⟩ 1 [UInt8.ofNat k] Tryz.underlying22 Tryz.underlying5 Tryz.underlying9 (fun j hj => by
    obtain rfl : j = 0 := by simp at hj; omega
    rw [addr_add, hc]
    simp
    omega)
  exact q
set_option linter.unusedSimpArgs false in
set_option maxRecDepth 100000 in
set_option maxHeartbeats 2000000 in
theorem digits_small (n : Int) (w : World) (h0 : 0 ≤ n) (hn : n < 10) : Calls Tryz.prog 19 #[.int .i64 n] w fun e w' => e = .returned (.string (itT n)) ∧ Below w.heap.size w w' := by
  have hw : IntKind.i64.wrap (48 + n) = 48 + n := IntWalk.i64_in _ (by omega)
  have hw2 : IntKind.u8.wrap (48 + n) = 48 + n := IntWalk.u8_in _ (by omega)
  have hcv := conv1 (d := 48 + n) (k := 48 + n.toNat) (by omega) (by omega) (itT_small h0 hn)
  go_enter Tryz.func19, Tryz.ntmps19
  go_wp2_with fail
  go_ret
  exact ⟨rfl, below_all _ _⟩
set_option linter.unusedSimpArgs false in
set_option maxRecDepth 100000 in
set_option maxHeartbeats 2000000 in
theorem digits_any : ∀ (k : Nat) (n : Int) (w : World), n.toNat ≤ k → 0 ≤ n → n ≤ 1000000 → Calls Tryz.prog 19 #[.int .i64 n] w fun e w' => e = .returned (.string (itT n)) ∧ Below w.heap.size w w' := by
  intro k
  induction k with
  | zero =>
    intro n w hk h0 h1
    exact digits_small n w h0 (by omega)
  | succ k ih =>
    intro n w hk h0 h1
    by_cases hn : n < 10
    · exact digits_small n w h0 hn
    · have hn2 : ¬ n < 10 := hn
      have hq : n.tdiv 10 = n / 10 := by rw [Int.tdiv_eq_ediv_of_nonneg h0]
      have hm : n.tmod 10 = n % 10 := by rw [Int.tmod_eq_emod_of_nonneg h0]
      have hw0 : IntKind.i64.wrap (n / 10) = n / 10 := IntWalk.i64_in _ (by omega)
      have hw : IntKind.i64.wrap (48 + n % 10) = 48 + n % 10 := IntWalk.i64_in _ (by omega)
      have hw2 : IntKind.u8.wrap (48 + n % 10) = 48 + n % 10 := IntWalk.u8_in _ (by omega)
      have HBd : Hid (Below w.heap.size w w.drew) := (Below.refl _ _).drew
      have hsz : ¬ 9223372036854775807 < (itT (n / 10)).size + (dg1 n).size := by
        have := itT_size (n / 10) (by omega) (by omega)
        have h1 : (dg1 n).size = 1 := rfl
        omega
      have HIH : Hid (∀ W, Calls Tryz.prog 19 #[.int .i64 (n / 10)] W fun e w' => e = .returned (.string (itT (n / 10))) ∧ Below W.heap.size W w') := fun W => ih (n / 10) W (by omega) (by omega) (by omega)
      go_enter Tryz.func19, Tryz.ntmps19
      go_wp2_with fail
      refine wp_region_held_drew (S := fun W => w.heap.size ≤ W.heap.size) (by kernel_rfl) HBd.out.size (fun hHeld => ?_)
      refine wpAnyH_take (i := 0) (oi := ?_) (v := ?_) ?_ (by kernel_rfl) (by kernel_rfl) (by kernel_rfl) ?_ ?_ (by assumption) ?_
      rotate_left 2
      · simp only [List.getElem?_toArray, List.getElem?_cons_succ, List.getElem?_cons_zero]; rfl
      · exact fun _ _ _ h => h
      · first
          | (refine Or.inr ⟨?_, ?_⟩ <;> rfl)
          | (refine Or.inl ⟨?_, ?_⟩; · rfl
             intro w hSw; (try dsimp only at hSw); go_simp; (try with_reducible rfl); done)
      try simp only [Act.put, List.setIfInBounds_toArray, List.set_cons_zero, List.set_cons_succ]
      refine wpAnyH_take (i := 1) (oi := ?_) (v := ?_) ?_ (by kernel_rfl) (by kernel_rfl) (by kernel_rfl) ?_ ?_ (by assumption) ?_
      rotate_left 2
      · simp only [List.getElem?_toArray, List.getElem?_cons_succ, List.getElem?_cons_zero]; rfl
      · exact fun _ _ _ h => h
      · first
          | (refine Or.inr ⟨?_, ?_⟩ <;> rfl)
          | (refine Or.inl ⟨?_, ?_⟩; · rfl
             intro w hSw; (try dsimp only at hSw); go_simp; (try with_reducible rfl); done)
      try simp only [Act.put, List.setIfInBounds_toArray, List.set_cons_zero, List.set_cons_succ]
      refine wpAnyH_take (i := 3) (oi := ?_) (v := ?_) ?_ (by kernel_rfl) (by kernel_rfl) (by kernel_rfl) ?_ ?_ (by assumption) ?_
      rotate_left 2
      · simp only [List.getElem?_toArray, List.getElem?_cons_succ, List.getElem?_cons_zero]; rfl
      · exact fun _ _ _ h => h
      · first
          | (refine Or.inr ⟨?_, ?_⟩ <;> rfl)
          | (refine Or.inl ⟨?_, ?_⟩; · rfl
             intro w hSw; (try dsimp only at hSw); go_simp; (try with_reducible rfl); done)
      try simp only [Act.put, List.setIfInBounds_toArray, List.set_cons_zero, List.set_cons_succ]
      refine wpAnyH_take (i := 4) (oi := ?_) (v := ?_) ?_ (by kernel_rfl) (by kernel_rfl) (by kernel_rfl) ?_ ?_ (by assumption) ?_
      rotate_left 2
      · simp only [List.getElem?_toArray, List.getElem?_cons_succ, List.getElem?_cons_zero]; rfl
      · exact fun _ _ _ h => h
      · first
          | (refine Or.inr ⟨?_, ?_⟩ <;> rfl)
          | (refine Or.inl ⟨?_, ?_⟩; · rfl
             intro w hSw; (try dsimp only at hSw); go_simp; (try with_reducible rfl); done)
      try simp only [Act.put, List.setIfInBounds_toArray, List.set_cons_zero, List.set_cons_succ]
      refine wpAnyH_take (i := 5) (oi := ?_) (v := ?_) ?_ (by kernel_rfl) (by kernel_rfl) (by kernel_rfl) ?_ ?_ (by assumption) ?_
      rotate_left 2
      · simp only [List.getElem?_toArray, List.getElem?_cons_succ, List.getElem?_cons_zero]; rfl
      · exact fun _ _ _ h => h
      · first
          | (refine Or.inr ⟨?_, ?_⟩ <;> rfl)
          | (refine Or.inl ⟨?_, ?_⟩; · rfl
             intro w hSw; (try dsimp only at hSw); go_simp; (try with_reducible rfl); done)
      try simp only [Act.put, List.setIfInBounds_toArray, List.set_cons_zero, List.set_cons_succ]
      refine wpAnyH_take (i := 6) (oi := ?_) (v := ?_) ?_ (by kernel_rfl) (by kernel_rfl) (by kernel_rfl) ?_ ?_ (by assumption) ?_
      rotate_left 2
      · simp only [List.getElem?_toArray, List.getElem?_cons_succ, List.getElem?_cons_zero]; rfl
      · exact fun _ _ _ h => h
      · first
          | (refine Or.inr ⟨?_, ?_⟩ <;> rfl)
          | (refine Or.inl ⟨?_, ?_⟩; · rfl
             intro w hSw; (try dsimp only at hSw); go_simp; (try with_reducible rfl); done)
      try simp only [Act.put, List.setIfInBounds_toArray, List.set_cons_zero, List.set_cons_succ]
      refine wpAnyH_ready (rs := [2, 7]) (by kernel_rfl) (by simp) ?_
      refine AllReadyH.cons (o := ?_) ?_ (fun K hK => ?_) ?_
      rotate_left 1
      · simp only [List.getElem?_toArray, List.getElem?_cons_succ, List.getElem?_cons_zero]; rfl
      · go_simp
        go_at_call 19
        go_must (refine Calls.mono (HIH.out _) ?_)
        rintro e w1 ⟨rfl, hb1⟩
        have HB1 : Hid (Below w.heap.size w w1) := HBd.out.trans (hb1.mono HBd.out.size)
        refine hK.out _ _ ?_ (fun hHeld => ?_)
        · try dsimp only
          exact HB1.out.size
        clear hK K
        try simp only [Act.put, List.setIfInBounds_toArray, List.set_cons_zero, List.set_cons_succ]
        refine wpAnyH_ready (rs := [7]) (by kernel_rfl) (by simp) ?_
        refine AllReadyH.cons (o := ?_) ?_ (fun K hK => ?_) AllReadyH.nil
        rotate_left 1
        · simp only [List.getElem?_toArray, List.getElem?_cons_succ, List.getElem?_cons_zero]; rfl
        go_simp
        skip
        refine hK.out _ _ ?_ (fun hHeld => ?_)
        · try dsimp only
          exact (HB1.out.alloc HB1.out.size _).size
        clear hK K
        try simp only [Act.put, List.setIfInBounds_toArray, List.set_cons_zero, List.set_cons_succ]
        have hcv1 := conv1 (d := 48 + n % 10) (k := 48 + n.toNat % 10) (tx := dg1 n) (by omega) (by omega) rfl w1
        refine wpAnyH_ready (rs := [8]) (by kernel_rfl) (by simp) ?_
        refine AllReadyH.cons (o := ?_) ?_ (fun K hK => ?_) AllReadyH.nil
        rotate_left 1
        · simp only [List.getElem?_toArray, List.getElem?_cons_succ, List.getElem?_cons_zero]; rfl
        go_simp
        skip
        refine hK.out _ _ ?_ (fun hHeld => ?_)
        · try dsimp only
          exact (HB1.out.alloc HB1.out.size _).size
        clear hK K
        try simp only [Act.put, List.setIfInBounds_toArray, List.set_cons_zero, List.set_cons_succ]
        clear hcv1
        refine wpAnyH_take (i := 9) (oi := ?_) (v := ?_) ?_ (by kernel_rfl) (by kernel_rfl) (by kernel_rfl) ?_ ?_ (by assumption) ?_
        rotate_left 2
        · simp only [List.getElem?_toArray, List.getElem?_cons_succ, List.getElem?_cons_zero]; rfl
        · exact fun _ _ _ h => h
        · first
            | (refine Or.inr ⟨?_, ?_⟩ <;> rfl)
            | (refine Or.inl ⟨?_, ?_⟩; · rfl
               intro w hSw; (try dsimp only at hSw); go_simp; (try with_reducible rfl); done)
        try simp only [Act.put, List.setIfInBounds_toArray, List.set_cons_zero, List.set_cons_succ]
        refine wpAnyH_take (i := 10) (oi := ?_) (v := ?_) ?_ (by kernel_rfl) (by kernel_rfl) (by kernel_rfl) ?_ ?_ (by assumption) ?_
        rotate_left 2
        · simp only [List.getElem?_toArray, List.getElem?_cons_succ, List.getElem?_cons_zero]; rfl
        · exact fun _ _ _ h => h
        · first
            | (refine Or.inr ⟨?_, ?_⟩ <;> rfl)
            | (refine Or.inl ⟨?_, ?_⟩; · rfl
               intro w hSw; (try dsimp only at hSw); go_simp; (try with_reducible rfl); done)
        try simp only [Act.put, List.setIfInBounds_toArray, List.set_cons_zero, List.set_cons_succ]
        refine wpAnyH_done (by kernel_rfl) ?_ _
        clear hHeld
        go_wp2_with fail
        go_ret
        exact ⟨by rw [itT_big (n := n) (by omega)]; rfl, HB1.out.alloc HB1.out.size _⟩
      · refine AllReadyH.cons (o := ?_) ?_ (fun K hK => ?_) ?_
        rotate_left 1
        · simp only [List.getElem?_toArray, List.getElem?_cons_succ, List.getElem?_cons_zero]; rfl
        · have HBA : Hid (Below w.heap.size w (w.drew.alloc (.cells #[.int .u8 (48 + n % 10)] 5))) := HBd.out.alloc HBd.out.size _
          have HXA : Hid (Bx (w.drew.alloc (.cells #[.int .u8 (48 + n % 10)] 5)) w.heap.size 5 #[.int .u8 (48 + n % 10)]) := Bx.newAt rfl
          go_simp
          skip
          refine hK.out _ _ ?_ (fun hHeld => ?_)
          · try dsimp only
            exact HBA.out.size
          clear hK K
          try simp only [Act.put, List.setIfInBounds_toArray, List.set_cons_zero, List.set_cons_succ]
          refine wpAnyH_ready (rs := [2, 8]) (by kernel_rfl) (by simp) ?_
          refine AllReadyH.cons (o := ?_) ?_ (fun K hK => ?_) ?_
          rotate_left 1
          · simp only [List.getElem?_toArray, List.getElem?_cons_succ, List.getElem?_cons_zero]; rfl
          · go_simp
            go_at_call 19
            go_must (refine Calls.mono (HIH.out _) ?_)
            rintro e w1 ⟨rfl, hb1⟩
            have HB1 : Hid (Below w.heap.size w w1) := HBA.out.trans (hb1.mono HBA.out.size)
            have hcv1 := conv2 (d := 48 + n % 10) (k := 48 + n.toNat % 10) (tx := dg1 n) (b := w.heap.size) (by omega) (by omega) rfl w1 ((HXA.out.below hb1 HXA.out.lt).cell 0)
            refine hK.out _ _ ?_ (fun hHeld => ?_)
            · try dsimp only
              exact HB1.out.size
            clear hK K
            try simp only [Act.put, List.setIfInBounds_toArray, List.set_cons_zero, List.set_cons_succ]
            refine wpAnyH_ready (rs := [8]) (by kernel_rfl) (by simp) ?_
            refine AllReadyH.cons (o := ?_) ?_ (fun K hK => ?_) AllReadyH.nil
            rotate_left 1
            · simp only [List.getElem?_toArray, List.getElem?_cons_succ, List.getElem?_cons_zero]; rfl
            go_simp
            skip
            refine hK.out _ _ ?_ (fun hHeld => ?_)
            · try dsimp only
              exact HB1.out.size
            clear hK K
            try simp only [Act.put, List.setIfInBounds_toArray, List.set_cons_zero, List.set_cons_succ]
            clear hcv1
            refine wpAnyH_take (i := 9) (oi := ?_) (v := ?_) ?_ (by kernel_rfl) (by kernel_rfl) (by kernel_rfl) ?_ ?_ (by assumption) ?_
            rotate_left 2
            · simp only [List.getElem?_toArray, List.getElem?_cons_succ, List.getElem?_cons_zero]; rfl
            · exact fun _ _ _ h => h
            · first
                | (refine Or.inr ⟨?_, ?_⟩ <;> rfl)
                | (refine Or.inl ⟨?_, ?_⟩; · rfl
                   intro w hSw; (try dsimp only at hSw); go_simp; (try with_reducible rfl); done)
            try simp only [Act.put, List.setIfInBounds_toArray, List.set_cons_zero, List.set_cons_succ]
            refine wpAnyH_take (i := 10) (oi := ?_) (v := ?_) ?_ (by kernel_rfl) (by kernel_rfl) (by kernel_rfl) ?_ ?_ (by assumption) ?_
            rotate_left 2
            · simp only [List.getElem?_toArray, List.getElem?_cons_succ, List.getElem?_cons_zero]; rfl
            · exact fun _ _ _ h => h
            · first
                | (refine Or.inr ⟨?_, ?_⟩ <;> rfl)
                | (refine Or.inl ⟨?_, ?_⟩; · rfl
                   intro w hSw; (try dsimp only at hSw); go_simp; (try with_reducible rfl); done)
            try simp only [Act.put, List.setIfInBounds_toArray, List.set_cons_zero, List.set_cons_succ]
            refine wpAnyH_done (by kernel_rfl) ?_ _
            clear hHeld
            go_wp2_with fail
            go_ret
            exact ⟨by rw [itT_big (n := n) (by omega)]; rfl, HB1.out⟩
          · refine AllReadyH.cons (o := ?_) ?_ (fun K hK => ?_) ?_
            rotate_left 1
            · simp only [List.getElem?_toArray, List.getElem?_cons_succ, List.getElem?_cons_zero]; rfl
            · have hcv1 : (convert 22 9 (.slice (some ⟨w.heap.size, 0, none⟩) 1 1)).run Tryz.prog (w.alloc (.cells #[.int .u8 (48 + n % 10)] 5)).drew = .ok (.string (dg1 n)) (w.alloc (.cells #[.int .u8 (48 + n % 10)] 5)).drew := conv2 (d := 48 + n % 10) (k := 48 + n.toNat % 10) (tx := dg1 n) (b := w.heap.size) (by omega) (by omega) rfl _ (HXA.out.cell 0)
              go_simp
              skip
              refine hK.out _ _ ?_ (fun hHeld => ?_)
              · try dsimp only
                exact HBA.out.size
              clear hK K
              try simp only [Act.put, List.setIfInBounds_toArray, List.set_cons_zero, List.set_cons_succ]
              clear hcv1
              refine wpAnyH_ready (rs := [2]) (by kernel_rfl) (by simp) ?_
              refine AllReadyH.cons (o := ?_) ?_ (fun K hK => ?_) AllReadyH.nil
              rotate_left 1
              · simp only [List.getElem?_toArray, List.getElem?_cons_succ, List.getElem?_cons_zero]; rfl
              go_simp
              go_at_call 19
              go_must (refine Calls.mono (HIH.out _) ?_)
              rintro e w1 ⟨rfl, hb1⟩
              have HB1 : Hid (Below w.heap.size w w1) := HBA.out.trans (hb1.mono HBA.out.size)
              refine hK.out _ _ ?_ (fun hHeld => ?_)
              · try dsimp only
                exact HB1.out.size
              clear hK K
              try simp only [Act.put, List.setIfInBounds_toArray, List.set_cons_zero, List.set_cons_succ]
              refine wpAnyH_take (i := 9) (oi := ?_) (v := ?_) ?_ (by kernel_rfl) (by kernel_rfl) (by kernel_rfl) ?_ ?_ (by assumption) ?_
              rotate_left 2
              · simp only [List.getElem?_toArray, List.getElem?_cons_succ, List.getElem?_cons_zero]; rfl
              · exact fun _ _ _ h => h
              · first
                  | (refine Or.inr ⟨?_, ?_⟩ <;> rfl)
                  | (refine Or.inl ⟨?_, ?_⟩; · rfl
                     intro w hSw; (try dsimp only at hSw); go_simp; (try with_reducible rfl); done)
              try simp only [Act.put, List.setIfInBounds_toArray, List.set_cons_zero, List.set_cons_succ]
              refine wpAnyH_take (i := 10) (oi := ?_) (v := ?_) ?_ (by kernel_rfl) (by kernel_rfl) (by kernel_rfl) ?_ ?_ (by assumption) ?_
              rotate_left 2
              · simp only [List.getElem?_toArray, List.getElem?_cons_succ, List.getElem?_cons_zero]; rfl
              · exact fun _ _ _ h => h
              · first
                  | (refine Or.inr ⟨?_, ?_⟩ <;> rfl)
                  | (refine Or.inl ⟨?_, ?_⟩; · rfl
                     intro w hSw; (try dsimp only at hSw); go_simp; (try with_reducible rfl); done)
              try simp only [Act.put, List.setIfInBounds_toArray, List.set_cons_zero, List.set_cons_succ]
              refine wpAnyH_done (by kernel_rfl) ?_ _
              clear hHeld
              go_wp2_with fail
              go_ret
              exact ⟨by rw [itT_big (n := n) (by omega)]; rfl, HB1.out⟩
            · exact AllReadyH.nil
        · exact AllReadyH.nil
theorem digits_val (n : Int) (w : World) (h0 : 0 ≤ n) (h1 : n ≤ 1000000) : Calls Tryz.prog 19 #[.int .i64 n] w fun e w' => e = .returned (.string (itT n)) ∧ Below w.heap.size w w' := digits_any n.toNat n w (Nat.le_refl _) h0 h1
/-- how often a byte stands in a text, before a place -/
def ctF (t : ByteArray) (c : UInt8) (i : Nat) : Nat := (t.data.toList.take i).count c
theorem ctF_succ (t : ByteArray) (c : UInt8) (j : Nat) (h : j < t.size) : ctF t c (j + 1) = ctF t c j + if t[j] = c then 1 else 0 := by
  have hl : j < t.data.toList.length := by simpa using h
  unfold ctF
  rw [List.take_succ_eq_append_getElem hl, List.count_append]
  congr 1
  show List.count c [t[j]] = _
  by_cases e : t[j] = c
  · simp [e]
  · simp [e]
theorem ctF_le (t : ByteArray) (c : UInt8) (j : Nat) : ctF t c j ≤ j := by
  unfold ctF
  exact Nat.le_trans List.count_le_length (by rw [List.length_take]; omega)
set_option linter.unusedSimpArgs false in
theorem countOf_any (t : ByteArray) (c : UInt8) (w : World) (hn : t.size ≤ 1000000000) :
    Calls Tryz.prog 29 #[.string t, .int .u8 (c.toNat : Int)] w fun e w' => e = .returned (.int .i64 (t.data.toList.count c)) ∧ w = w' := by
  go_enter Tryz.func29, Tryz.ntmps29
  go_wp2_with fail
  go_loopw [5, 6] (fun o i wr => ∃ j : Nat, j ≤ t.size ∧ i = .int .i64 j ∧ o = .int .i64 (ctF t c j) ∧ w = wr) (fun _ i _ => t.size - (intOf i).toNat)
  case atStart => exact ⟨0, Nat.zero_le _, rfl, rfl, rfl⟩
  case round =>
    obtain ⟨j, hj, rfl, rfl, rfl⟩ := hrel
    by_cases hlt : j < t.size
    · have hji : (j : Int) < (t.size : Int) := by omega
      have hs := ctF_succ t c j hlt
      have hle := ctF_le t c j
      by_cases he : t[j] = c
      · have hb : ((t[j].toNat : Int) == (c.toNat : Int)) = true := by rw [he]; exact beq_iff_eq.2 rfl
        rw [if_pos he] at hs
        have HS := Lib.hid hs
        clear hs he
        have hw : IntKind.i64.wrap ((ctF t c j : Int) + 1) = (ctF t c j : Int) + 1 := IntWalk.i64_in _ (by omega)
        go_wp2_with fail
        go_roundw
        case rel => exact ⟨j + 1, by omega, by go_num, by rw [HS.out]; go_num, trivial⟩
        case measure => simp [intOf]; omega
      · have hb : ((t[j].toNat : Int) == (c.toNat : Int)) = false := beq_eq_false_iff_ne.2 (fun e => he (UInt8.toNat_inj.1 (by omega)))
        rw [if_neg he, Nat.add_zero] at hs
        have HS := Lib.hid hs
        clear hs he
        go_wp2_with fail
        go_roundw
        case rel => exact ⟨j + 1, by omega, by go_num, by rw [HS.out]; rfl, trivial⟩
        case measure => simp [intOf]; omega
    · obtain rfl : j = t.size := by omega
      have hc : ctF t c t.size = t.data.toList.count c := by unfold ctF; rw [List.take_of_length_le (by simp)]
      have HC := Lib.hid hc
      clear hc
      go_wp2_with fail
      go_ret
      exact ⟨by rw [← HC.out]; rfl, rfl⟩
theorem itT_size100 {n : Int} (h0 : 0 ≤ n) (h1 : n ≤ 1000000) : (itT n).size ≤ 21 := itT_size n (by omega) (by omega)
theorem exT_it (a b : Nat) : exT a b = ⟨#[116, 114, 97, 105, 110, 115, 32]⟩ ++ itT a ++ ⟨#[32, 112, 97, 116, 104, 115, 32]⟩ ++ itT b ++ ⟨#[10]⟩ := by
  unfold exT itT
  rw [Lib.itoa_nonneg, Lib.itoa_nonneg]
set_option linter.unusedSimpArgs false in
theorem endLine_any (a b : Nat) (w : World) (ha : a ≤ 1000000) (hb : b ≤ 1000000) :
    Calls Tryz.prog 21 #[.int .i64 a, .int .i64 b] w fun e w' => e = .returned (.string (exT a b)) ∧ Below w.heap.size w w' := by
  have HE := Lib.hid (exT_it a b)
  have hsa := itT_size100 (n := a) (by omega) (by omega)
  have hsb := itT_size100 (n := b) (by omega) (by omega)
  have HDA : Hid (∀ W, Calls Tryz.prog 19 #[.int .i64 a] W fun e w' => e = .returned (.string (itT a)) ∧ Below W.heap.size W w') := fun W => digits_val a W (by omega) (by omega)
  have HDB : Hid (∀ W, Calls Tryz.prog 19 #[.int .i64 b] W fun e w' => e = .returned (.string (itT b)) ∧ Below W.heap.size W w') := fun W => digits_val b W (by omega) (by omega)
  generalize itT a = ta at *
  generalize itT b = tb at *
  have hz1 : ¬ 9223372036854775807 < (⟨#[116, 114, 97, 105, 110, 115, 32]⟩ : ByteArray).size + ta.size := by have : (⟨#[116, 114, 97, 105, 110, 115, 32]⟩ : ByteArray).size = 7 := rfl; omega
  go_enter Tryz.func21, Tryz.ntmps21
  go_wp2_with fail
  refine (HDA.out _).mono ?_
  rintro e w1 ⟨rfl, hb1⟩
  go_wp2_with fail
  refine (HDB.out _).mono ?_
  rintro e w2 ⟨rfl, hb2⟩
  go_wp2_with fail
  go_ret
  exact ⟨by rw [HE.out]; rfl, hb1.trans (hb2.mono hb1.size)⟩
end Go.Proofs.YtlkdmpfifpkpaaaGreatDoor
namespace Go.Proofs.YtlkdmpfifpkpaaaGreatDoor
open Go.RowKit

theorem drawLegal_any (ao : Option Addr) (n c : Nat) (w : World) (hnc : n ≤ c) (hn : n ≤ 9223372036854775807) (hB : BSl w ao n) :
    Calls Tryz.prog 26 #[.slice ao n c] w fun e w' => (∃ t : ByteArray, e = .returned (.string t) ∧ t.size ≤ 33) ∧ Below w.heap.size w w' := by
  go_enter Tryz.func26, Tryz.ntmps26
  go_wp2_with fail
  refine (open_any ao n c _ hn hnc hB).mono ?_
  rintro e w1 ⟨R, rfl, hR, hr, hb1⟩
  go_wp2_with fail
  refine (l91Legal_any R 0 _ (by omega) hr).mono ?_
  rintro e w2 ⟨⟨t, rfl, ht⟩, _, hg⟩
  have HB := Lib.hid (hb1.trans (below_of_grown hg hR hb1.size))
  go_wp2_with fail
  go_ret
  exact ⟨⟨t, rfl, ht⟩, HB.out⟩
/-- the script, what it says, the register's text, behind some letters -/
def scF (l : List UInt8) : ByteArray := ⟨(lnsB ((bkL l).map (·.1.data.toList))).toArray⟩
def duF (l : List UInt8) : ByteArray := ⟨(sayL (bkL l)).toArray⟩
def noF (l : List UInt8) : ByteArray := jnT (bkW (nt l)) l.length
theorem scF_snoc (l : List UInt8) (c : UInt8) : scF (l ++ [c]) = scF l ++ ⟨#[119, 97, 105, 116, 32, 50, 10, 100, 111, 32, 48, 32]⟩ ++ chr c ++ ⟨#[10]⟩ := by
  refine ba_ext ?_
  unfold scF
  rw [bkL_snoc]
  simp [lnsB, chr, wT, dT]
theorem duF_snoc (l : List UInt8) (c : UInt8) : duF (l ++ [c]) = duF l ++ ⟨#[111, 107, 10, 111, 107, 10]⟩ := by
  refine ba_ext ?_
  unfold duF
  rw [bkL_snoc]
  simp [sayL, lnsB, okT]
theorem join_snoc (xs : List (List UInt8)) (y : List UInt8) (h : xs ≠ []) : Lib.join (xs ++ [y]) [32] = Lib.join xs [32] ++ 32 :: y := by
  cases xs with
  | nil => exact absurd rfl h
  | cons x r =>
    rw [List.cons_append, Lib.join_cons, Lib.join_cons]
    simp [Lib.joinTail]
theorem jn_snoc (tx : Nat → ByteArray) (n : Nat) (h : 0 < n) : (jnT tx (n + 1)).data.toList = (jnT tx n).data.toList ++ 32 :: (tx n).data.toList := by
  unfold jnT
  show (Lib.join _ [32]).toArray.toList = (Lib.join _ [32]).toArray.toList ++ _
  rw [List.range_succ, List.map_append, List.map_cons, List.map_nil, List.toList_toArray, List.toList_toArray, join_snoc _ _ (by
    intro e
    have := congrArg List.length e
    simp at this
    omega)]
theorem jn_congr {tx ty : Nat → ByteArray} {n : Nat} (h : ∀ i, i < n → tx i = ty i) : jnT tx n = jnT ty n := by
  unfold jnT
  have : ((List.range n).map fun i => (tx i).data.toList) = ((List.range n).map fun i => (ty i).data.toList) := List.map_congr_left (fun i hi => by rw [h i (by simpa using hi)])
  rw [this]
theorem bkW_old (l : List UInt8) (c : UInt8) : ∀ i, i < l.length → bkW (nt (l ++ [c])) i = bkW (nt l) i := fun i hi => by
  unfold bkW
  rw [nt_snoc, (nM_old (by rw [nt_len]; exact hi)).1, (nM_old (by rw [nt_len]; exact hi)).2]
theorem bkW_last (l : List UInt8) (c : UInt8) : bkW (nt (l ++ [c])) l.length = itT (2 * (l.length : Int) + 2) ++ chr c := by
  have h := nt_nM (l := l ++ [c]) (i := l.length) (by simp)
  unfold bkW
  rw [h.1, h.2, show 2 * ((l.length : Int) + 1) = 2 * (l.length : Int) + 2 by omega]
  simp
theorem noF_one (c : UInt8) : noF ([] ++ [c]) = noF [] ++ itT 2 ++ chr c := by
  have h := bkW_last [] c
  refine ba_ext ?_
  have h2 : (noF ([] ++ [c])).data.toList = (bkW (nt ([] ++ [c])) 0).data.toList := by
    unfold noF jnT
    show (Lib.join [_] [32]).toArray.toList = _
    rw [Lib.join_one, List.toList_toArray]
  rw [h2]
  refine (congrArg (fun q : ByteArray => q.data.toList) h).trans ?_
  show (itT 2 ++ chr c).data.toList = _
  have h3 : noF [] = ⟨#[]⟩ := rfl
  rw [h3]
  simp
theorem noF_snoc (l : List UInt8) (c : UInt8) (h : l ≠ []) : noF (l ++ [c]) = noF l ++ ⟨#[32]⟩ ++ itT (2 * (l.length : Int) + 2) ++ chr c := by
  refine ba_ext ?_
  have hl : 0 < l.length := List.length_pos_iff.2 h
  unfold noF
  rw [show (l ++ [c]).length = l.length + 1 by simp, jn_snoc _ _ hl, bkW_last, jn_congr (bkW_old l c)]
  simp
theorem lg_run {t : ByteArray} (h : lgB t = true) : t.size ≤ 30 ∧ rnS 0 t.data.toList < 5 := by
  have h1 : brJ 0 false false t < 5 := of_decide_eq_true h
  rcases Nat.lt_or_ge 30 t.size with h2 | h2
  · rw [brJ_long (by omega)] at h1
    omega
  · rw [brJ_yes h2] at h1
    exact ⟨h2, h1⟩
end Go.Proofs.YtlkdmpfifpkpaaaGreatDoor
namespace Go.Proofs.YtlkdmpfifpkpaaaGreatDoor
open Go.RowKit

theorem chr_size (c : UInt8) : (chr c).size = 1 := rfl
theorem scF_sz : ∀ l : List UInt8, (scF l).size = 9 + 14 * l.length :=
  snoc_ind rfl fun l c ih => by
    rw [scF_snoc, ByteArray.size_append, ByteArray.size_append, ByteArray.size_append, ih, chr_size, List.length_append]
    show 9 + 14 * l.length + 12 + 1 + 1 = 9 + 14 * (l.length + 1)
    omega
theorem duF_sz : ∀ l : List UInt8, (duF l).size = 3 + 6 * l.length :=
  snoc_ind rfl fun l c ih => by
    rw [duF_snoc, ByteArray.size_append, ih, List.length_append]
    show 3 + 6 * l.length + 6 = 3 + 6 * (l.length + 1)
    omega
theorem noF_sz : ∀ l : List UInt8, l.length ≤ 1000 → (noF l).size ≤ 24 * l.length :=
  snoc_ind (fun _ => Nat.zero_le _) fun l c ih h => by
    rw [List.length_append] at h ⊢
    simp only [List.length_cons, List.length_nil] at h ⊢
    have h1 := ih (by omega)
    have h2 := itT_size100 (n := 2 * (l.length : Int) + 2) (by omega) (by omega)
    by_cases e : l = []
    · subst e
      have h3 := itT_size100 (n := 2) (by omega) (by omega)
      rw [noF_one, ByteArray.size_append, ByteArray.size_append, chr_size]
      have h4 : (noF []).size = 0 := rfl
      rw [h4]
      simp
      omega
    · rw [noF_snoc l c e, ByteArray.size_append, ByteArray.size_append, ByteArray.size_append, chr_size]
      show (noF l).size + 1 + _ + 1 ≤ _
      omega
theorem ext_chr {t : ByteArray} {j : Nat} (h : j < t.size) : t.extract j (j + 1) = chr t[j] ∧ t.data.toList.take (j + 1) = t.data.toList.take j ++ [t[j]] := by
  have hl : j < t.data.toList.length := by simpa using h
  have h2 : t.data.toList.take (j + 1) = t.data.toList.take j ++ [t[j]] := List.take_succ_eq_append_getElem hl
  refine ⟨ba_ext ?_, h2⟩
  rw [ext_list, h2]
  have h3 : (t.data.toList.take j).length = j := by rw [List.length_take]; omega
  conv => lhs; arg 1; rw [← h3]
  rw [List.drop_left]
  rfl
theorem Lgl.ev {l : List UInt8} (h : Lgl l) : ∀ c, c ∈ l → c ∈ evL := fun c hc => by
  obtain ⟨a, b, rfl⟩ := List.append_of_mem hc
  rw [show a ++ c :: b = (a ++ [c]) ++ b by simp] at h
  exact h.pre.last.1
theorem exec_book {l : List UInt8} (h : Lgl l) (m : Int) (w : World) (hW : WF m w) :
    Calls Tryz.prog 11 #[.string (scF l ++ ⟨#[98, 111, 111, 107, 32, 48, 10]⟩)] w fun e w' => e = .returned (.string (duF l ++ noF l ++ ⟨#[10]⟩ ++ exT 1 0)) ∧ Below w.heap.size w w' := by
  obtain ⟨h1, h2⟩ := bk_run l h
  have hv := h.ev
  have hlen := h.len
  have hs : Stp ses0 (bkL l ++ [(bT, noF l)]) (bkS l) := h2.app (Stp.one (bk_book h hv))
  have hns := noF_sz l (by omega)
  have hm : (bkS l).x.m = 1 := h1.m1
  have q := execute_stp (scF l ++ ⟨#[98, 111, 111, 107, 32, 48, 10]⟩) m w _ _ (by
      rw [ByteArray.size_append, scF_sz]
      show 9 + 14 * l.length + 7 ≤ 500
      omega) hW (by simp [scF, lnsB, bT]) (fun y hy => by
      rcases List.mem_append.1 hy with hy | hy
      · rcases List.mem_cons.1 hy with rfl | hy
        · decide
        · obtain ⟨c, hc, hy⟩ := List.mem_flatMap.1 hy
          have hce := hv c hc
          rcases List.mem_cons.1 hy with rfl | hy
          · decide
          · rw [List.mem_singleton] at hy
            subst hy
            show (10 : UInt8) ∉ [100, 111, 32, 48, 32, c]
            simp
            intro e
            subst e
            exact absurd hce (by decide)
      · rw [List.mem_singleton] at hy
        subst hy
        show (10 : UInt8) ∉ bT.data.toList
        decide) (fun y hy => by
      rcases List.mem_append.1 hy with hy | hy
      · rcases List.mem_cons.1 hy with rfl | hy
        · decide
        · obtain ⟨c, hc, hy⟩ := List.mem_flatMap.1 hy
          rcases List.mem_cons.1 hy with rfl | hy
          · decide
          · rw [List.mem_singleton] at hy
            subst hy
            show okT.size ≤ 1000000
            decide
      · rw [List.mem_singleton] at hy
        subst hy
        show (noF l).size ≤ 1000000
        omega) hs (by rw [hm]; decide) (by show (0 : Nat) < 100; decide)
  refine q.mono ?_
  rintro e w' ⟨rfl, hb⟩
  refine ⟨?_, hb⟩
  rw [hm, show (bkS l).pn = 0 from rfl]
  refine congrArg (fun z => Ending.returned (.string z)) (ba_ext ?_)
  simp [sayL, duF, lnsB]
set_option linter.unusedSimpArgs false in
set_option maxRecDepth 100000 in
set_option maxHeartbeats 4000000 in
theorem lawBook_any (m : Int) (ao : Option Addr) (n c : Nat) (w : World) (hW : WF m w) (hB : BSl w ao n) (hnc : n ≤ c) (hn : n ≤ 9223372036854775807) :
    Calls Tryz.prog 8 #[.slice ao n c] w fun e w' => e = .returned (.bool true) ∧ Below w.heap.size w w' := by
  have HBS := Lib.hid hB
  have HWF := Lib.hid hW
  clear hB hW
  by_cases hlong : 1048576 < n
  · go_enter Tryz.func8, Tryz.ntmps8
    go_wp2_with fail
    go_ret
    exact ⟨rfl, Below.refl _ _⟩
  go_enter Tryz.func8, Tryz.ntmps8
  go_wp2_with fail
  refine (drawLegal_any ao n c _ hnc hn HBS.out).mono ?_
  rintro e w1 ⟨⟨t, rfl, ht⟩, hb1⟩
  have HB1 := Lib.hid hb1
  clear hb1
  have HI : Hid (∀ W, Calls Tryz.prog 27 #[.string t] W fun e w' => e = .returned (.bool (lgB t)) ∧ Below W.heap.size W w') := fun W => implLegal_any t W
  have HS : Hid (∀ W, Calls Tryz.prog 28 #[.string t] W fun e w' => e = .returned (.bool (lgB t)) ∧ Below W.heap.size W w') := fun W => specLegal_any t W
  cases hl : lgB t
  · rw [hl] at HI HS
    clear hl
    go_wp2_with fail
    refine (HI.out _).mono ?_
    rintro e w2 ⟨rfl, hb2⟩
    have HB2 := Lib.hid (HB1.out.trans (hb2.mono HB1.out.size))
    clear hb2
    go_wp2_with fail
    refine (HS.out _).mono ?_
    rintro e w3 ⟨rfl, hb3⟩
    have HB3 := Lib.hid (HB2.out.trans (hb3.mono HB2.out.size))
    clear hb3
    go_wp2_with fail
    go_ret
    exact ⟨rfl, HB3.out⟩
  · rw [hl] at HI HS
    have HLG := Lib.hid hl
    clear hl
    go_wp2_with fail
    refine (HI.out _).mono ?_
    rintro e w2 ⟨rfl, hb2⟩
    have HB2 := Lib.hid (HB1.out.trans (hb2.mono HB1.out.size))
    clear hb2
    go_wp2_with fail
    refine (HS.out _).mono ?_
    rintro e w3 ⟨rfl, hb3⟩
    have HB3 := Lib.hid (HB2.out.trans (hb3.mono HB2.out.size))
    clear hb3
    have hrun : t.size ≤ 30 ∧ rnS 0 t.data.toList < 5 := lg_run HLG.out
    have h30 : ¬ (30 : Int) < t.size := by omega
    by_cases h12 : 12 < t.size
    · have h12i : (12 : Int) < t.size := by omega
      go_wp2_with fail
      go_ret
      exact ⟨rfl, HB3.out⟩
    have h12i : ¬ (12 : Int) < t.size := by omega
    have HCT : Hid (∀ W, Calls Tryz.prog 29 #[.string t, .int .u8 101] W fun e w' => e = .returned (.int .i64 (t.data.toList.count 101)) ∧ W = w') := fun W => countOf_any t 101 W (by omega)
    have hct : ∃ ct, ct = t.data.toList.count 101 := ⟨_, rfl⟩
    obtain ⟨ct, hct⟩ := hct
    rw [← hct] at HCT
    have HL : Hid (ct ≤ 1 → Lgl t.data.toList) := fun h => ⟨hrun.2, by simpa using (show t.size ≤ 12 by omega), by rw [← hct]; exact h⟩
    clear hct hrun
    by_cases hc1 : ct ≤ 1
    · have hc1i : ¬ (1 : Int) < (ct : Int) := by omega
      have HL := Lib.hid (HL.out hc1)
      go_wp2_with fail
      refine (HCT.out _).mono ?_
      rintro e w' ⟨rfl, rfl⟩
      go_wp2_with fail
      go_loopw [6, 7, 8, 9] (fun s d nt i wr => ∃ j : Nat, j ≤ t.size ∧ i = .int .i64 j ∧ s = .string (scF (t.data.toList.take j)) ∧ d = .string (duF (t.data.toList.take j)) ∧ nt = .string (noF (t.data.toList.take j)) ∧ Hid (Below w.heap.size w wr)) (fun _ _ _ i _ => t.size - (intOf i).toNat)
      case atStart => exact ⟨0, Nat.zero_le _, rfl, rfl, rfl, rfl, HB3⟩
      case round =>
        obtain ⟨j, hj, rfl, rfl, rfl, rfl, HBR⟩ := hrel
        by_cases hlt : j < t.size
        · have hji : (j : Int) < (t.size : Int) := by omega
          obtain ⟨hex, htk⟩ := ext_chr hlt
          have hlj : (t.data.toList.take j).length = j := by rw [List.length_take]; simp; omega
          have HSN : Hid (scF (t.data.toList.take (j + 1)) = scF (t.data.toList.take j) ++ ⟨#[119, 97, 105, 116, 32, 50, 10, 100, 111, 32, 48, 32]⟩ ++ t.extract j (j + 1) ++ ⟨#[10]⟩) := by show _ = _; rw [htk, hex]; exact scF_snoc _ _
          have HDN : Hid (duF (t.data.toList.take (j + 1)) = duF (t.data.toList.take j) ++ ⟨#[111, 107, 10, 111, 107, 10]⟩) := by show _ = _; rw [htk]; exact duF_snoc _ _
          have HNN1 : Hid (0 < j → noF (t.data.toList.take (j + 1)) = noF (t.data.toList.take j) ++ ⟨#[32]⟩ ++ itT (2 * (j : Int) + 2) ++ t.extract j (j + 1)) := fun h => by
            rw [htk, hex, noF_snoc _ _ (fun e => by rw [e] at hlj; simp at hlj; omega), hlj]
          have HNN0 : Hid (¬ 0 < j → noF (t.data.toList.take (j + 1)) = noF (t.data.toList.take j) ++ itT (2 * (j : Int) + 2) ++ t.extract j (j + 1)) := fun h => by
            obtain rfl : j = 0 := by omega
            rw [htk, hex]
            exact noF_one _
          have hss : (scF (t.data.toList.take j)).size ≤ 200 := by rw [scF_sz, hlj]; omega
          have hds : (duF (t.data.toList.take j)).size ≤ 200 := by rw [duF_sz, hlj]; omega
          have hns : (noF (t.data.toList.take j)).size ≤ 1000 := by have := noF_sz (t.data.toList.take j) (by omega); omega
          have hxs : (t.extract j (j + 1)).size ≤ 1 := by rw [hex, chr_size]; exact Nat.le_refl _
          have hts := itT_size100 (n := 2 * (j : Int) + 2) (by omega) (by omega)
          have HDG : Hid (∀ W, Calls Tryz.prog 19 #[.int .i64 (2 * (j : Int) + 2)] W fun e w' => e = .returned (.string (itT (2 * (j : Int) + 2))) ∧ Below W.heap.size W w') := fun W => digits_val _ W (by omega) (by omega)
          have hwm : IntKind.i64.wrap (2 * (j : Int)) = 2 * (j : Int) := IntWalk.i64_in _ (by omega)
          have hwa : IntKind.i64.wrap (2 * (j : Int) + 2) = 2 * (j : Int) + 2 := IntWalk.i64_in _ (by omega)
          have hwj : IntKind.i64.wrap ((j : Int) + 1) = (j : Int) + 1 := IntWalk.i64_in _ (by omega)
          have hj0 : (0 : Int) ≤ (j : Int) + 1 := by omega
          have hj1 : (j : Int) + 1 ≤ (t.size : Int) := by omega
          have hj2 : (j : Int) ≤ (j : Int) + 1 := by omega
          have hj3 : ((j : Int) + 1).toNat = j + 1 := by omega
          clear hex htk hlj
          generalize itT (2 * (j : Int) + 2) = tt at *
          generalize scF (t.data.toList.take j) = ss at *
          generalize duF (t.data.toList.take j) = dd at *
          generalize noF (t.data.toList.take j) = nn at *
          by_cases h0 : 0 < j
          · have h0i : (0 : Int) < (j : Int) := by omega
            have HNN := Lib.hid (HNN1.out h0)
            have hz1 : ¬ 9223372036854775807 < nn.size + 1 + tt.size := by omega
            have hz2 : ¬ 9223372036854775807 < nn.size + 1 + tt.size + (min (j + 1) t.size - j) := by omega
            go_wp2_with fail
            refine wp_region_held_drew (S := fun W => w.heap.size ≤ W.heap.size) (by kernel_rfl) HBR.out.drew.size (fun hHeld => ?_)
            refine wpAnyH_take (i := 0) (oi := ?_) (v := ?_) ?_ (by kernel_rfl) (by kernel_rfl) (by kernel_rfl) ?_ ?_ (by assumption) ?_
            rotate_left 2
            · simp only [List.getElem?_toArray, List.getElem?_cons_succ, List.getElem?_cons_zero]; rfl
            · exact fun _ _ _ h => h
            · first
                | (refine Or.inr ⟨?_, ?_⟩ <;> rfl)
                | (refine Or.inl ⟨?_, ?_⟩; · rfl
                   intro w hSw; (try dsimp only at hSw); go_simp; (try with_reducible rfl); done)
            try simp only [Act.put, List.setIfInBounds_toArray, List.set_cons_zero, List.set_cons_succ]
            refine wpAnyH_take (i := 1) (oi := ?_) (v := ?_) ?_ (by kernel_rfl) (by kernel_rfl) (by kernel_rfl) ?_ ?_ (by assumption) ?_
            rotate_left 2
            · simp only [List.getElem?_toArray, List.getElem?_cons_succ, List.getElem?_cons_zero]; rfl
            · exact fun _ _ _ h => h
            · first
                | (refine Or.inr ⟨?_, ?_⟩ <;> rfl)
                | (refine Or.inl ⟨?_, ?_⟩; · rfl
                   intro w hSw; (try dsimp only at hSw); go_simp; (try with_reducible rfl); done)
            try simp only [Act.put, List.setIfInBounds_toArray, List.set_cons_zero, List.set_cons_succ]
            refine wpAnyH_take (i := 2) (oi := ?_) (v := ?_) ?_ (by kernel_rfl) (by kernel_rfl) (by kernel_rfl) ?_ ?_ (by assumption) ?_
            rotate_left 2
            · simp only [List.getElem?_toArray, List.getElem?_cons_succ, List.getElem?_cons_zero]; rfl
            · exact fun _ _ _ h => h
            · first
                | (refine Or.inr ⟨?_, ?_⟩ <;> rfl)
                | (refine Or.inl ⟨?_, ?_⟩; · rfl
                   intro w hSw; (try dsimp only at hSw); go_simp; (try with_reducible rfl); done)
            try simp only [Act.put, List.setIfInBounds_toArray, List.set_cons_zero, List.set_cons_succ]
            refine wpAnyH_take (i := 3) (oi := ?_) (v := ?_) ?_ (by kernel_rfl) (by kernel_rfl) (by kernel_rfl) ?_ ?_ (by assumption) ?_
            rotate_left 2
            · simp only [List.getElem?_toArray, List.getElem?_cons_succ, List.getElem?_cons_zero]; rfl
            · exact fun _ _ _ h => h
            · first
                | (refine Or.inr ⟨?_, ?_⟩ <;> rfl)
                | (refine Or.inl ⟨?_, ?_⟩; · rfl
                   intro w hSw; (try dsimp only at hSw); go_simp; (try with_reducible rfl); done)
            try simp only [Act.put, List.setIfInBounds_toArray, List.set_cons_zero, List.set_cons_succ]
            refine wpAnyH_take (i := 6) (oi := ?_) (v := ?_) ?_ (by kernel_rfl) (by kernel_rfl) (by kernel_rfl) ?_ ?_ (by assumption) ?_
            rotate_left 2
            · simp only [List.getElem?_toArray, List.getElem?_cons_succ, List.getElem?_cons_zero]; rfl
            · exact fun _ _ _ h => h
            · first
                | (refine Or.inr ⟨?_, ?_⟩ <;> rfl)
                | (refine Or.inl ⟨?_, ?_⟩; · rfl
                   intro w hSw; (try dsimp only at hSw); go_simp; (try with_reducible rfl); done)
            try simp only [Act.put, List.setIfInBounds_toArray, List.set_cons_zero, List.set_cons_succ]
            refine wpAnyH_take (i := 7) (oi := ?_) (v := ?_) ?_ (by kernel_rfl) (by kernel_rfl) (by kernel_rfl) ?_ ?_ (by assumption) ?_
            rotate_left 2
            · simp only [List.getElem?_toArray, List.getElem?_cons_succ, List.getElem?_cons_zero]; rfl
            · exact fun _ _ _ h => h
            · first
                | (refine Or.inr ⟨?_, ?_⟩ <;> rfl)
                | (refine Or.inl ⟨?_, ?_⟩; · rfl
                   intro w hSw; (try dsimp only at hSw); go_simp; (try with_reducible rfl); done)
            try simp only [Act.put, List.setIfInBounds_toArray, List.set_cons_zero, List.set_cons_succ]
            refine wpAnyH_take (i := 8) (oi := ?_) (v := ?_) ?_ (by kernel_rfl) (by kernel_rfl) (by kernel_rfl) ?_ ?_ (by assumption) ?_
            rotate_left 2
            · simp only [List.getElem?_toArray, List.getElem?_cons_succ, List.getElem?_cons_zero]; rfl
            · exact fun _ _ _ h => h
            · first
                | (refine Or.inr ⟨?_, ?_⟩ <;> rfl)
                | (refine Or.inl ⟨?_, ?_⟩; · rfl
                   intro w hSw; (try dsimp only at hSw); go_simp; (try with_reducible rfl); done)
            try simp only [Act.put, List.setIfInBounds_toArray, List.set_cons_zero, List.set_cons_succ]
            refine wpAnyH_take (i := 9) (oi := ?_) (v := ?_) ?_ (by kernel_rfl) (by kernel_rfl) (by kernel_rfl) ?_ ?_ (by assumption) ?_
            rotate_left 2
            · simp only [List.getElem?_toArray, List.getElem?_cons_succ, List.getElem?_cons_zero]; rfl
            · exact fun _ _ _ h => h
            · first
                | (refine Or.inr ⟨?_, ?_⟩ <;> rfl)
                | (refine Or.inl ⟨?_, ?_⟩; · rfl
                   intro w hSw; (try dsimp only at hSw); go_simp; (try with_reducible rfl); done)
            try simp only [Act.put, List.setIfInBounds_toArray, List.set_cons_zero, List.set_cons_succ]
            refine wpAnyH_take (i := 10) (oi := ?_) (v := ?_) ?_ (by kernel_rfl) (by kernel_rfl) (by kernel_rfl) ?_ ?_ (by assumption) ?_
            rotate_left 2
            · simp only [List.getElem?_toArray, List.getElem?_cons_succ, List.getElem?_cons_zero]; rfl
            · exact fun _ _ _ h => h
            · first
                | (refine Or.inr ⟨?_, ?_⟩ <;> rfl)
                | (refine Or.inl ⟨?_, ?_⟩; · rfl
                   intro w hSw; (try dsimp only at hSw); go_simp; (try with_reducible rfl); done)
            try simp only [Act.put, List.setIfInBounds_toArray, List.set_cons_zero, List.set_cons_succ]
            refine wpAnyH_ready (rs := [4]) (by kernel_rfl) (by simp) ?_
            refine AllReadyH.cons (o := ?_) ?_ (fun K hK => ?_) AllReadyH.nil
            rotate_left 1
            · simp only [List.getElem?_toArray, List.getElem?_cons_succ, List.getElem?_cons_zero]; rfl
            go_simp
            go_at_call 19
            go_must (refine Calls.mono (HDG.out _) ?_)
            rintro e wd ⟨rfl, hbd⟩
            have HBD : Hid (Below w.heap.size w wd) := HBR.out.drew.trans (hbd.mono HBR.out.size)
            clear hbd
            refine hK.out _ _ ?_ (fun hHeld => ?_)
            · try dsimp only
              exact HBD.out.size
            clear hK K
            try simp only [Act.put, List.setIfInBounds_toArray, List.set_cons_zero, List.set_cons_succ]
            refine wpAnyH_take (i := 5) (oi := ?_) (v := ?_) ?_ (by kernel_rfl) (by kernel_rfl) (by kernel_rfl) ?_ ?_ (by assumption) ?_
            rotate_left 2
            · simp only [List.getElem?_toArray, List.getElem?_cons_succ, List.getElem?_cons_zero]; rfl
            · exact fun _ _ _ h => h
            · first
                | (refine Or.inr ⟨?_, ?_⟩ <;> rfl)
                | (refine Or.inl ⟨?_, ?_⟩; · rfl
                   intro w hSw; (try dsimp only at hSw); go_simp; (try with_reducible rfl); done)
            try simp only [Act.put, List.setIfInBounds_toArray, List.set_cons_zero, List.set_cons_succ]
            refine wpAnyH_take (i := 11) (oi := ?_) (v := ?_) ?_ (by kernel_rfl) (by kernel_rfl) (by kernel_rfl) ?_ ?_ (by assumption) ?_
            rotate_left 2
            · simp only [List.getElem?_toArray, List.getElem?_cons_succ, List.getElem?_cons_zero]; rfl
            · exact fun _ _ _ h => h
            · first
                | (refine Or.inr ⟨?_, ?_⟩ <;> rfl)
                | (refine Or.inl ⟨?_, ?_⟩; · rfl
                   intro w hSw; (try dsimp only at hSw); go_simp; (try with_reducible rfl); done)
            try simp only [Act.put, List.setIfInBounds_toArray, List.set_cons_zero, List.set_cons_succ]
            refine wpAnyH_take (i := 12) (oi := ?_) (v := ?_) ?_ (by kernel_rfl) (by kernel_rfl) (by kernel_rfl) ?_ ?_ (by assumption) ?_
            rotate_left 2
            · simp only [List.getElem?_toArray, List.getElem?_cons_succ, List.getElem?_cons_zero]; rfl
            · exact fun _ _ _ h => h
            · first
                | (refine Or.inr ⟨?_, ?_⟩ <;> rfl)
                | (refine Or.inl ⟨?_, ?_⟩; · rfl
                   intro w hSw; (try dsimp only at hSw); go_simp; (try with_reducible rfl); done)
            try simp only [Act.put, List.setIfInBounds_toArray, List.set_cons_zero, List.set_cons_succ]
            refine wpAnyH_done (by kernel_rfl) ?_ _
            clear hHeld
            go_wp2_with fail
            go_roundw
            case rel => exact ⟨j + 1, by omega, by go_num, by rw [HSN.out], by rw [HDN.out], by rw [HNN.out], HBD⟩
            case measure => simp [intOf]; omega
          · have h0i : ¬ (0 : Int) < (j : Int) := by omega
            have HNN := Lib.hid (HNN0.out h0)
            have hz1 : ¬ 9223372036854775807 < nn.size + tt.size := by omega
            have hz2 : ¬ 9223372036854775807 < nn.size + tt.size + (min (j + 1) t.size - j) := by omega
            go_wp2_with fail
            refine wp_region_held_drew (S := fun W => w.heap.size ≤ W.heap.size) (by kernel_rfl) HBR.out.drew.size (fun hHeld => ?_)
            refine wpAnyH_take (i := 0) (oi := ?_) (v := ?_) ?_ (by kernel_rfl) (by kernel_rfl) (by kernel_rfl) ?_ ?_ (by assumption) ?_
            rotate_left 2
            · simp only [List.getElem?_toArray, List.getElem?_cons_succ, List.getElem?_cons_zero]; rfl
            · exact fun _ _ _ h => h
            · first
                | (refine Or.inr ⟨?_, ?_⟩ <;> rfl)
                | (refine Or.inl ⟨?_, ?_⟩; · rfl
                   intro w hSw; (try dsimp only at hSw); go_simp; (try with_reducible rfl); done)
            try simp only [Act.put, List.setIfInBounds_toArray, List.set_cons_zero, List.set_cons_succ]
            refine wpAnyH_take (i := 1) (oi := ?_) (v := ?_) ?_ (by kernel_rfl) (by kernel_rfl) (by kernel_rfl) ?_ ?_ (by assumption) ?_
            rotate_left 2
            · simp only [List.getElem?_toArray, List.getElem?_cons_succ, List.getElem?_cons_zero]; rfl
            · exact fun _ _ _ h => h
            · first
                | (refine Or.inr ⟨?_, ?_⟩ <;> rfl)
                | (refine Or.inl ⟨?_, ?_⟩; · rfl
                   intro w hSw; (try dsimp only at hSw); go_simp; (try with_reducible rfl); done)
            try simp only [Act.put, List.setIfInBounds_toArray, List.set_cons_zero, List.set_cons_succ]
            refine wpAnyH_take (i := 2) (oi := ?_) (v := ?_) ?_ (by kernel_rfl) (by kernel_rfl) (by kernel_rfl) ?_ ?_ (by assumption) ?_
            rotate_left 2
            · simp only [List.getElem?_toArray, List.getElem?_cons_succ, List.getElem?_cons_zero]; rfl
            · exact fun _ _ _ h => h
            · first
                | (refine Or.inr ⟨?_, ?_⟩ <;> rfl)
                | (refine Or.inl ⟨?_, ?_⟩; · rfl
                   intro w hSw; (try dsimp only at hSw); go_simp; (try with_reducible rfl); done)
            try simp only [Act.put, List.setIfInBounds_toArray, List.set_cons_zero, List.set_cons_succ]
            refine wpAnyH_take (i := 3) (oi := ?_) (v := ?_) ?_ (by kernel_rfl) (by kernel_rfl) (by kernel_rfl) ?_ ?_ (by assumption) ?_
            rotate_left 2
            · simp only [List.getElem?_toArray, List.getElem?_cons_succ, List.getElem?_cons_zero]; rfl
            · exact fun _ _ _ h => h
            · first
                | (refine Or.inr ⟨?_, ?_⟩ <;> rfl)
                | (refine Or.inl ⟨?_, ?_⟩; · rfl
                   intro w hSw; (try dsimp only at hSw); go_simp; (try with_reducible rfl); done)
            try simp only [Act.put, List.setIfInBounds_toArray, List.set_cons_zero, List.set_cons_succ]
            refine wpAnyH_take (i := 6) (oi := ?_) (v := ?_) ?_ (by kernel_rfl) (by kernel_rfl) (by kernel_rfl) ?_ ?_ (by assumption) ?_
            rotate_left 2
            · simp only [List.getElem?_toArray, List.getElem?_cons_succ, List.getElem?_cons_zero]; rfl
            · exact fun _ _ _ h => h
            · first
                | (refine Or.inr ⟨?_, ?_⟩ <;> rfl)
                | (refine Or.inl ⟨?_, ?_⟩; · rfl
                   intro w hSw; (try dsimp only at hSw); go_simp; (try with_reducible rfl); done)
            try simp only [Act.put, List.setIfInBounds_toArray, List.set_cons_zero, List.set_cons_succ]
            refine wpAnyH_take (i := 7) (oi := ?_) (v := ?_) ?_ (by kernel_rfl) (by kernel_rfl) (by kernel_rfl) ?_ ?_ (by assumption) ?_
            rotate_left 2
            · simp only [List.getElem?_toArray, List.getElem?_cons_succ, List.getElem?_cons_zero]; rfl
            · exact fun _ _ _ h => h
            · first
                | (refine Or.inr ⟨?_, ?_⟩ <;> rfl)
                | (refine Or.inl ⟨?_, ?_⟩; · rfl
                   intro w hSw; (try dsimp only at hSw); go_simp; (try with_reducible rfl); done)
            try simp only [Act.put, List.setIfInBounds_toArray, List.set_cons_zero, List.set_cons_succ]
            refine wpAnyH_take (i := 8) (oi := ?_) (v := ?_) ?_ (by kernel_rfl) (by kernel_rfl) (by kernel_rfl) ?_ ?_ (by assumption) ?_
            rotate_left 2
            · simp only [List.getElem?_toArray, List.getElem?_cons_succ, List.getElem?_cons_zero]; rfl
            · exact fun _ _ _ h => h
            · first
                | (refine Or.inr ⟨?_, ?_⟩ <;> rfl)
                | (refine Or.inl ⟨?_, ?_⟩; · rfl
                   intro w hSw; (try dsimp only at hSw); go_simp; (try with_reducible rfl); done)
            try simp only [Act.put, List.setIfInBounds_toArray, List.set_cons_zero, List.set_cons_succ]
            refine wpAnyH_take (i := 9) (oi := ?_) (v := ?_) ?_ (by kernel_rfl) (by kernel_rfl) (by kernel_rfl) ?_ ?_ (by assumption) ?_
            rotate_left 2
            · simp only [List.getElem?_toArray, List.getElem?_cons_succ, List.getElem?_cons_zero]; rfl
            · exact fun _ _ _ h => h
            · first
                | (refine Or.inr ⟨?_, ?_⟩ <;> rfl)
                | (refine Or.inl ⟨?_, ?_⟩; · rfl
                   intro w hSw; (try dsimp only at hSw); go_simp; (try with_reducible rfl); done)
            try simp only [Act.put, List.setIfInBounds_toArray, List.set_cons_zero, List.set_cons_succ]
            refine wpAnyH_take (i := 10) (oi := ?_) (v := ?_) ?_ (by kernel_rfl) (by kernel_rfl) (by kernel_rfl) ?_ ?_ (by assumption) ?_
            rotate_left 2
            · simp only [List.getElem?_toArray, List.getElem?_cons_succ, List.getElem?_cons_zero]; rfl
            · exact fun _ _ _ h => h
            · first
                | (refine Or.inr ⟨?_, ?_⟩ <;> rfl)
                | (refine Or.inl ⟨?_, ?_⟩; · rfl
                   intro w hSw; (try dsimp only at hSw); go_simp; (try with_reducible rfl); done)
            try simp only [Act.put, List.setIfInBounds_toArray, List.set_cons_zero, List.set_cons_succ]
            refine wpAnyH_ready (rs := [4]) (by kernel_rfl) (by simp) ?_
            refine AllReadyH.cons (o := ?_) ?_ (fun K hK => ?_) AllReadyH.nil
            rotate_left 1
            · simp only [List.getElem?_toArray, List.getElem?_cons_succ, List.getElem?_cons_zero]; rfl
            go_simp
            go_at_call 19
            go_must (refine Calls.mono (HDG.out _) ?_)
            rintro e wd ⟨rfl, hbd⟩
            have HBD : Hid (Below w.heap.size w wd) := HBR.out.drew.trans (hbd.mono HBR.out.size)
            clear hbd
            refine hK.out _ _ ?_ (fun hHeld => ?_)
            · try dsimp only
              exact HBD.out.size
            clear hK K
            try simp only [Act.put, List.setIfInBounds_toArray, List.set_cons_zero, List.set_cons_succ]
            refine wpAnyH_take (i := 5) (oi := ?_) (v := ?_) ?_ (by kernel_rfl) (by kernel_rfl) (by kernel_rfl) ?_ ?_ (by assumption) ?_
            rotate_left 2
            · simp only [List.getElem?_toArray, List.getElem?_cons_succ, List.getElem?_cons_zero]; rfl
            · exact fun _ _ _ h => h
            · first
                | (refine Or.inr ⟨?_, ?_⟩ <;> rfl)
                | (refine Or.inl ⟨?_, ?_⟩; · rfl
                   intro w hSw; (try dsimp only at hSw); go_simp; (try with_reducible rfl); done)
            try simp only [Act.put, List.setIfInBounds_toArray, List.set_cons_zero, List.set_cons_succ]
            refine wpAnyH_take (i := 11) (oi := ?_) (v := ?_) ?_ (by kernel_rfl) (by kernel_rfl) (by kernel_rfl) ?_ ?_ (by assumption) ?_
            rotate_left 2
            · simp only [List.getElem?_toArray, List.getElem?_cons_succ, List.getElem?_cons_zero]; rfl
            · exact fun _ _ _ h => h
            · first
                | (refine Or.inr ⟨?_, ?_⟩ <;> rfl)
                | (refine Or.inl ⟨?_, ?_⟩; · rfl
                   intro w hSw; (try dsimp only at hSw); go_simp; (try with_reducible rfl); done)
            try simp only [Act.put, List.setIfInBounds_toArray, List.set_cons_zero, List.set_cons_succ]
            refine wpAnyH_take (i := 12) (oi := ?_) (v := ?_) ?_ (by kernel_rfl) (by kernel_rfl) (by kernel_rfl) ?_ ?_ (by assumption) ?_
            rotate_left 2
            · simp only [List.getElem?_toArray, List.getElem?_cons_succ, List.getElem?_cons_zero]; rfl
            · exact fun _ _ _ h => h
            · first
                | (refine Or.inr ⟨?_, ?_⟩ <;> rfl)
                | (refine Or.inl ⟨?_, ?_⟩; · rfl
                   intro w hSw; (try dsimp only at hSw); go_simp; (try with_reducible rfl); done)
            try simp only [Act.put, List.setIfInBounds_toArray, List.set_cons_zero, List.set_cons_succ]
            refine wpAnyH_done (by kernel_rfl) ?_ _
            clear hHeld
            go_wp2_with fail
            go_roundw
            case rel => exact ⟨j + 1, by omega, by go_num, by rw [HSN.out], by rw [HDN.out], by rw [HNN.out], HBD⟩
            case measure => simp [intOf]; omega
        · obtain rfl : j = t.size := by omega
          have hT : t.data.toList.take t.size = t.data.toList := List.take_of_length_le (by simp)
          have HX : Hid (∀ W, WF m W → Calls Tryz.prog 11 #[.string (scF (t.data.toList.take t.size) ++ ⟨#[98, 111, 111, 107, 32, 48, 10]⟩)] W fun e w' => e = .returned (.string (duF (t.data.toList.take t.size) ++ noF (t.data.toList.take t.size) ++ ⟨#[10]⟩ ++ exT 1 0)) ∧ Below W.heap.size W w') := fun W hW => by
            show Calls _ _ _ _ _
            rw [hT]
            exact exec_book HL.out m W hW
          have HE : Hid (∀ W, Calls Tryz.prog 21 #[.int .i64 1, .int .i64 0] W fun e w' => e = .returned (.string (exT 1 0)) ∧ Below W.heap.size W w') := fun W => endLine_any 1 0 W (by decide) (by decide)
          have hss : (scF (t.data.toList.take t.size)).size ≤ 200 := by rw [hT, scF_sz]; simp; omega
          have hds : (duF (t.data.toList.take t.size)).size ≤ 200 := by rw [hT, duF_sz]; simp; omega
          have hns : (noF (t.data.toList.take t.size)).size ≤ 1000 := by
            rw [hT]
            have := noF_sz t.data.toList (by simp; omega)
            simp at this
            omega
          have hes : (exT 1 0).size ≤ 100 := by decide +kernel
          clear hT
          generalize scF (t.data.toList.take t.size) = ss at *
          generalize duF (t.data.toList.take t.size) = dd at *
          generalize noF (t.data.toList.take t.size) = nn at *
          generalize exT 1 0 = ee at *
          go_wp2_with fail
          refine (HX.out _ (HWF.out.below HBR.out)).mono ?_
          rintro e w4 ⟨rfl, hb4⟩
          have HB4 := Lib.hid (HBR.out.trans (hb4.mono HBR.out.size))
          clear hb4
          go_wp2_with fail
          refine (HE.out _).mono ?_
          rintro e w5 ⟨rfl, hb5⟩
          have HB5 := Lib.hid (HB4.out.trans (hb5.mono HB4.out.size))
          clear hb5
          go_wp2_with fail
          go_ret
          exact ⟨rfl, HB5.out⟩
    · have hc1i : (1 : Int) < (ct : Int) := by omega
      clear hc1
      go_wp2_with fail
      refine (HCT.out _).mono ?_
      rintro e w' ⟨rfl, rfl⟩
      go_wp2_with fail
      go_ret
      exact ⟨rfl, HB3.out⟩
end Go.Proofs.YtlkdmpfifpkpaaaGreatDoor
namespace Go.Proofs.YtlkdmpfifpkpaaaGreatDoor
open Go.RowKit

theorem laidOut : laidOutB Tryz.prog = true := by kernel_rfl
theorem own : ownKnob Tryz.prog.godebug = none := by kernel_rfl
theorem cellsU8 : Tryz.prog.cellsOf 5 = 1 := by kernel_rfl

/-- a slice of bytes that came in -/
theorem open_BS {H : Type} {enc : TypeId × Value → H} {w : World} {base : Nat} {spare : Nat → Bool} {held : Bool} {fuel : Nat} {cs : List Value} {y : DataW H × List MemPlace}
    (h : DataW.trod enc Tryz.prog w base spare held fuel 22 cs = some y) (hw : ∀ b, spare b = true) : ∃ ao n c, cs = [.slice ao n c] ∧ BSl w ao n ∧ n ≤ c ∧ n ≤ 9223372036854775807 := by
  rcases Go.ChangeShapes.open_ints Tryz.underlying22 Tryz.underlying5 cellsU8 h with ⟨hcs, hx⟩ | ⟨a, len', cap', zs, hcs, _, hl, hm, hz, hx, hcell, hwz⟩
  · exact ⟨none, 0, 0, hcs, .inl rfl, Nat.le_refl _, by omega⟩
  · rw [if_pos (hw _)] at hz
    unfold maxLen at hm
    refine ⟨some a, len', cap', hcs, ?_, hl, by omega⟩
    by_cases h0 : len' = 0
    · exact .inl h0
    · obtain ⟨b, o, s⟩ := a
      have c0 := hcell 0 (by omega)
      have hs : s = none := by
        cases s with
        | none => rfl
        | some s =>
          exfalso
          revert c0
          simp only [World.cell?, Addr.add]
          split <;> simp
      subst hs
      refine .inr ⟨b, o, fun i => zs[i]?.getD 0, rfl, fun k hk => ⟨?_, range_u8 hwz k⟩⟩
      rw [← addr_add, hcell k (by omega), List.getD_eq_getElem?_getD]
end Go.Proofs.YtlkdmpfifpkpaaaGreatDoor
