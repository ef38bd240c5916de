/-
  Parts of the proof: Zy Xl Xv Xw. No condition.
-/
import Derived.Test.YtlkdmpfifpkpaaaGreatDoorV36
namespace Go.Proofs.YtlkdmpfifpkpaaaGreatDoor
open Go.RowKit
def rX : SeP → List ByteArray → SeP
  | s, [] => s
  | s, l :: r => rX (nxtX s l) r
def oX : SeP → List ByteArray → List UInt8
  | _, [] => []
  | s, l :: r => (tellX s l).data.toList ++ 10 :: oX (nxtX s l) r
theorem rX_app : ∀ (a b : List ByteArray) (s : SeP), rX s (a ++ b) = rX (rX s a) b
  | [], _, _ => rfl
  | _ :: a, b, _ => rX_app a b _
theorem oX_app : ∀ (a b : List ByteArray) (s : SeP), oX s (a ++ b) = oX s a ++ oX (rX s a) b
  | [], _, _ => rfl
  | l :: a, b, s => by
   show (tellX s l).data.toList ++ 10 :: oX (nxtX s l) (a ++ b) = _
   rw [oX_app a b (nxtX s l)]
   simp [oX, rX]
theorem rX_ok : ∀ (a : List ByteArray) {s : SeP}, SeOk s → SeOk (rX s a)
  | [], _, h => h
  | l :: a, _, h => rX_ok a (nxt_ok h l)
theorem oX_end : ∀ (a : List ByteArray) (s : SeP), oX s a = [] ∨ ∃ p, oX s a = p ++ [10]
  | [], _ => .inl rfl
  | l :: a, s => by
   right
   rcases oX_end a (nxtX s l) with h | ⟨p, h⟩
   ·exact ⟨(tellX s l).data.toList, by unfold oX; rw [h]⟩
   ·exact ⟨(tellX s l).data.toList ++ 10 :: p, by unfold oX; rw [h]; simp⟩
theorem itX_take (t : ByteArray) : ∀ k, k ≤ (lnT t).length → itX t k = rX (ses0, []) ((lnT t).take k) ∧ exO (ouX t) k = oX (ses0, []) ((lnT t).take k)
  | 0, _ => ⟨rfl, rfl⟩
  | k + 1, hk => by
   obtain ⟨h1, h2⟩ := itX_take t k (by omega)
   have hk2 : k < (lnT t).length := by omega
   have e : lnI t k = (lnT t)[k] := by unfold lnI; simp [hk2]
   rw [List.take_succ_eq_append_getElem hk2, rX_app, oX_app, ← h1, ← h2, ← e]
   exact ⟨rfl, rfl⟩
theorem EX_ls {t x : ByteArray} {ls : List ByteArray} (hsz : t.size ≤ 500) (h : lnT t = ls ++ [x]) : EX t = ⟨(oX (ses0, []) ls ++ (exT (rX (ses0, []) ls).1.x.m (rX (ses0, []) ls).2.length).data.toList).toArray⟩ := by
 have hl : (lnT t).length - 1 = ls.length := by rw [h]; simp
 have hk : ls.length ≤ (lnT t).length := by omega
 obtain ⟨h1, h2⟩ := itX_take t ls.length hk
 have ht : (lnT t).take ls.length = ls := by rw [h]; simp
 rw [ht] at h1 h2
 unfold EX fnX
 rw [if_pos hsz, hl, h1, h2]
theorem lnT_tail {t x : ByteArray} {ls : List ByteArray} (h : t.data.toList = lnsB (ls.map (·.data.toList)) ++ x.data.toList) (hf : ∀ l, l ∈ ls → (10 : UInt8) ∉ l.data.toList) (hx : (10 : UInt8) ∉ x.data.toList) : lnT t = ls ++ [x] := by
 refine map_ba_inj ?_
 rw [lnT_spB, h, List.map_append]
 have q : ∀ (ls : List ByteArray), (∀ l, l ∈ ls → (10 : UInt8) ∉ l.data.toList) → spB 10 (lnsB (ls.map (·.data.toList)) ++ x.data.toList) = ls.map (·.data.toList) ++ [x.data.toList] := by
  intro ls
  induction ls with
  | nil => intro _; exact spB_free hx
  | cons l r ih =>
   intro hf
   have e : lnsB ((l :: r).map (·.data.toList)) ++ x.data.toList = l.data.toList ++ 10 :: (lnsB (r.map (·.data.toList)) ++ x.data.toList) := by simp [lnsB]
   rw [e, spB_app _ (hf l (by simp)), ih (fun l hl => hf l (by simp [hl]))]
   rfl
 exact q ls hf
theorem sp_ex : ∀ (d : List UInt8), ∃ (ls : List ByteArray) (x : ByteArray), d = lnsB (ls.map (·.data.toList)) ++ x.data.toList ∧ (∀ l, l ∈ ls → (10 : UInt8) ∉ l.data.toList) ∧ (10 : UInt8) ∉ x.data.toList
  | [] => ⟨[], ⟨#[]⟩, rfl, fun _ h => by simp at h, by simp⟩
  | b :: d => by
   obtain ⟨ls, x, h1, h2, h3⟩ := sp_ex d
   by_cases hb : b = 10
   ·subst hb
    refine ⟨⟨#[]⟩ :: ls, x, ?_, ?_, h3⟩
    ·rw [h1]; simp [lnsB]
    ·intro l hl
     rcases List.mem_cons.1 hl with rfl | hl
     ·simp
     ·exact h2 l hl
   ·match ls, h1, h2 with
    | [], h1, _ =>
     refine ⟨[], ⟨(b :: x.data.toList).toArray⟩, ?_, fun _ h => by simp at h, ?_⟩
     ·rw [h1]; simp [lnsB]
     ·intro h
      have h : (10 : UInt8) ∈ b :: x.data.toList := h
      rcases List.mem_cons.1 h with h | h
      ·exact hb h.symm
      ·exact h3 h
    | l :: r, h1, h2 =>
     refine ⟨⟨(b :: l.data.toList).toArray⟩ :: r, x, ?_, ?_, h3⟩
     ·rw [h1]; simp [lnsB]
     ·intro y hy
      rcases List.mem_cons.1 hy with rfl | hy
      ·intro h
       have h : (10 : UInt8) ∈ b :: l.data.toList := h
       rcases List.mem_cons.1 h with h | h
       ·exact hb h.symm
       ·exact h2 l (by simp) h
      ·exact h2 y (by simp [hy])
theorem lnsB_end (ls : List (List UInt8)) : lnsB ls = [] ∨ ∃ p, lnsB ls = p ++ [10] := by
 rcases List.eq_nil_or_concat ls with rfl | ⟨r, l, rfl⟩
 ·exact .inl rfl
 ·exact .inr ⟨lnsB r ++ l, by simp [lnsB]⟩
structure CpN (t : ByteArray) (i : Nat) : Prop where
  le : i ≤ t.size
  nl : i = 0 ∨ t.data.toList[i - 1]? = some 10
  no : ∀ j, i ≤ j → t.data.toList[j]? ≠ some 10
theorem CpN.eq {t : ByteArray} {i : Nat} (h : CpN t i) {p q : List UInt8} (ht : t.data.toList = p ++ q) (hq : (10 : UInt8) ∉ q) (hp : p = [] ∨ ∃ r, p = r ++ [10]) : i = p.length := by
 rcases Nat.lt_trichotomy i p.length with hl | hl | hl
 ·exfalso
  rcases hp with rfl | ⟨r, rfl⟩
  ·exact absurd hl (Nat.not_lt_zero _)
  ·refine h.no r.length (by simp at hl; omega) ?_
   rw [ht]
   simp
 ·exact hl
 ·exfalso
  rcases h.nl with h0 | h0
  ·omega
  ·rw [ht, List.getElem?_append_right (by omega)] at h0
   exact hq (List.mem_of_getElem? h0)
theorem CpN.parts {t : ByteArray} {i : Nat} (h : CpN t i) : ∃ (ls : List ByteArray) (x : ByteArray), t.data.toList = lnsB (ls.map (·.data.toList)) ++ x.data.toList ∧ (t.extract 0 i).data.toList = lnsB (ls.map (·.data.toList)) ∧ (∀ l, l ∈ ls → (10 : UInt8) ∉ l.data.toList) ∧ (10 : UInt8) ∉ x.data.toList := by
 obtain ⟨ls, x, h1, h2, h3⟩ := sp_ex t.data.toList
 refine ⟨ls, x, h1, ?_, h2, h3⟩
 rw [ext_list, h.eq h1 h3 (lnsB_end _), h1]
 simp
theorem CpN.same {t : ByteArray} {i : Nat} (h : CpN t i) (hsz : t.size ≤ 500) : EX (t.extract 0 i) = EX t := by
 obtain ⟨ls, x, h1, h2, h3, h4⟩ := h.parts
 rw [EX_ls hsz (lnT_tail h1 h3 h4), EX_ls (t := t.extract 0 i) (x := ⟨#[]⟩) (by have := h.le; rw [ByteArray.size_extract]; omega) (lnT_tail (by rw [h2]; simp) h3 (by simp))]
theorem EX_nil : EX ⟨#[]⟩ = exT 0 0 := by
 rw [EX_ls (t := ⟨#[]⟩) (x := ⟨#[]⟩) (ls := []) (by show (0 : Nat) ≤ _; omega) (lnT_tail rfl (fun _ h => by simp at h) (by simp))]
 exact ba_ext rfl
theorem dd_no : ∀ n : Fin 9, decide ((10 : UInt8) ∉ Lib.decDigits n.val) = true := by decide +kernel
theorem exT_end {a b : Nat} (ha : a < 9) (hb : b < 9) : ∃ q, (exT a b).data.toList = q ++ [10] ∧ (10 : UInt8) ∉ q := by
 refine ⟨([116, 114, 97, 105, 110, 115, 32] : List UInt8) ++ Lib.decDigits a ++ [32, 112, 97, 116, 104, 115, 32] ++ Lib.decDigits b, by simp [exT], ?_⟩
 have h1 := of_decide_eq_true (dd_no ⟨a, ha⟩)
 have h2 := of_decide_eq_true (dd_no ⟨b, hb⟩)
 simp [h1, h2]
theorem exT_ok {s : SeP} (h : SeOk s) : ∃ q, (exT s.1.x.m s.2.length).data.toList = q ++ [10] ∧ (10 : UInt8) ∉ q := by
 have h1 := (vldL_true h.k.xv).2.2.1
 have h2 := h.p.len
 exact exT_end (by omega) (by omega)
structure LlN (a : ByteArray) (i : Nat) : Prop where
  le : i ≤ a.size
  nl : i = 0 ∨ (i < a.size ∧ a.data.toList[i - 1]? = some 10)
  no : ∀ j, i ≤ j → j + 1 < a.size → a.data.toList[j]? ≠ some 10
theorem LlN.eq {a : ByteArray} {i : Nat} (h : LlN a i) {p q : List UInt8} (ha : a.data.toList = p ++ (q ++ [10])) (hq : (10 : UInt8) ∉ q) (hp : p = [] ∨ ∃ r, p = r ++ [10]) : i = p.length := by
 have hz : a.size = p.length + (q.length + 1) := by
  have : a.data.toList.length = a.size := by simp
  rw [← this, ha]
  simp
 rcases Nat.lt_trichotomy i p.length with hl | hl | hl
 ·exfalso
  rcases hp with rfl | ⟨r, rfl⟩
  ·exact absurd hl (Nat.not_lt_zero _)
  ·refine h.no r.length (by simp at hl; omega) (by rw [hz]; simp) ?_
   rw [ha]
   simp
 ·exact hl
 ·exfalso
  rcases h.nl with h0 | ⟨h0, h1⟩
  ·omega
  ·rw [ha, List.getElem?_append_right (by omega), List.getElem?_append_left (by omega)] at h1
   exact hq (List.mem_of_getElem? h1)
theorem EX_more {s : ByteArray} {i j : Nat} {t : ByteArray} (hs : s = t.extract 0 i) (h : CpN t i) (hz : s.size ≤ 500) (hj : LlN (EX s) j) :
    ∃ z, SeOk z ∧ ∀ (u : ByteArray) (us : List ByteArray), u.data.toList = lnsB (us.map (·.data.toList)) → (∀ l, l ∈ us → (10 : UInt8) ∉ l.data.toList) → s.size + u.size ≤ 500 → rX z us = z →
      EX (s ++ u) = (EX s).extract 0 j ++ ⟨(oX z us).toArray⟩ ++ (EX s).extract j (EX s).size := by
  obtain ⟨ls, x, h1, h2, h3, h4⟩ := h.parts
  rw [← hs] at h2
  have hl1 : lnT s = ls ++ [⟨#[]⟩] := lnT_tail (by rw [h2]; simp) h3 (by simp)
  have e1 := EX_ls hz hl1
  have ho : SeOk (rX (ses0, []) ls) := rX_ok ls (it_ok s 0)
  refine ⟨rX (ses0, []) ls, ho, fun u us hu hf hz hn => ?_⟩
  have hl2 : lnT (s ++ u) = (ls ++ us) ++ [⟨#[]⟩] := lnT_tail (by simp [h2, hu, lnsB]) (fun l hl => by
   rcases List.mem_append.1 hl with hl | hl
   ·exact h3 l hl
   ·exact hf l hl) (by simp)
  have e2 := EX_ls (by rw [ByteArray.size_append]; exact hz) hl2
  rw [rX_app, oX_app, hn] at e2
  obtain ⟨q, hq1, hq2⟩ := exT_ok ho
  have e1d : (EX s).data.toList = oX (ses0, []) ls ++ (q ++ [10]) := by rw [e1, hq1]
  have hjj := hj.eq e1d hq2 (oX_end _ _)
  have hlen : (EX s).size = (oX (ses0, []) ls).length + (q.length + 1) := by
   have : (EX s).data.toList.length = (EX s).size := by simp
   rw [← this, e1d]
   simp
  refine ba_ext ?_
  rw [e2, hq1]
  have hx1 : ((EX s).extract 0 j).data.toList = oX (ses0, []) ls := by rw [ext_list, e1d, hjj]; simp
  have hx2 : ((EX s).extract j (EX s).size).data.toList = q ++ [10] := by
   rw [ext_list, e1d, hjj, List.take_of_length_le (by rw [hlen]; simp), List.drop_left]
  simp only [ByteArray.data_append, Array.toList_append, hx1, hx2]
def zzT : ByteArray := ⟨#[122, 122, 122]⟩
def d9T : ByteArray := ⟨#[100, 111, 32, 57, 32, 111]⟩
def nxT5 : ByteArray := ⟨#[110, 101, 120, 116]⟩
theorem zz_w : wdL zzT = [zzT] := wdL_of (by decide)
theorem d9_w : wdL d9T = [⟨#[100, 111]⟩, ⟨#[57]⟩, ⟨#[111]⟩] := wdL_of (by decide)
theorem n5_w : wdL nxT5 = [nxT5] := wdL_of (by decide)
theorem zz_k : kdX zzT = 9 := by unfold kdX wd0; rw [zz_w]; decide +kernel
theorem d9_k : kdX d9T = 2 := by unfold kdX wd0; rw [d9_w]; decide +kernel
theorem n5_k : kdX nxT5 = 5 := by unfold kdX wd0; rw [n5_w]; decide +kernel
theorem zz_x (s : SeP) : nxtX s zzT = s ∧ tellX s zzT = whatT := by
 have e : stX s zzT = some s := by unfold stX; rw [zz_k]; rfl
 refine ⟨by unfold nxtX; rw [e]; rfl, ?_⟩
 unfold tellX
 rw [e, zz_k]
 rfl
theorem n5_x (s : SeP) : nxtX s nxT5 = s ∧ tellX s nxT5 = nxO s.1 := by
 have e : stX s nxT5 = some s := by unfold stX; rw [n5_k]; rfl
 refine ⟨by unfold nxtX; rw [e]; rfl, ?_⟩
 unfold tellX
 rw [e, n5_k]
 rfl
theorem d9_x {s : SeP} (h : SeOk s) : nxtX s d9T = s ∧ tellX s d9T = noT := by
 have e1 : nmF (wdI d9T 1) = 9 := by unfold wdI; rw [d9_w]; decide +kernel
 have hn := h.k.xn.1
 have e0 : ∀ l, stO s.1.x 9 l = none := fun l => by
  unfold stO
  split
  ·unfold stepO
   rw [if_neg]
   unfold mvOk
   rw [Bool.and_eq_true, inB_true]
   intro ⟨q1, _⟩
   omega
  ·rfl
 have e : stX s d9T = none := by
  unfold stX
  rw [d9_k]
  show (doX s.1 [(nmF (wdI d9T 1), wdI d9T 2)]).map _ = none
  rw [e1, ← doX_one s.1 h.k.ml]
  unfold mvSt
  rw [e0]
  rfl
 refine ⟨by unfold nxtX; rw [e]; rfl, ?_⟩
 unfold tellX
 rw [e]
def wtL : ByteArray := ⟨#[122, 122, 122, 10, 100, 111, 32, 57, 32, 111, 10]⟩
def naT : ByteArray := ⟨#[110, 101, 120, 116, 10]⟩
def nbT : ByteArray := ⟨#[110, 101, 120, 116, 10, 110, 101, 120, 116, 10]⟩
theorem EX_what {s : ByteArray} {i j : Nat} {t : ByteArray} (hs : s = t.extract 0 i) (h : CpN t i) (hz : s.size ≤ 488) (hj : LlN (EX s) j) :
    EX (s ++ wtL) = (EX s).extract 0 j ++ ⟨#[119, 104, 97, 116, 10, 110, 111, 10]⟩ ++ (EX s).extract j (EX s).size := by
  obtain ⟨z, hok, q⟩ := EX_more hs h (by omega) hj
  rw [q wtL [zzT, d9T] (by decide) (by decide) (by have : wtL.size = 11 := rfl; omega) (by
   show nxtX (nxtX z zzT) d9T = z
   rw [(zz_x z).1, (d9_x hok).1])]
  have e : oX z [zzT, d9T] = [119, 104, 97, 116, 10, 110, 111, 10] := by
   show (tellX z zzT).data.toList ++ 10 :: ((tellX (nxtX z zzT) d9T).data.toList ++ [10]) = _
   rw [(zz_x z).1, (zz_x z).2, (d9_x hok).2]
   rfl
  rw [e]
theorem EX_twice {s : ByteArray} {i j : Nat} {t : ByteArray} (hs : s = t.extract 0 i) (h : CpN t i) (hz : s.size ≤ 488) (hj : LlN (EX s) j) :
    ∃ X : ByteArray, EX (s ++ naT) = (EX s).extract 0 j ++ X ++ (EX s).extract j (EX s).size ∧ EX (s ++ nbT) = (EX s).extract 0 j ++ X ++ X ++ (EX s).extract j (EX s).size := by
  obtain ⟨z, hok, q⟩ := EX_more hs h (by omega) hj
  have h1 := q naT [nxT5] (by decide) (by decide) (by have : naT.size = 5 := rfl; omega) (n5_x z).1
  have h2 := q nbT [nxT5, nxT5] (by decide) (by decide) (by have : nbT.size = 10 := rfl; omega) (by
   show nxtX (nxtX z nxT5) nxT5 = z
   rw [(n5_x z).1, (n5_x z).1])
  refine ⟨⟨(oX z [nxT5]).toArray⟩, h1, ?_⟩
  rw [h2]
  have e : oX z [nxT5, nxT5] = oX z [nxT5] ++ oX z [nxT5] := by
   have e1 : oX z ([nxT5] ++ [nxT5]) = oX z [nxT5] ++ oX (rX z [nxT5]) [nxT5] := oX_app [nxT5] [nxT5] z
   have e2 : rX z [nxT5] = z := (n5_x z).1
   rw [e2] at e1
   exact e1
  rw [e]
  exact ba_ext (by simp)
theorem mid_ext (P X Q : ByteArray) : (P ++ X ++ Q).extract P.size ((P ++ X ++ Q).size - Q.size) = X := by
 refine ba_ext ?_
 rw [ext_list]
 have e1 : (P ++ X ++ Q).size - Q.size = (P.data.toList ++ X.data.toList).length := by
  simp only [ByteArray.size_append, List.length_append]
  simp
 have e2 : P.size = P.data.toList.length := by simp
 rw [e1, e2]
 simp only [ByteArray.data_append, Array.toList_append]
 rw [List.take_left, List.drop_left]
theorem exT_sz {a b : Nat} (ha : a < 100) (hb : b < 100) : (exT a b).size ≤ 100 := by
 have h1 := dd_size ha
 have h2 := dd_size hb
 unfold exT
 simp only [ByteArray.size_append]
 have e1 : (⟨#[116, 114, 97, 105, 110, 115, 32]⟩ : ByteArray).size = 7 := rfl
 have e2 : (⟨#[32, 112, 97, 116, 104, 115, 32]⟩ : ByteArray).size = 7 := rfl
 have e3 : (⟨#[10]⟩ : ByteArray).size = 1 := rfl
 omega
theorem EX_size (t : ByteArray) : (EX t).size ≤ 1000001 * 501 + 100 := by
 have hl : t.size ≤ 500 → (lnT t).length - 1 ≤ 500 := fun h => by
  have := lnT_len t
  have := Lib.countB_le ⟨#[10]⟩ (by decide) t.size t (Nat.le_refl _)
  omega
 unfold EX
 split
 ·rename_i h
  have h1 := exO_len (fun j => tell_size (it_ok t j) (lnI t j)) ((lnT t).length - 1)
  obtain ⟨q, hq, _⟩ := exT_ok (it_ok t ((lnT t).length - 1))
  have h2 : (exT (fnX t).1.x.m (fnX t).2.length).data.toList.length ≤ 100 := by
   have := exT_sz (a := (fnX t).1.x.m) (b := (fnX t).2.length) (by have := (vldL_true (it_ok t ((lnT t).length - 1)).k.xv).2.2.1; show (itX t _).1.x.m < 100; omega) (by have := (it_ok t ((lnT t).length - 1)).p.len; show (itX t _).2.length < 100; omega)
   simpa using this
  have h3 : (exO (ouX t) ((lnT t).length - 1)).length ≤ 1000001 * 500 := Nat.le_trans h1 (Nat.mul_le_mul_left _ (hl h))
  show (exO (ouX t) ((lnT t).length - 1) ++ _).toArray.size ≤ _
  rw [List.size_toArray, List.length_append]
  omega
 ·show (9 : Nat) ≤ _; decide
theorem EX_pos (t : ByteArray) : 0 < (EX t).size := by
 unfold EX
 split
 ·obtain ⟨q, hq, _⟩ := exT_ok (it_ok t ((lnT t).length - 1))
  show 0 < (exO (ouX t) ((lnT t).length - 1) ++ (exT (fnX t).1.x.m (fnX t).2.length).data.toList).toArray.size
  rw [show (exT (fnX t).1.x.m (fnX t).2.length).data.toList = q ++ [10] from hq, List.size_toArray]
  simp
  omega
 ·show 0 < 9; decide
theorem lst_at {t : ByteArray} {j : Nat} (h : j < t.size) : t.data.toList[j]? = some t[j] := by
 have hl : j < t.data.toList.length := by simpa using h
 rw [List.getElem?_eq_getElem hl]
 rfl
set_option linter.unusedSimpArgs false in
theorem complete_any (t : ByteArray) (w : World) (hn : t.size ≤ 1000000) :
    Calls Tryz.prog 13 #[.string t] w fun e w' => (∃ i, e = .returned (.string (t.extract 0 i)) ∧ CpN t i) ∧ w = w' := by
  have H0 : Hid (∀ j, t.size ≤ j → t.data.toList[j]? ≠ some 10) := fun j hj e => by
   rw [List.getElem?_eq_none (by simpa using hj)] at e
   cases e
  go_enter Tryz.func13, Tryz.ntmps13
  go_wp2_with fail
  go_loop [3] (fun i => ∃ k : Nat, k ≤ t.size ∧ i = .int .i64 k ∧ Hid (∀ j, k ≤ j → t.data.toList[j]? ≠ some 10)) (fun i => (intOf i).toNat)
  case atStart => exact ⟨t.size, Nat.le_refl _, rfl, H0⟩
  case round =>
   obtain ⟨k, hk, rfl, HK⟩ := hrel
   match k, hk, HK with
   | 0, hk, HK =>
    go_wp2_with fail
    go_ret
    exact ⟨⟨0, by rw [show t.extract 0 0 = ⟨#[]⟩ from ba_ext (by rw [ext_list]; simp)]; rfl, Nat.zero_le _, .inl rfl, HK.out⟩, rfl⟩
   | j + 1, hk, HK =>
    have hj : j < t.size := hk
    have e1 : ((j + 1 : Nat) : Int) = (j : Int) + 1 := rfl
    rw [e1]
    have h0 : (0 : Int) < (j : Int) + 1 := by omega
    have hw : IntKind.i64.wrap ((j : Int) + 1 - 1) = (j : Int) := by rw [Int.add_sub_cancel]; exact IntWalk.i64_in _ (by omega)
    have hji : (j : Int) < (t.size : Int) := by omega
    by_cases he : t[j] = 10
    ·have hb : ((t[j].toNat : Int) == 10) = true := by rw [he]; rfl
     have HC : Hid (CpN t (j + 1)) := ⟨hk, .inr (by rw [show j + 1 - 1 = j from rfl, lst_at hj, he]), HK.out⟩
     clear he HK
     go_wp2_with fail
     go_ret
     exact ⟨⟨j + 1, rfl, HC.out⟩, rfl⟩
    ·have hb : ((t[j].toNat : Int) == 10) = false := beq_eq_false_iff_ne.2 (fun e => he (UInt8.toNat_inj.1 (by show _ = 10; omega)))
     have HN : Hid (∀ q, j ≤ q → t.data.toList[q]? ≠ some 10) := fun q hq => by
      rcases Nat.eq_or_lt_of_le hq with rfl | hq
      ·rw [lst_at hj]
       intro e
       exact he (Option.some.inj e)
      ·exact HK.out q hq
     clear he HK
     go_wp2_with fail
     go_round
     case rel => exact ⟨j, by omega, by go_num, HN⟩
     case measure => simp [intOf]; try omega
set_option linter.unusedSimpArgs false in
theorem lastLine_any (t : ByteArray) (w : World) (h0 : 0 < t.size) (hn : t.size ≤ 1000000000) :
    Calls Tryz.prog 14 #[.string t] w fun e w' => (∃ j, e = .returned (.string (t.extract j t.size)) ∧ LlN t j) ∧ w = w' := by
  have H0 : Hid (∀ j, t.size - 1 ≤ j → j + 1 < t.size → t.data.toList[j]? ≠ some 10) := fun j hj hl => by omega
  have hw0 : IntKind.i64.wrap ((t.size : Int) - 2) = ((t.size - 1 : Nat) : Int) - 1 := by rw [IntWalk.i64_in _ (by omega)]; omega
  go_enter Tryz.func14, Tryz.ntmps14
  go_wp2_with fail
  go_loop [3] (fun i => ∃ k : Nat, k + 1 ≤ t.size ∧ i = .int .i64 ((k : Int) - 1) ∧ Hid (∀ j, k ≤ j → j + 1 < t.size → t.data.toList[j]? ≠ some 10)) (fun i => (intOf i + 1).toNat)
  case atStart => exact ⟨t.size - 1, by omega, by first | rfl | (rw [hw0]) | (congr 1; omega), H0⟩
  case round =>
   obtain ⟨k, hk, rfl, HK⟩ := hrel
   match k, hk, HK with
   | 0, hk, HK =>
    have hx : t = t.extract 0 t.size := ba_ext (by rw [ext_list, List.take_of_length_le (by simp)]; rfl)
    have HX := Lib.hid hx
    clear hx
    go_wp2_with fail
    go_ret
    exact ⟨⟨0, by rw [← HX.out]; rfl, Nat.zero_le _, .inl rfl, HK.out⟩, rfl⟩
   | j + 1, hk, HK =>
    have hj : j < t.size := by omega
    have e1 : ((j + 1 : Nat) : Int) - 1 = (j : Int) := by omega
    rw [e1]
    have hji : (j : Int) < (t.size : Int) := by omega
    by_cases he : t[j] = 10
    ·have hb : ((t[j].toNat : Int) == 10) = true := by rw [he]; rfl
     have HC : Hid (LlN t (j + 1)) := ⟨by omega, .inr ⟨by omega, by rw [show j + 1 - 1 = j from rfl, lst_at hj, he]⟩, HK.out⟩
     have hw : IntKind.i64.wrap ((j : Int) + 1) = (j : Int) + 1 := IntWalk.i64_in _ (by omega)
     have h3 : (0 : Int) ≤ (j : Int) + 1 := by omega
     have h4 : (j : Int) + 1 ≤ (t.size : Int) := by omega
     have h5 : ((j : Int) + 1).toNat = j + 1 := by omega
     clear he HK
     go_wp2_with fail
     go_ret
     exact ⟨⟨j + 1, rfl, HC.out⟩, rfl⟩
    ·have hb : ((t[j].toNat : Int) == 10) = false := beq_eq_false_iff_ne.2 (fun e => he (UInt8.toNat_inj.1 (by show _ = 10; omega)))
     have HN : Hid (∀ q, j ≤ q → q + 1 < t.size → t.data.toList[q]? ≠ some 10) := fun q hq hl => by
      rcases Nat.eq_or_lt_of_le hq with rfl | hq
      ·rw [lst_at hj]
       intro e
       exact he (Option.some.inj e)
      ·exact HK.out q hq hl
     clear he HK
     go_wp2_with fail
     go_round
     case rel => exact ⟨j, by omega, by go_num, HN⟩
     case measure => simp [intOf]; try omega
theorem stC_list (w : World) (l : List ByteArray) (t : TypeId) : StC (w.alloc (.cells (l.map Value.string).toArray t)) w.heap.size l.length (fun k => l.getD k ⟨#[]⟩) := fun k hk => by
 have h := box_new w (l.map Value.string).toArray t k
 rw [h]
 simp [hk]
theorem of_list (R m B : Nat) (l : List ByteArray) (t : TypeId) (w : World) (hn : 1 ≤ l.length ∧ l.length ≤ 1000) (hm : m ≤ 100000) (hr : RdL w R m) (hB : ∀ x, x ∈ l → x.size ≤ B) :
    Calls Tryz.prog 53 #[.pointer (some ⟨R, 0, none⟩), .slice (some ⟨w.heap.size, 0, none⟩) l.length l.length] (w.alloc (.cells (l.map Value.string).toArray t)) fun e w' => (∃ x : ByteArray, e = .returned (.string x) ∧ x.size ≤ B) ∧ RdL w' R (m + 1) ∧ w.grownBy w' (some R) := by
  have hR := hr.lt
  refine (of_any R m w.heap.size l.length l.length _ _ hn hm (hr.alloc _) (by omega) (stC_list w l t) (by simp)).mono ?_
  rintro e w' ⟨⟨k, hk, rfl⟩, h1, h2⟩
  refine ⟨⟨_, rfl, ?_⟩, h1, grownBy_trans (grownBy_below (below_all _ _) _) h2⟩
  have e : l.getD k ⟨#[]⟩ = l[k] := by simp [List.getD, hk]
  rw [e]
  exact hB _ (List.getElem_mem hk)
theorem many_step {P S n : Nat} : (n % 2 = 1 → P + S + (S + S) * (n / 2) ≤ P + S * n) ∧ P + (S + S) * (n / 2) ≤ P + S * n := by
 have h : n = 2 * (n / 2) + n % 2 := by omega
 have e : (S + S) * (n / 2) = 2 * (S * (n / 2)) := by rw [Nat.add_mul]; omega
 have e2 : S * n = 2 * (S * (n / 2)) + S * (n % 2) := by
  conv => lhs; rw [h]
  rw [Nat.mul_add, ← Nat.mul_assoc, Nat.mul_comm S 2, Nat.mul_assoc]
 rw [e, e2]
 constructor
 ·intro h1
  rw [h1]
  omega
 ·omega
theorem many_pos {S n B : Nat} (h : S * n ≤ B) (hn : 0 < n) : S ≤ B := Nat.le_trans (Nat.le_mul_of_pos_right _ hn) h
set_option linter.unusedSimpArgs false in
set_option maxRecDepth 100000 in
set_option maxHeartbeats 2000000 in
theorem l6Many_any (s : ByteArray) (n B : Nat) (w : World) (hB : s.size * n ≤ B) (h1 : B ≤ 1000000) (h2 : n ≤ 1000000) :
    Calls Tryz.prog 34 #[.string s, .int .i64 n] w fun e w' => (∃ t : ByteArray, e = .returned (.string t) ∧ t.size ≤ B) ∧ w = w' := by
  go_enter Tryz.func34, Tryz.ntmps34
  go_wp2_with fail
  go_loop [0, 1, 5] (fun s i o => ∃ (k : Nat) (S O : ByteArray), i = .int .i64 k ∧ s = .string S ∧ o = .string O ∧ k ≤ n ∧ Hid (O.size + S.size * k ≤ B)) (fun _ i _ => (intOf i).toNat)
  case atStart => exact ⟨n, s, ⟨#[]⟩, rfl, rfl, rfl, Nat.le_refl _, by show 0 + s.size * n ≤ B; omega⟩
  case round =>
   obtain ⟨k, S, O, rfl, rfl, rfl, hk, HO⟩ := hrel
   by_cases h0 : 0 < k
   ·have h0i : (0 : Int) < (k : Int) := by omega
    have hS : S.size ≤ B := many_pos (Nat.le_trans (Nat.le_add_left _ _) HO.out) h0
    have hO : O.size ≤ B := Nat.le_trans (Nat.le_add_right _ _) HO.out
    have hq3 : IntKind.i64.wrap ((k : Int).tdiv 2) = ((k / 2 : Nat) : Int) := by
     rw [Int.tdiv_eq_ediv_of_nonneg (by omega), IntWalk.i64_in _ (by omega)]
     rfl
    by_cases hodd : k % 2 = 1
    ·have HN : Hid ((O ++ S).size + (S ++ S).size * (k / 2) ≤ B) := by
      show _ ≤ _
      rw [ByteArray.size_append, ByteArray.size_append]
      exact Nat.le_trans (many_step.1 hodd) HO.out
     have hr1 : (k : Int) % 2 = 1 := by omega
     clear hodd
     have hq2 : k / 2 < k := by omega
     go_wp2_with fail
     go_roundw
     case rel => exact ⟨k / 2, _, _, by go_num, rfl, rfl, by omega, HN⟩
     case measure => simp [intOf]; omega
    ·have HN : Hid (O.size + (S ++ S).size * (k / 2) ≤ B) := by
      show _ ≤ _
      rw [ByteArray.size_append]
      exact Nat.le_trans many_step.2 HO.out
     have hr1 : (k : Int) % 2 = 0 := by omega
     clear hodd
     go_wp2_with fail
     go_roundw
     case rel => exact ⟨k / 2, _, _, by go_num, rfl, rfl, by omega, HN⟩
     case measure => simp [intOf]; omega
   ·have h0i : ¬ (0 : Int) < (k : Int) := by omega
    have hO : O.size ≤ B := Nat.le_trans (Nat.le_add_right _ _) HO.out
    go_wp2_with fail
    go_ret
    exact ⟨⟨_, rfl, hO⟩, rfl⟩
structure WdM (w wr : World) (R M : Nat) : Prop where
  rd : RdL wr R M
  gr : w.grownBy wr (some R)
theorem WdM.below {w wr w' : World} {R M : Nat} (h : WdM w wr R M) (hb : Below wr.heap.size wr w') : WdM w w' R M := ⟨h.rd.keep hb, grownBy_trans h.gr (grownBy_below hb _)⟩
theorem WdM.pick {w wr w' : World} {R M M' : Nat} (h : WdM w wr R M) (hr : RdL w' R M') (hg : wr.grownBy w' (some R)) : WdM w w' R M' := ⟨hr, grownBy_trans h.gr hg⟩
theorem WdM.mono {w wr : World} {R M M' : Nat} (h : WdM w wr R M) (hm : M ≤ M') : WdM w wr R M' := ⟨h.rd.mono hm, h.gr⟩
set_option linter.unusedSimpArgs false in
set_option maxRecDepth 100000 in
set_option maxHeartbeats 4000000 in
theorem l92Words_any (R m : Nat) (w : World) (hm : m ≤ 5000) (hr : RdL w R m) :
    Calls Tryz.prog 33 #[.pointer (some ⟨R, 0, none⟩)] w fun e w' => (∃ t : ByteArray, e = .returned (.string t) ∧ t.size ≤ 100) ∧ RdL w' R (m + 10) ∧ w.grownBy w' (some R) := by
  have HDC : Hid (∀ (n : Int) W, 0 ≤ n → n ≤ 1000000 → Calls Tryz.prog 32 #[.int .i64 n] W fun e w' => e = .returned (.string (itT n)) ∧ Below W.heap.size W w') := fun n W h1 h2 => dec_any n.toNat n W (Nat.le_refl _) h1 h2
  have HM0 : Hid (WdM w w R m) := ⟨hr, World.grownBy.refl _ _⟩
  clear hr
  go_enter Tryz.func33, Tryz.ntmps33
  go_wp2_with fail
  refine (pickN_any R (m) 10 _ (by omega) (by omega) HM0.out.rd).mono ?_
  rintro e w1 ⟨vw1, rfl, hvw1, hr, hg⟩
  have HM1 := Lib.hid (HM0.out.pick hr hg)
  clear hr hg
  have hcase : vw1 ≤ 2 ∨ vw1 = 3 ∨ vw1 = 4 ∨ vw1 = 5 ∨ vw1 = 6 ∨ 7 ≤ vw1 := by omega
  rcases hcase with h | h | h | h | h | h
  ·have h3 : vw1 = 0 ∨ vw1 = 1 ∨ vw1 = 2 := by omega
   rcases h3 with h3 | h3 | h3
   all_goals
     subst h3
     go_wp2_with fail
     refine (pickN_any R (m + 1) 3 _ (by omega) (by omega) HM1.out.rd).mono ?_
     rintro e w2 ⟨vw2, rfl, hvw2, hr, hg⟩
     have HM2 := Lib.hid (HM1.out.pick hr hg)
     clear hr hg
     go_wp2_with fail
     refine (HDC.out _ _ (by omega) (by omega)).mono ?_
     rintro e w3 ⟨rfl, hb⟩
     have HM3 := Lib.hid (HM2.out.below hb)
     have htxw3 := itT_size ((vw2 : Int)) (by omega) (by omega)
     generalize itT ((vw2 : Int)) = txw3 at *
     clear hb
     go_wp2_with fail
     refine (of_list R (m + 1 + 1) 1 [⟨#[111]⟩, ⟨#[97]⟩, ⟨#[101]⟩, ⟨#[108]⟩, ⟨#[102]⟩, ⟨#[114]⟩, ⟨#[120]⟩] 9 _ (by decide) (by omega) HM3.out.rd (by decide)).mono ?_
     rintro e wz ⟨⟨x, rfl, hx⟩, hr, hg⟩
     have HM4 := Lib.hid (HM3.out.pick hr hg)
     clear hr hg
     go_wp2_with fail
     go_ret
     exact ⟨⟨_, rfl, by simp only [ByteArray.size_append]; show 3 + _ + 1 + _ ≤ _; omega⟩, (HM4.out.mono (by omega)).rd, HM4.out.gr⟩
  ·subst h
   go_wp2_with fail
   refine (of_list R (m + 1) 4 [⟨#[53]⟩, ⟨#[48]⟩, ⟨#[49, 57, 57, 57]⟩, ⟨#[120]⟩, ⟨#[48, 50]⟩] 9 _ (by decide) (by omega) HM1.out.rd (by decide)).mono ?_
   rintro e wz ⟨⟨x, rfl, hx⟩, hr, hg⟩
   have HM2 := Lib.hid (HM1.out.pick hr hg)
   clear hr hg
   go_wp2_with fail
   go_ret
   exact ⟨⟨_, rfl, by simp only [ByteArray.size_append]; show 5 + _ ≤ _; omega⟩, (HM2.out.mono (by omega)).rd, HM2.out.gr⟩
  ·subst h
   go_wp2_with fail
   refine (pickN_any R (m + 1) 30 _ (by omega) (by omega) HM1.out.rd).mono ?_
   rintro e w2 ⟨vw2, rfl, hvw2, hr, hg⟩
   have HM2 := Lib.hid (HM1.out.pick hr hg)
   clear hr hg
   go_wp2_with fail
   refine (HDC.out _ _ (by omega) (by omega)).mono ?_
   rintro e w3 ⟨rfl, hb⟩
   have HM3 := Lib.hid (HM2.out.below hb)
   have htxw3 := itT_size ((vw2 : Int)) (by omega) (by omega)
   generalize itT ((vw2 : Int)) = txw3 at *
   clear hb
   go_wp2_with fail
   refine (pickN_any R (m + 1 + 1) 9 _ (by omega) (by omega) HM3.out.rd).mono ?_
   rintro e w4 ⟨vw4, rfl, hvw4, hr, hg⟩
   have HM4 := Lib.hid (HM3.out.pick hr hg)
   clear hr hg
   go_wp2_with fail
   refine (HDC.out _ _ (by omega) (by omega)).mono ?_
   rintro e w5 ⟨rfl, hb⟩
   have HM5 := Lib.hid (HM4.out.below hb)
   have htxw5 := itT_size (1 + (vw4 : Int)) (by omega) (by omega)
   generalize itT (1 + (vw4 : Int)) = txw5 at *
   clear hb
   go_wp2_with fail
   refine (pickN_any R (m + 1 + 1 + 1) 9 _ (by omega) (by omega) HM5.out.rd).mono ?_
   rintro e w6 ⟨vw6, rfl, hvw6, hr, hg⟩
   have HM6 := Lib.hid (HM5.out.pick hr hg)
   clear hr hg
   go_wp2_with fail
   refine (HDC.out _ _ (by omega) (by omega)).mono ?_
   rintro e w7 ⟨rfl, hb⟩
   have HM7 := Lib.hid (HM6.out.below hb)
   have htxw7 := itT_size (1 + (vw6 : Int)) (by omega) (by omega)
   generalize itT (1 + (vw6 : Int)) = txw7 at *
   clear hb
   go_wp2_with fail
   go_ret
   exact ⟨⟨_, rfl, by simp only [ByteArray.size_append]; show 4 + _ + 1 + _ + 1 + _ ≤ _; omega⟩, (HM7.out.mono (by omega)).rd, HM7.out.gr⟩
  ·subst h
   go_wp2_with fail
   refine (pickN_any R (m + 1) 3 _ (by omega) (by omega) HM1.out.rd).mono ?_
   rintro e w2 ⟨vw2, rfl, hvw2, hr, hg⟩
   have HM2 := Lib.hid (HM1.out.pick hr hg)
   clear hr hg
   go_wp2_with fail
   refine (HDC.out _ _ (by omega) (by omega)).mono ?_
   rintro e w3 ⟨rfl, hb⟩
   have HM3 := Lib.hid (HM2.out.below hb)
   have htxw3 := itT_size ((vw2 : Int)) (by omega) (by omega)
   generalize itT ((vw2 : Int)) = txw3 at *
   clear hb
   go_wp2_with fail
   go_ret
   exact ⟨⟨_, rfl, by simp only [ByteArray.size_append]; show 5 + _ ≤ _; omega⟩, (HM3.out.mono (by omega)).rd, HM3.out.gr⟩
  ·subst h
   go_wp2_with fail
   refine (of_list R (m + 1) 8 [⟨#[]⟩, ⟨#[122, 122, 122]⟩, ⟨#[108, 105, 110, 101, 32, 48, 32, 49]⟩, ⟨#[108, 105, 110, 101, 32, 50]⟩, ⟨#[100, 111, 32, 48]⟩, ⟨#[102, 105, 116, 32, 49]⟩, ⟨#[98, 117, 115, 121, 32, 57]⟩, ⟨#[102, 105, 110, 105, 115, 104, 32, 49]⟩, ⟨#[100, 111, 32, 48, 32, 111, 32]⟩] 9 _ (by decide) (by omega) HM1.out.rd (by decide)).mono ?_
   rintro e wz ⟨⟨x, rfl, hx⟩, hr, hg⟩
   have HM2 := Lib.hid (HM1.out.pick hr hg)
   clear hr hg
   go_wp2_with fail
   go_ret
   exact ⟨⟨_, rfl, by omega⟩, (HM2.out.mono (by omega)).rd, HM2.out.gr⟩
  ·have e0 : ((vw1 : Int) == 0) = false := by simp; omega
   have e1 : ((vw1 : Int) == 1) = false := by simp; omega
   have e2 : ((vw1 : Int) == 2) = false := by simp; omega
   have e3 : ((vw1 : Int) == 3) = false := by simp; omega
   have e4 : ((vw1 : Int) == 4) = false := by simp; omega
   have e5 : ((vw1 : Int) == 5) = false := by simp; omega
   have e6 : ((vw1 : Int) == 6) = false := by simp; omega
   go_wp2_with fail
   refine (of_list R (m + 1) 8 [⟨#[119, 104, 101, 114, 101]⟩, ⟨#[110, 101, 120, 116]⟩, ⟨#[102, 105, 110, 105, 115, 104]⟩, ⟨#[98, 117, 115, 121, 32, 48]⟩, ⟨#[98, 117, 115, 121, 32, 49]⟩] 9 _ (by decide) (by omega) HM1.out.rd (by decide)).mono ?_
   rintro e wz ⟨⟨x, rfl, hx⟩, hr, hg⟩
   have HM2 := Lib.hid (HM1.out.pick hr hg)
   clear hr hg
   go_wp2_with fail
   go_ret
   exact ⟨⟨_, rfl, by omega⟩, (HM2.out.mono (by omega)).rd, HM2.out.gr⟩
set_option linter.unusedSimpArgs false in
set_option maxRecDepth 100000 in
set_option maxHeartbeats 4000000 in
theorem drawExecute_any (ao : Option Addr) (n c : Nat) (w : World) (hnc : n ≤ c) (hn : n ≤ 9223372036854775807) (hB : BSl w ao n) :
    Calls Tryz.prog 10 #[.slice ao n c] w fun e w' => (∃ t : ByteArray, e = .returned (.string t) ∧ t.size ≤ 5000) ∧ Below w.heap.size w w' := by
  have HDC : Hid (∀ (n : Int) W, 0 ≤ n → n ≤ 1000000 → Calls Tryz.prog 32 #[.int .i64 n] W fun e w' => e = .returned (.string (itT n)) ∧ Below W.heap.size W w') := fun n W h1 h2 => dec_any n.toNat n W (Nat.le_refl _) h1 h2
  have HBS := Lib.hid hB
  clear hB
  go_enter Tryz.func10, Tryz.ntmps10
  go_wp2_with fail
  refine (open_any ao n c _ hn hnc HBS.out).mono ?_
  rintro e w1 ⟨R, rfl, hR, hr, hb1⟩
  have HB1 := Lib.hid hb1
  have HM1 : Hid (WdM w1 w1 R 0) := ⟨hr, World.grownBy.refl _ _⟩
  clear hr hb1
  go_wp2_with fail
  refine (pickN_any R (0) 5 _ (by omega) (by omega) HM1.out.rd).mono ?_
  rintro e w2 ⟨vw2, rfl, hvw2, hr, hg⟩
  have HM2 := Lib.hid (HM1.out.pick hr hg)
  clear hr hg
  by_cases h0 : vw2 = 0
  ·subst h0
   go_wp2_with fail
   refine (pickN_any R (0 + 1) 12 _ (by omega) (by omega) HM2.out.rd).mono ?_
   rintro e w4 ⟨vw4, rfl, hvw4, hr, hg⟩
   have HM4 := Lib.hid (HM2.out.pick hr hg)
   clear hr hg
   go_wp2_with fail
   go_loopw [4, 6] (fun o i wr => ∃ (k : Nat) (t : ByteArray), k ≤ vw4 ∧ i = .int .i64 k ∧ o = .string t ∧ t.size ≤ 60 + 101 * k ∧ Hid (WdM w1 wr R (10 + 10 * k))) (fun _ i _ => vw4 - (intOf i).toNat)
   case atStart => exact ⟨0, ⟨#[]⟩, Nat.zero_le _, rfl, rfl, by show (0 : Nat) ≤ _; omega, Lib.hid (HM4.out.mono (by omega))⟩
   case round =>
    obtain ⟨k, t, hk, rfl, rfl, ht, HM⟩ := hrel
    by_cases hlt : k < vw4
    ·have hlt' : (k : Int) < (vw4 : Int) := by omega
     go_wp2_with fail
     refine (l92Words_any R (10 + 10 * k) _ (by omega) HM.out.rd).mono ?_
     rintro e w5 ⟨⟨x, rfl, hx⟩, hr, hg⟩
     have HM5 := Lib.hid (HM.out.pick hr hg)
     clear hr hg
     go_wp2_with fail
     go_roundw
     case rel => exact ⟨k + 1, _, by omega, by go_num, rfl, by simp only [ByteArray.size_append]; show t.size + x.size + 1 ≤ _; omega, Lib.hid (HM5.out.mono (by omega))⟩
     case measure => simp [intOf]; omega
    ·obtain rfl : k = vw4 := by omega
     go_wp2_with fail
     refine (pickN_any R (10 + 10 * k) 24 _ (by omega) (by omega) HM.out.rd).mono ?_
     rintro e w6 ⟨vw6, rfl, hvw6, hr, hg⟩
     have HM6 := Lib.hid (HM.out.pick hr hg)
     clear hr hg
     have HB6 : Hid (Below w.heap.size w w6) := HB1.out.trans (below_of_grown HM6.out.gr hR HB1.out.size)
     have hcase : vw6 = 0 ∨ vw6 = 1 ∨ 2 ≤ vw6 := by omega
     rcases hcase with h | h | h
     ·subst h
      go_wp2_with fail
      go_ret
      exact ⟨⟨_, rfl, by simp only [ByteArray.size_append]; show t.size + 5 ≤ _; omega⟩, HB6.out⟩
     ·subst h
      go_wp2_with fail
      refine (l6Many_any ⟨#[119, 104, 101, 114, 101, 10]⟩ 90 540 _ (by decide) (by omega) (by omega)).mono ?_
      rintro e w7 ⟨⟨x, rfl, hx⟩, rfl⟩
      go_wp2_with fail
      go_ret
      exact ⟨⟨_, rfl, by simp only [ByteArray.size_append]; omega⟩, HB6.out⟩
     ·have e0 : ((vw6 : Int) == 0) = false := by simp; omega
      have e1 : ((vw6 : Int) == 1) = false := by simp; omega
      go_wp2_with fail
      go_ret
      exact ⟨⟨_, rfl, by omega⟩, HB6.out⟩
  ·have h0i : (0 : Int) < (vw2 : Int) := by omega
   go_wp2_with fail
   refine (pickN_any R (0 + 1) 3 _ (by omega) (by omega) HM2.out.rd).mono ?_
   rintro e w3 ⟨vw3, rfl, hvw3, hr, hg⟩
   have HM3 := Lib.hid (HM2.out.pick hr hg)
   clear hr hg
   go_wp2_with fail
   refine (HDC.out _ _ (by omega) (by omega)).mono ?_
   rintro e w5 ⟨rfl, hb⟩
   have HM5 := Lib.hid (HM3.out.below hb)
   have htxw5 := itT_size (1 + (vw3 : Int)) (by omega) (by omega)
   generalize itT (1 + (vw3 : Int)) = txw5 at *
   clear hb
   go_wp2_with fail
   refine (pickN_any R (0 + 1 + 1) 4 _ (by omega) (by omega) HM5.out.rd).mono ?_
   rintro e w6 ⟨vw6, rfl, hvw6, hr, hg⟩
   have HM6 := Lib.hid (HM5.out.pick hr hg)
   clear hr hg
   go_wp2_with fail
   refine (HDC.out _ _ (by omega) (by omega)).mono ?_
   rintro e w7 ⟨rfl, hb⟩
   have HM7 := Lib.hid (HM6.out.below hb)
   have htxw7 := itT_size ((vw6 : Int)) (by omega) (by omega)
   generalize itT ((vw6 : Int)) = txw7 at *
   clear hb
   go_wp2_with fail
   refine (pickN_any R (0 + 1 + 1 + 1) 12 _ (by omega) (by omega) HM7.out.rd).mono ?_
   rintro e w4 ⟨vw4, rfl, hvw4, hr, hg⟩
   have HM4 := Lib.hid (HM7.out.pick hr hg)
   clear hr hg
   clear hvw6 HM6
   go_wp2_with fail
   go_loopw [4, 6] (fun o i wr => ∃ (k : Nat) (t : ByteArray), k ≤ vw4 ∧ i = .int .i64 k ∧ o = .string t ∧ t.size ≤ 60 + 101 * k ∧ Hid (WdM w1 wr R (10 + 10 * k))) (fun _ i _ => vw4 - (intOf i).toNat)
   case atStart => exact ⟨0, _, Nat.zero_le _, rfl, rfl, by simp only [ByteArray.size_append]; show 5 + _ + 1 + _ + 1 ≤ _; omega, Lib.hid (HM4.out.mono (by omega))⟩
   case round =>
    obtain ⟨k, t, hk, rfl, rfl, ht, HM⟩ := hrel
    by_cases hlt : k < vw4
    ·have hlt' : (k : Int) < (vw4 : Int) := by omega
     go_wp2_with fail
     refine (l92Words_any R (10 + 10 * k) _ (by omega) HM.out.rd).mono ?_
     rintro e w5 ⟨⟨x, rfl, hx⟩, hr, hg⟩
     have HM5 := Lib.hid (HM.out.pick hr hg)
     clear hr hg
     go_wp2_with fail
     go_roundw
     case rel => exact ⟨k + 1, _, by omega, by go_num, rfl, by simp only [ByteArray.size_append]; show t.size + x.size + 1 ≤ _; omega, Lib.hid (HM5.out.mono (by omega))⟩
     case measure => simp [intOf]; omega
    ·obtain rfl : k = vw4 := by omega
     go_wp2_with fail
     refine (pickN_any R (10 + 10 * k) 24 _ (by omega) (by omega) HM.out.rd).mono ?_
     rintro e w6 ⟨vw6, rfl, hvw6, hr, hg⟩
     have HM6 := Lib.hid (HM.out.pick hr hg)
     clear hr hg
     have HB6 : Hid (Below w.heap.size w w6) := HB1.out.trans (below_of_grown HM6.out.gr hR HB1.out.size)
     have hcase : vw6 = 0 ∨ vw6 = 1 ∨ 2 ≤ vw6 := by omega
     rcases hcase with h | h | h
     ·subst h
      go_wp2_with fail
      go_ret
      exact ⟨⟨_, rfl, by simp only [ByteArray.size_append]; show t.size + 5 ≤ _; omega⟩, HB6.out⟩
     ·subst h
      go_wp2_with fail
      refine (l6Many_any ⟨#[119, 104, 101, 114, 101, 10]⟩ 90 540 _ (by decide) (by omega) (by omega)).mono ?_
      rintro e w7 ⟨⟨x, rfl, hx⟩, rfl⟩
      go_wp2_with fail
      go_ret
      exact ⟨⟨_, rfl, by simp only [ByteArray.size_append]; omega⟩, HB6.out⟩
     ·have e0 : ((vw6 : Int) == 0) = false := by simp; omega
      have e1 : ((vw6 : Int) == 1) = false := by simp; omega
      go_wp2_with fail
      go_ret
      exact ⟨⟨_, rfl, by omega⟩, HB6.out⟩
end Go.Proofs.YtlkdmpfifpkpaaaGreatDoor

