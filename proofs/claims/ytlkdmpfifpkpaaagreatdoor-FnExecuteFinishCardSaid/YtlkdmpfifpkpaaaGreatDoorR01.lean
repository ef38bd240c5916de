/-
  Parts of the proof of fnExecuteFinish_proved: Sh Own Base Bx Rd A Sm Rx. No condition.
-/
import Derived.Shelf.Strings.Builder1
import Derived.Shelf.Strings.Builder2
import Derived.Shelf.Strings.OnBuilder
import Derived.Shelf.Strings.BuilderF
import Derived.Shelf.Strconv.Itoa0
import Derived.Shelf.Strconv.Itoa1
import Derived.Shelf.LaysM
import Derived.Shelf.Strconv.Itoa2
import Derived.Shelf.Strconv.Itoa3
import Derived.Shelf.Strings.Search1
import Derived.Shelf.Strings.Search2
import Derived.Shelf.Strings.Search3
import Derived.Shelf.Strings.Count
import Derived.Shelf.Strings.Shaped
import Derived.Shelf.Strings.Split
import Derived.Shelf.Strings.SplitShaped
import Derived.Shelf.Unicode.DecodeSlow
import Derived.Test.YtlkdmpfifpkpaaaGreatDoorProg
import Derived.WalkKit
import Derived.WalkSpells
import Derived.WalkLawsBesides
import Derived.Lib.Hide
import Derived.BigQuiet
import Derived.Deep.QuietTactic
import Derived.Deep.RegionHeld3
import Derived.Deep.DeepFit
import Derived.Test.YtlkdmpfifpkpaaaGreatDoorChecked
import Derived.Laws.BitsAllLaws
namespace Go.Proofs
open Go.Shelf
def Tryz.lays156_ren : Go.Shelf.Ren := ⟨fun | 156 => 127 | 165 => 148 | 166 => 36 | 169 => 39 | 240 => 55 | 241 => 168 | 276 => 73 | 277 => 174 | n => n, fun | 31 => 60 | 9 => 9 | 3 => 3 | 4 => 4 | 0 => 0 | 20 => 20 | 72 => 59 | 76 => 64 | 70 => 57 | 37 => 22 | 75 => 63 | 127 => 89 | 164 => 112 | 5 => 5 | 80 => 66 | n => n, fun | n => n⟩
theorem Tryz.lays156 : Go.Proofs.Lays.n156 Tryz.prog Tryz.lays156_ren := {
  mixed := by kernel_rfl
  f156 := Tryz.func127.trans (congrArg some (by kernel_rfl))
  f165 := Tryz.func148.trans (congrArg some (by kernel_rfl))
  f166 := Tryz.func36.trans (congrArg some (by kernel_rfl))
  f169 := Tryz.func39.trans (congrArg some (by kernel_rfl))
  f240 := Tryz.func55.trans (congrArg some (by kernel_rfl))
  f241 := Tryz.func168.trans (congrArg some (by kernel_rfl))
  f276 := Tryz.func73.trans (congrArg some (by kernel_rfl))
  f277 := Tryz.func174.trans (congrArg some (by kernel_rfl))
  t0 := Tryz.underlying0
  a0 := Tryz.isAgg0
  z0 := Tryz.sizeOf0
  v0 := Tryz.zeroValue0
  t3 := Tryz.underlying3
  a3 := Tryz.isAgg3
  z3 := Tryz.sizeOf3
  v3 := Tryz.zeroValue3
  t4 := Tryz.underlying4
  a4 := Tryz.isAgg4
  z4 := Tryz.sizeOf4
  v4 := Tryz.zeroValue4
  t9 := Tryz.underlying9
  a9 := Tryz.isAgg9
  z9 := Tryz.sizeOf9
  v9 := Tryz.zeroValue9
  t20 := Tryz.underlying20
  a20 := Tryz.isAgg20
  z20 := Tryz.sizeOf20
  v20 := Tryz.zeroValue20
  t31 := Tryz.underlying60
  a31 := Tryz.isAgg60
  z31 := Tryz.sizeOf60
  v31 := Tryz.zeroValue60
  t37 := Tryz.underlying22
  a37 := Tryz.isAgg22
  z37 := Tryz.sizeOf22
  v37 := Tryz.zeroValue22
  t70 := Tryz.underlying57
  a70 := Tryz.isAgg57
  z70 := Tryz.sizeOf57
  v70 := Tryz.zeroValue57
  t72 := Tryz.underlying59
  a72 := Tryz.isAgg59
  z72 := Tryz.sizeOf59
  v72 := Tryz.zeroValue59
  t75 := Tryz.underlying63
  a75 := Tryz.isAgg63
  z75 := Tryz.sizeOf63
  v75 := Tryz.zeroValue63
  t76 := Tryz.underlying64
  a76 := Tryz.isAgg64
  z76 := Tryz.sizeOf64
  v76 := Tryz.zeroValue64
  t127 := Tryz.underlying89
  a127 := Tryz.isAgg89
  z127 := Tryz.sizeOf89
  v127 := Tryz.zeroValue89
  t164 := Tryz.underlying112
  a164 := Tryz.isAgg112
  z164 := Tryz.sizeOf112
  v164 := Tryz.zeroValue112 }
theorem Tryz.Builder_Extra_156 : Builder.Extra Tryz.prog Tryz.lays156_ren := {
  sizeBuilder := by kernel_rfl
  liesBuilder := by kernel_rfl
  t5 := Tryz.underlying5
  a5 := Tryz.isAgg5
  z5 := Tryz.sizeOf5
  v5 := Tryz.zeroValue5
  infoByte := by kernel_rfl
  cellsByte := by kernel_rfl
  sizeByte := by kernel_rfl
  neB5 := by decide }
open Go.RowKit in
open Go.RowKit in
theorem Tryz.strings_Join (bk o c : Nat) (xs : List ByteArray) (sep : ByteArray) (w : World) (hcells : ∀ (j : Nat) x, xs[j]? = some x → w.cell? ⟨bk, o + j, none⟩ = some (.string x)) (hbk : bk < w.heap.size) (hN : xs.length ≤ 140737488355328) (hcap : xs.length ≤ c) (hlen : (Lib.join (xs.map (·.data.toList)) sep.data.toList).length ≤ 140737488355328) :
    Calls Tryz.prog 127 #[.slice (some ⟨bk, o, none⟩) xs.length c, .string sep] w fun e w' => e = .returned (.string ⟨(Lib.join (xs.map (·.data.toList)) sep.data.toList).toArray⟩) ∧ Below w.heap.size w w' := Any.strings_Join Tryz.lays156 Tryz.Builder_Extra_156 bk o c xs sep w hcells hbk hN hcap hlen
def Tryz.laysM171_ren : Go.Shelf.Ren := ⟨fun | 171 => 38 | 243 => 58 | 246 => 77 | 283 => 105 | 284 => 106 | 285 => 107 | 286 => 108 | 129 => 132 | 317 => 131 | 318 => 133 | 319 => 134 | 320 => 135 | 337 => 153 | 338 => 154 | n => n, fun | 3 => 3 | 9 => 9 | 2 => 2 | 4 => 4 | 171 => 141 | 0 => 0 | 53 => 142 | 37 => 22 | 5 => 5 | 173 => 145 | 212 => 161 | 51 => 162 | 20 => 20 | 213 => 163 | 46 => 157 | 232 => 204 | 233 => 205 | n => n, fun | 17 => 1 | 18 => 4 | 19 => 5 | n => n⟩
theorem Tryz.laysM171 : Go.Proofs.LaysM.n171 Tryz.prog Tryz.laysM171_ren := {
  mixed := by kernel_rfl
  f129 := Tryz.func132.trans (congrArg some (by kernel_rfl))
  f171 := Tryz.func38.trans (congrArg some (by kernel_rfl))
  f243 := Tryz.func58.trans (congrArg some (by kernel_rfl))
  f246 := Tryz.func77.trans (congrArg some (by kernel_rfl))
  f283 := Tryz.func105.trans (congrArg some (by kernel_rfl))
  f284 := Tryz.func106.trans (congrArg some (by kernel_rfl))
  f285 := Tryz.func107.trans (congrArg some (by kernel_rfl))
  f286 := Tryz.func108.trans (congrArg some (by kernel_rfl))
  f317 := Tryz.func131.trans (congrArg some (by kernel_rfl))
  f318 := Tryz.func133.trans (congrArg some (by kernel_rfl))
  f319 := Tryz.func134.trans (congrArg some (by kernel_rfl))
  f320 := Tryz.func135.trans (congrArg some (by kernel_rfl))
  f337 := Tryz.func153.trans (congrArg some (by kernel_rfl))
  f338 := Tryz.func154.trans (congrArg some (by kernel_rfl))
  t0 := Tryz.underlying0
  a0 := Tryz.isAgg0
  z0 := Tryz.sizeOf0
  v0 := Tryz.zeroValue0
  t2 := Tryz.underlying2
  a2 := Tryz.isAgg2
  z2 := Tryz.sizeOf2
  v2 := Tryz.zeroValue2
  t3 := Tryz.underlying3
  a3 := Tryz.isAgg3
  z3 := Tryz.sizeOf3
  v3 := Tryz.zeroValue3
  t4 := Tryz.underlying4
  a4 := Tryz.isAgg4
  z4 := Tryz.sizeOf4
  v4 := Tryz.zeroValue4
  t5 := Tryz.underlying5
  a5 := Tryz.isAgg5
  z5 := Tryz.sizeOf5
  v5 := Tryz.zeroValue5
  t9 := Tryz.underlying9
  a9 := Tryz.isAgg9
  z9 := Tryz.sizeOf9
  v9 := Tryz.zeroValue9
  t20 := Tryz.underlying20
  a20 := Tryz.isAgg20
  z20 := Tryz.sizeOf20
  v20 := Tryz.zeroValue20
  t37 := Tryz.underlying22
  a37 := Tryz.isAgg22
  z37 := Tryz.sizeOf22
  v37 := Tryz.zeroValue22
  t46 := Tryz.underlying157
  a46 := Tryz.isAgg157
  z46 := Tryz.sizeOf157
  v46 := Tryz.zeroValue157
  t51 := Tryz.underlying162
  a51 := Tryz.isAgg162
  z51 := Tryz.sizeOf162
  v51 := Tryz.zeroValue162
  t53 := Tryz.underlying142
  a53 := Tryz.isAgg142
  z53 := Tryz.sizeOf142
  v53 := Tryz.zeroValue142
  t171 := Tryz.underlying141
  a171 := Tryz.isAgg141
  z171 := Tryz.sizeOf141
  v171 := Tryz.zeroValue141
  t173 := Tryz.underlying145
  a173 := Tryz.isAgg145
  z173 := Tryz.sizeOf145
  v173 := Tryz.zeroValue145
  t212 := Tryz.underlying161
  a212 := Tryz.isAgg161
  z212 := Tryz.sizeOf161
  v212 := Tryz.zeroValue161
  t213 := Tryz.underlying163
  a213 := Tryz.isAgg163
  z213 := Tryz.sizeOf163
  t232 := Tryz.underlying204
  a232 := Tryz.isAgg204
  z232 := Tryz.sizeOf204
  v232 := Tryz.zeroValue204
  t233 := Tryz.underlying205
  a233 := Tryz.isAgg205
  z233 := Tryz.sizeOf205
  v233 := Tryz.zeroValue205
  g17 := by kernel_rfl
  g18 := by kernel_rfl
  g19 := by kernel_rfl
  i0 := by kernel_rfl
  i2 := by kernel_rfl
  i3 := by kernel_rfl
  i4 := by kernel_rfl
  i5 := by kernel_rfl
  i9 := by kernel_rfl
  i20 := by kernel_rfl
  i37 := by kernel_rfl
  i46 := by kernel_rfl
  i51 := by kernel_rfl
  i53 := by kernel_rfl
  i171 := by kernel_rfl
  i173 := by kernel_rfl
  i212 := by kernel_rfl
  i232 := by kernel_rfl
  i233 := by kernel_rfl
  m17 := by kernel_rfl
  m18 := by kernel_rfl
  m19 := by kernel_rfl }
open Go.RowKit Go.Sort Go.Lib in
theorem Tryz.strconv_Itoa (n : Int) (h0 : -9223372036854775808 ≤ n) (h1 : n ≤ 9223372036854775807) (w : World) (htab : Lib.TabIs Tryz.prog w "internal/strconv.uint64pow10" .u64 Lib.pow10Tab) :
    Calls Tryz.prog 38 #[.int .i64 n] w fun e w' => e = .returned (.string ⟨(Lib.itoa n).toArray⟩) ∧ ∃ k os, w' = grow (w.drewN k) os := Any.strconv_Itoa Tryz.laysM171 n h0 h1 w htab
def Tryz.lays171_ren : Go.Shelf.Ren := ⟨fun | 171 => 38 | 243 => 58 | 246 => 77 | 283 => 105 | 284 => 106 | 285 => 107 | 286 => 108 | 129 => 132 | 317 => 131 | 318 => 133 | 319 => 134 | 320 => 135 | 337 => 153 | 338 => 154 | n => n, fun | 3 => 3 | 9 => 9 | 2 => 2 | 4 => 4 | 171 => 141 | 0 => 0 | 53 => 142 | 37 => 22 | 5 => 5 | 173 => 145 | 212 => 161 | 51 => 162 | 20 => 20 | 213 => 163 | 46 => 157 | 232 => 204 | 233 => 205 | n => n, fun | 17 => 1 | 18 => 4 | 19 => 5 | n => n⟩
theorem Tryz.lays171 : Go.Proofs.Lays.n171 Tryz.prog Tryz.lays171_ren := {
  mixed := by kernel_rfl
  f129 := Tryz.func132.trans (congrArg some (by kernel_rfl))
  f171 := Tryz.func38.trans (congrArg some (by kernel_rfl))
  f243 := Tryz.func58.trans (congrArg some (by kernel_rfl))
  f246 := Tryz.func77.trans (congrArg some (by kernel_rfl))
  f283 := Tryz.func105.trans (congrArg some (by kernel_rfl))
  f284 := Tryz.func106.trans (congrArg some (by kernel_rfl))
  f285 := Tryz.func107.trans (congrArg some (by kernel_rfl))
  f286 := Tryz.func108.trans (congrArg some (by kernel_rfl))
  f317 := Tryz.func131.trans (congrArg some (by kernel_rfl))
  f318 := Tryz.func133.trans (congrArg some (by kernel_rfl))
  f319 := Tryz.func134.trans (congrArg some (by kernel_rfl))
  f320 := Tryz.func135.trans (congrArg some (by kernel_rfl))
  f337 := Tryz.func153.trans (congrArg some (by kernel_rfl))
  f338 := Tryz.func154.trans (congrArg some (by kernel_rfl))
  t0 := Tryz.underlying0
  a0 := Tryz.isAgg0
  z0 := Tryz.sizeOf0
  v0 := Tryz.zeroValue0
  t2 := Tryz.underlying2
  a2 := Tryz.isAgg2
  z2 := Tryz.sizeOf2
  v2 := Tryz.zeroValue2
  t3 := Tryz.underlying3
  a3 := Tryz.isAgg3
  z3 := Tryz.sizeOf3
  v3 := Tryz.zeroValue3
  t4 := Tryz.underlying4
  a4 := Tryz.isAgg4
  z4 := Tryz.sizeOf4
  v4 := Tryz.zeroValue4
  t5 := Tryz.underlying5
  a5 := Tryz.isAgg5
  z5 := Tryz.sizeOf5
  v5 := Tryz.zeroValue5
  t9 := Tryz.underlying9
  a9 := Tryz.isAgg9
  z9 := Tryz.sizeOf9
  v9 := Tryz.zeroValue9
  t20 := Tryz.underlying20
  a20 := Tryz.isAgg20
  z20 := Tryz.sizeOf20
  v20 := Tryz.zeroValue20
  t37 := Tryz.underlying22
  a37 := Tryz.isAgg22
  z37 := Tryz.sizeOf22
  v37 := Tryz.zeroValue22
  t46 := Tryz.underlying157
  a46 := Tryz.isAgg157
  z46 := Tryz.sizeOf157
  v46 := Tryz.zeroValue157
  t51 := Tryz.underlying162
  a51 := Tryz.isAgg162
  z51 := Tryz.sizeOf162
  v51 := Tryz.zeroValue162
  t53 := Tryz.underlying142
  a53 := Tryz.isAgg142
  z53 := Tryz.sizeOf142
  v53 := Tryz.zeroValue142
  t171 := Tryz.underlying141
  a171 := Tryz.isAgg141
  z171 := Tryz.sizeOf141
  v171 := Tryz.zeroValue141
  t173 := Tryz.underlying145
  a173 := Tryz.isAgg145
  z173 := Tryz.sizeOf145
  v173 := Tryz.zeroValue145
  t212 := Tryz.underlying161
  a212 := Tryz.isAgg161
  z212 := Tryz.sizeOf161
  v212 := Tryz.zeroValue161
  t213 := Tryz.underlying163
  a213 := Tryz.isAgg163
  z213 := Tryz.sizeOf163
  t232 := Tryz.underlying204
  a232 := Tryz.isAgg204
  z232 := Tryz.sizeOf204
  v232 := Tryz.zeroValue204
  t233 := Tryz.underlying205
  a233 := Tryz.isAgg205
  z233 := Tryz.sizeOf205
  v233 := Tryz.zeroValue205
  g17 := by kernel_rfl
  g18 := by kernel_rfl
  g19 := by kernel_rfl }
open Go.RowKit Go.Sort Go.Lib in
theorem Tryz.strconv_Itoa_small (i : Nat) (hi : i < 100) (w : World) :
    Calls Tryz.prog 38 #[.int .i64 i] w fun e w' => e = .returned (.string ⟨(Lib.decDigits i).toArray⟩) ∧ w' = w := Any.strconv_Itoa_small Tryz.lays171 i hi w
open Go.RowKit Go.Lib in
def Tryz.lays146_ren : Go.Shelf.Ren := ⟨fun | 146 => 35 | 221 => 54 | 268 => 70 | 138 => 71 | 143 => 72 | 195 => 92 | 197 => 93 | 218 => 94 | 219 => 95 | 260 => 115 | 217 => 116 | 225 => 117 | 224 => 118 | 267 => 119 | 266 => 139 | 314 => 140 | n => n, fun | 9 => 9 | 31 => 60 | 3 => 3 | 4 => 4 | 0 => 0 | 105 => 139 | 21 => 21 | 5 => 5 | 46 => 157 | 119 => 168 | 139 => 171 | 138 => 170 | 146 => 172 | 51 => 162 | n => n, fun | 1 => 0 | 3 => 2 | 4 => 3 | n => n⟩
theorem Tryz.lays146 : Go.Proofs.Lays.n146 Tryz.prog Tryz.lays146_ren := {
  mixed := by kernel_rfl
  f138 := Tryz.func71.trans (congrArg some (by kernel_rfl))
  f143 := Tryz.func72.trans (congrArg some (by kernel_rfl))
  f146 := Tryz.func35.trans (congrArg some (by kernel_rfl))
  f195 := Tryz.func92.trans (congrArg some (by kernel_rfl))
  f197 := Tryz.func93.trans (congrArg some (by kernel_rfl))
  f217 := Tryz.func116.trans (congrArg some (by kernel_rfl))
  f218 := Tryz.func94.trans (congrArg some (by kernel_rfl))
  f219 := Tryz.func95.trans (congrArg some (by kernel_rfl))
  f221 := Tryz.func54.trans (congrArg some (by kernel_rfl))
  f224 := Tryz.func118.trans (congrArg some (by kernel_rfl))
  f225 := Tryz.func117.trans (congrArg some (by kernel_rfl))
  f260 := Tryz.func115.trans (congrArg some (by kernel_rfl))
  f266 := Tryz.func139.trans (congrArg some (by kernel_rfl))
  f267 := Tryz.func119.trans (congrArg some (by kernel_rfl))
  f268 := Tryz.func70.trans (congrArg some (by kernel_rfl))
  f314 := Tryz.func140.trans (congrArg some (by kernel_rfl))
  t0 := Tryz.underlying0
  a0 := Tryz.isAgg0
  z0 := Tryz.sizeOf0
  v0 := Tryz.zeroValue0
  t3 := Tryz.underlying3
  a3 := Tryz.isAgg3
  z3 := Tryz.sizeOf3
  v3 := Tryz.zeroValue3
  t4 := Tryz.underlying4
  a4 := Tryz.isAgg4
  z4 := Tryz.sizeOf4
  v4 := Tryz.zeroValue4
  t5 := Tryz.underlying5
  a5 := Tryz.isAgg5
  z5 := Tryz.sizeOf5
  v5 := Tryz.zeroValue5
  t9 := Tryz.underlying9
  a9 := Tryz.isAgg9
  z9 := Tryz.sizeOf9
  v9 := Tryz.zeroValue9
  t21 := Tryz.underlying21
  a21 := Tryz.isAgg21
  z21 := Tryz.sizeOf21
  v21 := Tryz.zeroValue21
  t31 := Tryz.underlying60
  a31 := Tryz.isAgg60
  z31 := Tryz.sizeOf60
  v31 := Tryz.zeroValue60
  t46 := Tryz.underlying157
  a46 := Tryz.isAgg157
  z46 := Tryz.sizeOf157
  v46 := Tryz.zeroValue157
  t51 := Tryz.underlying162
  a51 := Tryz.isAgg162
  z51 := Tryz.sizeOf162
  v51 := Tryz.zeroValue162
  t105 := Tryz.underlying139
  a105 := Tryz.isAgg139
  z105 := Tryz.sizeOf139
  v105 := Tryz.zeroValue139
  t119 := Tryz.underlying168
  a119 := Tryz.isAgg168
  z119 := Tryz.sizeOf168
  t138 := Tryz.underlying170
  a138 := Tryz.isAgg170
  z138 := Tryz.sizeOf170
  v138 := Tryz.zeroValue170
  t139 := Tryz.underlying171
  a139 := Tryz.isAgg171
  z139 := Tryz.sizeOf171
  v139 := Tryz.zeroValue171
  t146 := Tryz.underlying172
  a146 := Tryz.isAgg172
  z146 := Tryz.sizeOf172
  v146 := Tryz.zeroValue172
  g1 := by kernel_rfl
  g3 := by kernel_rfl
  g4 := by kernel_rfl }
open Go.RowKit Go.Lib in
theorem Tryz.strings_Split (s sep : ByteArray) (m : Int) (w : World) (hs : s.size < 4294967281) (hm : w.cell? ⟨0, 0, none⟩ = some (.int .i64 m)) (h1 : 1 ≤ sep.size) :
    Calls Tryz.prog 35 #[.string s, .string sep] w fun e w' =>
      e = .returned (.slice (some ⟨w.heap.size, 0, none⟩) (Lib.countB s sep + 1) (Lib.countB s sep + 1)) ∧ w' = w.alloc (.cells ((Lib.splitB sep 0 (Lib.countB s sep) s).map Value.string).toArray 9) := Any.strings_Split Tryz.lays146 (by kernel_rfl) s sep m w hs hm h1
end Go.Proofs
namespace Go.Proofs.YtlkdmpfifpkpaaaGreatDoor
open Go.RowKit

/-- block g is a row of the call's own with room for cap elements of s cells; the first n hold f -/
def Own (w : World) (g cap n s : Nat) (t : TypeId) (f : Nat → Value) : Prop :=
  n ≤ cap ∧ cap ≤ maxLen ∧ ∃ cur, w.heap[g]? = some (.cells cur t (0, 0)) ∧ cur.size = cap * s ∧ ∀ i, i < n * s → cur[i]? = some (f i)

theorem Own.lt {w : World} {g cap n s : Nat} {t : TypeId} {f : Nat → Value} (h : Own w g cap n s t f) : g < w.heap.size := by
  obtain ⟨_, _, cur, hg, _⟩ := h
  exact (Array.getElem?_eq_some_iff.1 hg).1
theorem Own.cell {w : World} {g cap n s : Nat} {t : TypeId} {f : Nat → Value} (h : Own w g cap n s t f) {i : Nat} (hi : i < n * s) : w.cell? ⟨g, i, none⟩ = some (f i) := by
  obtain ⟨_, _, cur, hg, _, hc⟩ := h
  simp [World.cell?, hg, hc i hi]
theorem Own.cell1 {w : World} {g cap n : Nat} {t : TypeId} {f : Nat → Value} (h : Own w g cap n 1 t f) {i : Nat} (hi : i < n) : w.cell? ⟨g, i, none⟩ = some (f i) := h.cell (by omega)
theorem Own.free {w : World} {g cap n s : Nat} {t : TypeId} {f : Nat → Value} (h : Own w g cap n s t f) (i : Nat) : w.frozen? ⟨g, i, none⟩ = false := by
  obtain ⟨_, _, cur, hg, _⟩ := h
  simp [World.frozen?, hg]
theorem Own.of_block {w w' : World} {g cap n s : Nat} {t : TypeId} {f : Nat → Value} (h : Own w g cap n s t f) (e : w'.heap[g]? = w.heap[g]?) : Own w' g cap n s t f := by
  obtain ⟨h1, h2, cur, hg, h3, h4⟩ := h
  exact ⟨h1, h2, cur, e.trans hg, h3, h4⟩
theorem Own.congr {w : World} {g cap n s : Nat} {t : TypeId} {f f' : Nat → Value} (h : Own w g cap n s t f) (e : ∀ i, i < n * s → f i = f' i) : Own w g cap n s t f' := by
  obtain ⟨h1, h2, cur, hg, h3, h4⟩ := h
  exact ⟨h1, h2, cur, hg, h3, fun i hi => by rw [h4 i hi, e i hi]⟩
theorem Own.alloc {w : World} {g cap n s : Nat} {t : TypeId} {f : Nat → Value} (h : Own w g cap n s t f) (o : Obj) : Own (w.alloc o) g cap n s t f :=
  h.of_block (Below.heap_alloc _ _ _ h.lt)
theorem Own.drew {w : World} {g cap n s : Nat} {t : TypeId} {f : Nat → Value} (h : Own w g cap n s t f) : Own w.drew g cap n s t f := h
theorem Own.drewN {w : World} {g cap n s : Nat} {t : TypeId} {f : Nat → Value} (h : Own w g cap n s t f) (q : Nat) : Own (w.drewN q) g cap n s t f := h
theorem Own.below {w w' : World} {g cap n s B : Nat} {t : TypeId} {f : Nat → Value} (h : Own w g cap n s t f) (hb : Below B w w') (hg : g < B) : Own w' g cap n s t f := h.of_block (hb.block g hg)
theorem Own.kept {w w' : World} {g cap n s : Nat} {t : TypeId} {f : Nat → Value} (h : Own w g cap n s t f) {row : Option Nat} (hb : w.grownBy w' row) (hg : some g ≠ row) : Own w' g cap n s t f := h.of_block (hb.block g h.lt hg)
theorem Own.setOther {w : World} {g cap n s : Nat} {t : TypeId} {f : Nat → Value} (h : Own w g cap n s t f) {a : Addr} (ha : g ≠ a.block) (v : Value) : Own (w.setCell a v) g cap n s t f :=
  h.of_block (Below.heap_setCell _ _ _ _ ha)
theorem Own.set {w : World} {g cap n s : Nat} {t : TypeId} {f : Nat → Value} (h : Own w g cap n s t f) (i : Nat) (v : Value) : Own (w.setCell ⟨g, i, none⟩ v) g cap n s t (fun j => if j = i then v else f j) := by
  obtain ⟨h1, h2, c, hb, hn, hc⟩ := h
  refine ⟨h1, h2, c.setIfInBounds i v, ?_, by simpa using hn, fun j hj => ?_⟩
  · simp [World.setCell, Array.getElem?_modify, hb]
  · rw [Array.getElem?_setIfInBounds]
    have hj' : j < c.size := (Array.getElem?_eq_some_iff.1 (hc j hj)).1
    by_cases e : j = i
    · subst e
      simp [hj']
    · rw [if_neg (fun h => e h.symm)]
      show c[j]? = some (if j = i then v else f j)
      rw [if_neg e]
      exact hc j hj
/-- fewer elements of the same row -/
theorem Own.less {w : World} {g cap n s m : Nat} {t : TypeId} {f : Nat → Value} (h : Own w g cap n s t f) (hm : m ≤ n) : Own w g cap m s t f := by
  obtain ⟨h1, h2, cur, hg, h3, h4⟩ := h
  exact ⟨by omega, h2, cur, hg, h3, fun i hi => h4 i (Nat.lt_of_lt_of_le hi (Nat.mul_le_mul_right _ hm))⟩
/-- an empty row with room -/
theorem own_made (w : World) (z : Value) (cap s : Nat) (t : TypeId) (f : Nat → Value) (hc : cap ≤ maxLen) : Own (w.alloc (.cells (madeCells #[z] (cap * s)) t)) w.heap.size cap 0 s t f :=
  ⟨Nat.zero_le _, hc, _, heap_alloc_new _ _, size_madeCells _ _, fun i hi => by omega⟩
/-- a row full of zero values -/
theorem own_full1 (w : World) (z : Value) (n : Nat) (t : TypeId) (hc : n ≤ maxLen) : Own (w.alloc (.cells (madeCells #[z] n) t)) w.heap.size n n 1 t (fun _ => z) :=
  ⟨Nat.le_refl _, hc, _, heap_alloc_new _ _, by rw [size_madeCells]; simp, fun i hi => by
    rw [Nat.mul_one] at hi
    simp [madeCells, hi, Nat.mod_one]⟩
theorem own_empty (w : World) (s : Nat) (t : TypeId) (f : Nat → Value) : Own (w.alloc (.cells #[] t)) w.heap.size 0 0 s t f :=
  ⟨Nat.le_refl _, Nat.zero_le _, _, heap_alloc_new _ _, by simp, fun i hi => by omega⟩

theorem grownBy_trans {a b c : World} {row : Option Nat} (h : a.grownBy b row) (k : b.grownBy c row) : a.grownBy c row :=
  ⟨k.os.trans h.os, k.tape.trans h.tape, k.output.trans h.output, Nat.le_trans h.size k.size, fun i hi hr => (k.block i (Nat.lt_of_lt_of_le hi h.size) hr).trans (h.block i hi hr)⟩
theorem grownBy_drewN (w : World) (q : Nat) (row : Option Nat) : w.grownBy (w.drewN q) row := ⟨rfl, rfl, rfl, Nat.le_refl _, fun _ _ _ => rfl⟩
theorem grownBy_below {w w' : World} (h : Below w.heap.size w w') (row : Option Nat) : w.grownBy w' row := ⟨h.os, h.tape, h.output, h.size, fun k hk _ => h.block k hk⟩
theorem grownBy_setCell (w : World) (b o : Nat) (v : Value) : w.grownBy (w.setCell ⟨b, o, none⟩ v) (some b) := ⟨rfl, rfl, rfl, by simp [World.setCell], fun k _ hr => Below.heap_setCell _ _ _ _ (fun e => hr (by rw [e]))⟩
theorem below_of_grown {B : Nat} {w w' : World} {g : Nat} (h : w.grownBy w' (some g)) (hB : B ≤ g) (hw : B ≤ w.heap.size) : Below B w w' :=
  ⟨h.os, h.tape, h.output, h.size, fun k hk => h.block k (by omega) (fun e => by simp at e; omega)⟩

/-- what is known of a slice type t with elements e of s cells and so many bytes -/
structure Elem (P : Program) (t e : TypeId) (z : Value) (s bytes : Nat) : Prop where
  ht : P.underlying t = some (.slice e)
  info : (P.info? e).map (fun i => (i.zero, i.size, i.bytes)) = some (some z, s, bytes)
  zs : z.cells.size = s
  pos : 0 < s

theorem addr_add (b o j : Nat) : (⟨b, o, none⟩ : Addr).add j = ⟨b, o + j, none⟩ := by unfold Addr.add; split <;> simp_all

/-- append of m elements whose cells lie at ad onto an own row: f tells the whole -/
theorem run_app {P : Program} (w : World) {t e : TypeId} {z : Value} {s bytes : Nat} (he : Elem P t e z s bytes) (ty : TypeId) {g cap n : Nat} {f : Nat → Value} (hown : Own w g cap n s e f)
    (ad : Addr) (m c : Nat) (hnew : ∀ j, j < m * s → w.cell? (ad.add j) = some (f (n * s + j))) (h1 : ∀ j, j < m * s → (f (n * s + j)).oneCell' = true)
    (h63 : n + m ≤ maxLen) (hbytes : (n + m) * bytes ≤ 140737488355328) :
    ∃ g' cap' w', (Builtin.append_ #[t, t] ty #[.slice (some ⟨g, 0, none⟩) n cap, .slice (some ad) m c]).run P w = .ok (.slice (some ⟨g', 0, none⟩) (n + m) cap') w' ∧
      Own w' g' cap' (n + m) s e f ∧ w.grownBy w' (some g) ∧ ((g' = g ∧ cap' = cap) ∨ w.heap.size ≤ g') := by
  obtain ⟨i, hi, hz, hsz, hby⟩ := info_parts he.info
  obtain ⟨hnc, hcm, cur, hg, hcs, hcur⟩ := hown
  subst hsz
  subst hby
  have hlen : ∀ k, ((List.range (m * i.size)).map (fun j => f (n * i.size + j)))[k]? = if k < m * i.size then some (f (n * i.size + k)) else none := by
    intro k
    by_cases hk : k < m * i.size <;> simp [hk]
  have hnews : ∀ j u, ((List.range (m * i.size)).map (fun j => f (n * i.size + j)))[j]? = some u → w.cell? (ad.add j) = some u := by
    intro j u hj
    rw [hlen] at hj
    split at hj
    · rename_i hlt; cases hj; exact hnew j hlt
    · cases hj
  have hone : ∀ u ∈ (List.range (m * i.size)).map (fun j => f (n * i.size + j)), u.oneCell' = true := by
    intro u hu
    obtain ⟨j, hj, rfl⟩ := List.mem_map.1 hu
    exact h1 j (List.mem_range.1 hj)
  have hfull : ∀ k, k < (n + m) * i.size → k < n * i.size ∨ k - n * i.size < m * i.size := by
    intro k hk
    rw [Nat.add_mul] at hk
    omega
  by_cases hroom : n + m ≤ cap
  · have hfit : n * i.size + ((List.range (m * i.size)).map (fun j => f (n * i.size + j))).length ≤ cur.size := by
      simp only [List.length_map, List.length_range]
      rw [hcs, ← Nat.add_mul]
      exact Nat.mul_le_mul_right _ hroom
    have hr := run_append_room (P := P) w t ty e i he.ht hi g n cap cur hg ad m c _ (by simp) hnews hone hroom hfit
    refine ⟨g, cap, _, hr, ⟨hroom, hcm, _, setRow_heap w g cur _ e _ hg, ?_, ?_⟩, ⟨rfl, rfl, rfl, by simp, fun k _ hk => setRow_other w g k _ (fun e => hk (by simp [e]))⟩, .inl ⟨rfl, rfl⟩⟩
    · simp only [List.size_toArray, List.length_append, List.length_take, List.length_drop, Array.length_toList, List.length_map, List.length_range] at hfit ⊢
      omega
    · intro k hk
      have hn : n * i.size ≤ cur.size := by simp only [List.length_map, List.length_range] at hfit; omega
      simp only [List.getElem?_toArray]
      rw [List.append_assoc]
      rcases hfull k hk with h | h
      · rw [List.getElem?_append_left (by simp; omega), List.getElem?_take, if_pos h]
        simpa using hcur k h
      · by_cases h0 : k < n * i.size
        · rw [List.getElem?_append_left (by simp; omega), List.getElem?_take, if_pos h0]
          simpa using hcur k h0
        · have e1 : (List.take (n * i.size) cur.toList).length = n * i.size := by simp; omega
          rw [List.getElem?_append_right (by omega), e1, List.getElem?_append_left (by simp; omega), hlen, if_pos h]
          congr 2
          omega
  · have hcur' : ∀ j, j < n * i.size → j < cur.size := fun j hj => (Array.getElem?_eq_some_iff.1 (hcur j hj)).1
    have holds : ∀ j v, ((List.range (n * i.size)).map f)[j]? = some v → w.cell? ((⟨g, 0, none⟩ : Addr).add j) = some v := by
      intro j v hj
      have hlt : j < n * i.size := by
        rcases Nat.lt_or_ge j (n * i.size) with h | h
        · exact h
        · simp [h] at hj
      simp [hlt] at hj
      subst hj
      rw [addr_add, Nat.zero_add]
      simp [World.cell?, hg, hcur j hlt]
    have hr := run_append_grow (P := P) w t ty e i z he.ht hi hz ⟨g, 0, none⟩ n cap ((List.range (n * i.size)).map f) (by simp) holds ad m c _ (by simp) hnews (by omega) (by simp only [maxLen] at h63; omega) (growslice_fits (by omega) hbytes)
    have hge := grownCap_ge w (n + m) cap e
    refine ⟨w.heap.size, _, _, hr, ⟨hge, grownCap_le_maxLen w (n + m) cap e h63, _, heap_alloc_new w.drew _, ?_, ?_⟩, ⟨rfl, rfl, rfl, by simp, fun k hk _ => Below.heap_alloc w.drew _ k hk⟩, .inr (Nat.le_refl _)⟩
    · simp only [Array.size_append, List.size_toArray, size_zeroCells, he.zs, List.length_map, List.length_range, ← Nat.add_mul]
      congr 1
      omega
    · intro k hk
      have e2 : (n + m) * i.size = n * i.size + m * i.size := Nat.add_mul _ _ _
      rw [Array.append_assoc]
      by_cases h0 : k < n * i.size
      · rw [Array.getElem?_append_left (by simpa using h0)]
        simp [h0]
      · rw [Array.getElem?_append_right (by simp; omega), Array.getElem?_append_left (by simp; omega)]
        simp only [List.size_toArray, List.length_map, List.length_range, List.getElem?_toArray]
        rw [hlen, if_pos (by omega)]
        congr 2
        omega

/-- the same as a law for the walk: the source's cells lie where they lie -/
theorem wpList_app {P : Program} {w : World} {t e : TypeId} {z : Value} {s bytes : Nat} (he : Elem P t e z s bytes) {ops : Array Oper} {rest : List Oper} {o : Oper} {a : Act} {Q : Exit → Act → World → Prop} (hgd : o.guard = none) (so xo : Operand)
    (ho : o.op = .call { callee := .builtin .append, args := #[so, xo], argTypes := #[t, t] }) {g cap n : Nat} {f : Nat → Value} (hown : Own w g cap n s e f) (hs : a.eval so = .slice (some ⟨g, 0, none⟩) n cap)
    (ad : Addr) (m c : Nat) (hx : a.eval xo = .slice (some ad) m c) (hnew : ∀ j, j < m * s → w.cell? (ad.add j) = some (f (n * s + j))) (h1 : ∀ j, j < m * s → (f (n * s + j)).oneCell' = true)
    (h63 : n + m ≤ maxLen) (hbytes : (n + m) * bytes ≤ 140737488355328)
    (h : ∀ g' cap' w', Own w' g' cap' (n + m) s e f → w.grownBy w' (some g) → ((g' = g ∧ cap' = cap) ∨ w.heap.size ≤ g') → wpList P ops Q rest (a.put o.dst (.slice (some ⟨g', 0, none⟩) (n + m) cap')) w') : wpList P ops Q (o :: rest) a w := by
  refine wpList_plain hgd fun K hK => ?_
  obtain ⟨g', cap', w', hr, h2, h3, h4⟩ := run_app w he o.type hown ad m c hnew h1 h63 hbytes
  unfold Oper.wp execOp
  simp only [ho, resolve, invoke, builtin, Sem.run_bind, Sem.run_pure, Result.andThen_ok, List.map_toArray, List.map_cons, List.map_nil, hs, hx, hr]
  exact hK _ _ (h g' cap' w' h2 h3 h4)

/-- the same as a step of a region that draws its order -/
theorem step_app {P : Program} {w : World} {t e : TypeId} {z : Value} {s bytes : Nat} (he : Elem P t e z s bytes) {ops : Array Oper} {o : Oper} {a : Act} {K : Act → World → Prop} {Q : Exit → Act → World → Prop} {E : Prop} (hgd : o.guard = none) (so xo : Operand)
    (ho : o.op = .call { callee := .builtin .append, args := #[so, xo], argTypes := #[t, t] }) {g cap n : Nat} {f : Nat → Value} (hown : Own w g cap n s e f) (hs : a.eval so = .slice (some ⟨g, 0, none⟩) n cap)
    (ad : Addr) (m c : Nat) (hx : a.eval xo = .slice (some ad) m c) (hnew : ∀ j, j < m * s → w.cell? (ad.add j) = some (f (n * s + j))) (h1 : ∀ j, j < m * s → (f (n * s + j)).oneCell' = true)
    (h63 : n + m ≤ maxLen) (hbytes : (n + m) * bytes ≤ 140737488355328)
    (h : ∀ g' cap' w', Own w' g' cap' (n + m) s e f → w.grownBy w' (some g) → ((g' = g ∧ cap' = cap) ∨ w.heap.size ≤ g') → K (a.put o.dst (.slice (some ⟨g', 0, none⟩) (n + m) cap')) w') : if Region.wanted o (yielded ops a.tmps) = true then Oper.wp P o a w K Q else E := by
  have hw : Region.wanted o (yielded ops a.tmps) = true := by simp [Region.wanted, hgd]
  rw [if_pos hw]
  obtain ⟨g', cap', w', hr, h2, h3, h4⟩ := run_app w he o.type hown ad m c hnew h1 h63 hbytes
  unfold Oper.wp execOp
  simp only [ho, resolve, invoke, builtin, Sem.run_bind, Sem.run_pure, Result.andThen_ok, List.map_toArray, List.map_cons, List.map_nil, hs, hx, hr]
  exact h g' cap' w' h2 h3 h4

/-- append of ONE element: the walk has laid it in a new block of its own -/
theorem wpList_push {P : Program} {w : World} {t e : TypeId} {z : Value} {s bytes : Nat} (he : Elem P t e z s bytes) {ops : Array Oper} {rest : List Oper} {o : Oper} {a : Act} {Q : Exit → Act → World → Prop} (hgd : o.guard = none) (so xo : Operand)
    (ho : o.op = .call { callee := .builtin .append, args := #[so, xo], argTypes := #[t, t] }) {g cap n : Nat} {f : Nat → Value} (hown : Own w g cap n s e f) (hs : a.eval so = .slice (some ⟨g, 0, none⟩) n cap)
    (vs : List Value) (hx : a.eval xo = .slice (some ⟨w.heap.size, 0, none⟩) 1 1) (hnew : ∀ j, j < s → vs[j]? = some (f (n * s + j))) (h1 : ∀ j, j < s → (f (n * s + j)).oneCell' = true)
    (h63 : n + 1 ≤ maxLen) (hbytes : (n + 1) * bytes ≤ 140737488355328)
    (h : ∀ g' cap' w', Own w' g' cap' (n + 1) s e f → w.grownBy w' (some g) → ((g' = g ∧ cap' = cap) ∨ w.heap.size < g') → wpList P ops Q rest (a.put o.dst (.slice (some ⟨g', 0, none⟩) (n + 1) cap')) w') : wpList P ops Q (o :: rest) a (w.alloc (.cells vs.toArray e)) := by
  refine wpList_app he hgd so xo ho (hown.alloc _) hs ⟨w.heap.size, 0, none⟩ 1 1 hx (fun j hj => ?_) (fun j hj => h1 j (by omega)) h63 hbytes (fun g' cap' w' h2 h3 h4 => ?_)
  · rw [addr_add, Nat.zero_add]
    have hh : (w.alloc (.cells vs.toArray e)).heap[w.heap.size]? = some (.cells vs.toArray e (0, 0)) := heap_alloc_new _ _
    simp only [World.cell?, hh]
    simpa using hnew j (by omega)
  · refine h g' cap' w' h2 (grownBy_trans (World.grownBy_alloc w _ _) h3) ?_
    rcases h4 with h4 | h4
    · exact .inl h4
    · right
      have : (w.alloc (.cells vs.toArray e)).heap.size = w.heap.size + 1 := by simp
      omega

/-- append of one number -/
theorem wpList_pushI {P : Program} {w : World} {t e : TypeId} (he : Elem P t e (.int .i64 0) 1 8) {ops : Array Oper} {rest : List Oper} {o : Oper} {a : Act} {Q : Exit → Act → World → Prop} (hgd : o.guard = none) (so xo : Operand)
    (ho : o.op = .call { callee := .builtin .append, args := #[so, xo], argTypes := #[t, t] }) {g cap n : Nat} {f : Nat → Int} (hown : Own w g cap n 1 e (fun i => .int .i64 (f i))) (hs : a.eval so = .slice (some ⟨g, 0, none⟩) n cap)
    {q : Int} (hx : a.eval xo = .slice (some ⟨w.heap.size, 0, none⟩) 1 1) (hq : q = f n) (hn : n < 1000000000000)
    (h : ∀ g' cap' w', Own w' g' cap' (n + 1) 1 e (fun i => .int .i64 (f i)) → w.grownBy w' (some g) → ((g' = g ∧ cap' = cap) ∨ w.heap.size < g') → wpList P ops Q rest (a.put o.dst (.slice (some ⟨g', 0, none⟩) (n + 1) cap')) w') : wpList P ops Q (o :: rest) a (w.alloc (.cells #[.int .i64 q] e)) := by
  refine wpList_push he hgd so xo ho hown hs [.int .i64 q] hx (fun j hj => ?_) (fun j hj => rfl) (by unfold maxLen; omega) (by omega) h
  obtain rfl : j = 0 := by omega
  simp [hq]
/-- append of one value of one cell -/
theorem wpList_pushV {P : Program} {w : World} {t e : TypeId} {z : Value} {bytes : Nat} (he : Elem P t e z 1 bytes) {ops : Array Oper} {rest : List Oper} {o : Oper} {a : Act} {Q : Exit → Act → World → Prop} (hgd : o.guard = none) (so xo : Operand)
    (ho : o.op = .call { callee := .builtin .append, args := #[so, xo], argTypes := #[t, t] }) {g cap n : Nat} {f : Nat → Value} (hown : Own w g cap n 1 e f) (hs : a.eval so = .slice (some ⟨g, 0, none⟩) n cap)
    {q : Value} (hx : a.eval xo = .slice (some ⟨w.heap.size, 0, none⟩) 1 1) (hq : q = f n) (hone : q.oneCell' = true) (hn : n < 1000000000000) (hb : bytes ≤ 64)
    (h : ∀ g' cap' w', Own w' g' cap' (n + 1) 1 e f → w.grownBy w' (some g) → ((g' = g ∧ cap' = cap) ∨ w.heap.size < g') → wpList P ops Q rest (a.put o.dst (.slice (some ⟨g', 0, none⟩) (n + 1) cap')) w') : wpList P ops Q (o :: rest) a (w.alloc (.cells #[q] e)) := by
  have hm : (n + 1) * bytes ≤ 1000000000000 * 64 := Nat.mul_le_mul (by omega) hb
  refine wpList_push he hgd so xo ho hown hs [q] hx (fun j hj => ?_) (fun j hj => ?_) (by unfold maxLen; omega) (by omega) h
  · obtain rfl : j = 0 := by omega
    simp [hq]
  · obtain rfl : j = 0 := by omega
    have e1 : n * 1 + 0 = n := by omega
    rw [e1, ← hq]; exact hone

/-- 'make([]T, n, c)' as an equation for every world -/
theorem run_mk {P : Program} {t e : TypeId} {z : Value} {bytes : Nat} {s : Nat} (he : Elem P t e z s bytes) (n c : Nat) (hn : n ≤ c) (hb : bytes * c ≤ 281474976710656) (h63 : c ≤ 9223372036854775807) (w : World) :
    (Instr.makeSlice t (.int .i64 (n : Int)) (.int .i64 (c : Int))).run P w = .ok (.slice (some ⟨w.heap.size, 0, none⟩) n c) (w.alloc (.cells (madeCells z.cells (c * s)) e)) := by
  obtain ⟨i, hi, hz, hsz, hby⟩ := info_parts he.info
  have hb' : (i.bytes : Int) * (c : Int) ≤ 281474976710656 := by
    have h : ((i.bytes * c : Nat) : Int) ≤ 281474976710656 := by rw [hby]; omega
    rwa [Int.natCast_mul] at h
  have hr := run_make (P := P) w t e i z he.ht hi hz .i64 .i64 (n : Int) (c : Int) (by omega) (by omega) hb' (by omega)
  simp only [Int.toNat_natCast, hsz] at hr
  exact hr
/-- 'make([]T, 0, c)' -/
theorem run_mk0 {P : Program} {t e : TypeId} {z : Value} {bytes : Nat} {s : Nat} (he : Elem P t e z s bytes) (c : Nat) (hb : bytes * c ≤ 281474976710656) (h63 : c ≤ 9223372036854775807) (w : World) :
    (Instr.makeSlice t (.int .i64 0) (.int .i64 (c : Int))).run P w = .ok (.slice (some ⟨w.heap.size, 0, none⟩) 0 c) (w.alloc (.cells (madeCells z.cells (c * s)) e)) :=
  run_mk he 0 c (Nat.zero_le _) hb h63 w
end Go.Proofs.YtlkdmpfifpkpaaaGreatDoor
namespace Go.Proofs.YtlkdmpfifpkpaaaGreatDoor
open Go.RowKit

/-- low ≤ n ≤ high, as a Bool that stays closed. -/
def inB (n lo hi : Int) : Bool := decide (lo ≤ n) && decide (n ≤ hi)
theorem inB_true {n lo hi : Int} : inB n lo hi = true ↔ lo ≤ n ∧ n ≤ hi := by simp [inB]
theorem inB_false {n lo hi : Int} : inB n lo hi = false ↔ ¬ (lo ≤ n ∧ n ≤ hi) := by
  rw [← inB_true]; cases inB n lo hi <;> simp

/-- every k below n meets p -/
def allB (n : Nat) (p : Nat → Bool) : Bool := (List.range n).all p
theorem allB_true {n : Nat} {p : Nat → Bool} : allB n p = true ↔ ∀ k, k < n → p k = true := by simp [allB]
theorem allB_of {n : Nat} {p : Nat → Bool} (h : ∀ k, k < n → p k = true) : allB n p = true := allB_true.2 h
theorem allB_not {n k : Nat} {p : Nat → Bool} (hk : k < n) (h : p k = false) : allB n p = false := by
  cases e : allB n p
  · rfl
  · rw [allB_true.1 e k hk] at h; cases h

/-- the n cells from (b, off) on hold the numbers f 0, f 1, .. -/
def IC (w : World) (b off n : Nat) (f : Nat → Int) : Prop := ∀ k, k < n → w.cell? ⟨b, off + k, none⟩ = some (.int .i64 (f k))
theorem IC.at {w : World} {b off n : Nat} {f : Nat → Int} (h : IC w b off n f) (k : Nat) : k < n → w.cell? ⟨b, off + k, none⟩ = some (.int .i64 (f k)) := h k

theorem IC.keep {w w' : World} {b off n : Nat} {f : Nat → Int} (h : IC w b off n f) (hb : Below w.heap.size w w') : IC w' b off n f := fun k hk => by
  have h1 := h k hk
  have h2 : b < w.heap.size := World.block_lt_of_cell? w ⟨b, off + k, none⟩ h1
  rw [hb.cell (p := ⟨b, off + k, none⟩) h2]; exact h1
theorem IC.drewN {w : World} {b off n : Nat} {f : Nat → Int} (h : IC w b off n f) (q : Nat) : IC (w.drewN q) b off n f := h
theorem IC.of_own {w : World} {g cap n : Nat} {f : Nat → Int} {t : TypeId} (h : Own w g cap n 1 t (fun i => .int .i64 (f i))) : IC w g 0 n f := fun k hk => by
  rw [Nat.zero_add]; exact h.cell1 hk
theorem IC.congr {w : World} {b off n : Nat} {f f' : Nat → Int} (h : IC w b off n f) (e : ∀ k, k < n → f k = f' k) : IC w b off n f' := fun k hk => by rw [h k hk, e k hk]
theorem IC.nil {w : World} {b off : Nat} {f : Nat → Int} : IC w b off 0 f := fun k hk => by omega

/-- only draws lie between -/
def Dr (w w' : World) : Prop := ∃ q, w' = w.drewN q
theorem Dr.refl (w : World) : Dr w w := ⟨0, rfl⟩
theorem Dr.drewN {w w' : World} (h : Dr w w') (q : Nat) : Dr w (w'.drewN q) := by
  obtain ⟨r, rfl⟩ := h
  exact ⟨_, World.drewN_drewN _ _ _⟩
theorem Dr.trans {a b c : World} (h : Dr a b) (h' : Dr b c) : Dr a c := by
  obtain ⟨r, rfl⟩ := h'
  exact h.drewN r

/-- the cells of one box, told in a later world -/
theorem box_cells {w w' : World} {cs : Array Value} {t : TypeId} {B : Nat} (hb : Below B (w.alloc (.cells cs t)) w') (hB : w.heap.size < B) : ∀ o, w'.cell? ⟨w.heap.size, o, none⟩ = cs[o]? := fun o => by
  rw [hb.cell (p := ⟨w.heap.size, o, none⟩) hB]
  have hh : (w.alloc (.cells cs t)).heap[w.heap.size]? = some (.cells cs t (0, 0)) := heap_alloc_new _ _
  simp only [World.cell?, hh]
  rfl
theorem box_keep {w w' : World} {b : Nat} {F : Nat → Option Value} (h : ∀ o, w.cell? ⟨b, o, none⟩ = F o) {B : Nat} (hb : Below B w w') (hB : b < B) : ∀ o, w'.cell? ⟨b, o, none⟩ = F o := fun o => by
  rw [hb.cell (p := ⟨b, o, none⟩) hB, h o]
theorem below_dr {w w' : World} (h : Dr w w') (B : Nat) : Below B w w' := by
  obtain ⟨q, rfl⟩ := h
  exact below_drewN (Below.refl _ _) q

theorem elInt : Elem Tryz.prog 29 3 (.int .i64 0) 1 8 := ⟨Tryz.underlying29, by kernel_rfl, rfl, by decide⟩

theorem retB {a b : Bool} (h : a = b) : Ending.returned (.bool a) = .returned (.bool b) := by rw [h]
theorem retI {a b : Int} (h : a = b) : Ending.returned (.int .i64 a) = .returned (.int .i64 b) := by rw [h]
end Go.Proofs.YtlkdmpfifpkpaaaGreatDoor
namespace Go.Proofs.YtlkdmpfifpkpaaaGreatDoor
open Go.RowKit

/-- block b is a box of type t that holds the cells cs -/
def Bx (w : World) (b : Nat) (t : TypeId) (cs : Array Value) : Prop := w.heap[b]? = some (.cells cs t (0, 0))
theorem Bx.lt {w : World} {b : Nat} {t : TypeId} {cs : Array Value} (h : Bx w b t cs) : b < w.heap.size := (Array.getElem?_eq_some_iff.1 h).1
theorem Bx.cell {w : World} {b : Nat} {t : TypeId} {cs : Array Value} (h : Bx w b t cs) : ∀ o, w.cell? ⟨b, o, none⟩ = cs[o]? := fun o => by
  unfold Bx at h
  simp only [World.cell?, h]
  rfl
theorem Bx.free {w : World} {b : Nat} {t : TypeId} {cs : Array Value} (h : Bx w b t cs) : ∀ o, w.frozen? ⟨b, o, none⟩ = false := fun o => by
  unfold Bx at h
  simp [World.frozen?, h]
theorem Bx.of_block {w w' : World} {b : Nat} {t : TypeId} {cs : Array Value} (h : Bx w b t cs) (e : w'.heap[b]? = w.heap[b]?) : Bx w' b t cs := e.trans h
theorem Bx.new (w : World) (t : TypeId) (cs : Array Value) : Bx (w.alloc (.cells cs t)) w.heap.size t cs := heap_alloc_new _ _
theorem Bx.newAt {w : World} {b : Nat} {t : TypeId} {cs : Array Value} (h : b = w.heap.size) : Bx (w.alloc (.cells cs t)) b t cs := by subst h; exact heap_alloc_new _ _
theorem Bx.alloc {w : World} {b : Nat} {t : TypeId} {cs : Array Value} (h : Bx w b t cs) (o : Obj) : Bx (w.alloc o) b t cs := h.of_block (Below.heap_alloc _ _ _ h.lt)
theorem Bx.drew {w : World} {b : Nat} {t : TypeId} {cs : Array Value} (h : Bx w b t cs) : Bx w.drew b t cs := h
theorem Bx.drewN {w : World} {b : Nat} {t : TypeId} {cs : Array Value} (h : Bx w b t cs) (q : Nat) : Bx (w.drewN q) b t cs := h
theorem Bx.kept {w w' : World} {b R : Nat} {t : TypeId} {cs : Array Value} (h : Bx w b t cs) (hb : w.grownBy w' (some R)) (hg : b ≠ R) : Bx w' b t cs := h.of_block (hb.block b h.lt (by simpa using hg))
theorem Bx.below {w w' : World} {b B : Nat} {t : TypeId} {cs : Array Value} (h : Bx w b t cs) (hb : Below B w w') (hg : b < B) : Bx w' b t cs := h.of_block (hb.block b hg)
theorem Bx.set {w : World} {b : Nat} {t : TypeId} {cs : Array Value} (h : Bx w b t cs) (o : Nat) (v : Value) : Bx (w.setCell ⟨b, o, none⟩ v) b t (cs.setIfInBounds o v) := by
  unfold Bx at *
  simp [World.setCell, Array.getElem?_modify, h]
theorem Bx.setOther {w : World} {b : Nat} {t : TypeId} {cs : Array Value} (h : Bx w b t cs) {a : Addr} (ha : b ≠ a.block) (v : Value) : Bx (w.setCell a v) b t cs := h.of_block (Below.heap_setCell _ _ _ _ ha)
end Go.Proofs.YtlkdmpfifpkpaaaGreatDoor
namespace Go.Proofs.YtlkdmpfifpkpaaaGreatDoor
open Go.RowKit

theorem xor_pos (x y : Int) (hx : 0 ≤ x ∧ x ≤ 9223372036854775807) (hy : 0 ≤ y ∧ y ≤ 9223372036854775807) : 0 ≤ bits .xor .i64 x y ∧ bits .xor .i64 x y ≤ 9223372036854775807 := by
  obtain ⟨a, rfl⟩ := Int.eq_ofNat_of_zero_le hx.1
  obtain ⟨b, rfl⟩ := Int.eq_ofNat_of_zero_le hy.1
  have h1 : (BitVec.ofInt 64 (a : Int)).toNat = a := by
    rw [BitVec.ofInt_natCast, BitVec.toNat_ofNat]
    exact Nat.mod_eq_of_lt (by omega)
  have h2 : (BitVec.ofInt 64 (b : Int)).toNat = b := by
    rw [BitVec.ofInt_natCast, BitVec.toNat_ofNat]
    exact Nat.mod_eq_of_lt (by omega)
  have h3 : a ^^^ b < 2 ^ 63 := Nat.xor_lt_two_pow (by omega) (by omega)
  have h4 : bits .xor .i64 (a : Int) (b : Int) = IntKind.i64.wrap ((a ^^^ b : Nat) : Int) := by
    show IntKind.i64.wrap ((BitVec.ofInt 64 (a : Int) ^^^ BitVec.ofInt 64 (b : Int)).toNat : Int) = _
    rw [BitVec.toNat_xor, h1, h2]
  rw [h4, IntWalk.i64_in _ (by omega)]
  omega

/-- a slice of bytes that is read -/
def BSl (w : World) (ao : Option Addr) (n : Nat) : Prop := n = 0 ∨ ∃ (b o : Nat) (f : Nat → Int), ao = some ⟨b, o, none⟩ ∧ ∀ k, k < n → w.cell? ⟨b, o + k, none⟩ = some (.int .u8 (f k)) ∧ 0 ≤ f k ∧ f k ≤ (255 : Int)
theorem BSl.less {w : World} {ao : Option Addr} {n m : Nat} (h : BSl w ao n) (hm : m ≤ n) : BSl w ao m := by
  rcases h with h | ⟨b, o, f, e, h⟩
  · exact .inl (by omega)
  · exact .inr ⟨b, o, f, e, fun k hk => h k (by omega)⟩
theorem BSl.keep {w w' : World} {ao : Option Addr} {n : Nat} (h : BSl w ao n) (hb : Below w.heap.size w w') : BSl w' ao n := by
  rcases h with h | ⟨b, o, f, e, h⟩
  · exact .inl h
  · refine .inr ⟨b, o, f, e, fun k hk => ?_⟩
    have h1 := h k hk
    have h2 : b < w.heap.size := World.block_lt_of_cell? w ⟨b, o + k, none⟩ h1.1
    exact ⟨by rw [hb.cell (p := ⟨b, o + k, none⟩) h2]; exact h1.1, h1.2⟩

/-- block R is a reader of which at most m numbers have been picked -/
def RdL (w : World) (R m : Nat) : Prop :=
  ∃ ao n c p, p ≤ m ∧ n ≤ 2000 ∧ w.heap[R]? = some (.cells #[.slice ao n c, .int .i64 ((p : Nat) : Int)] 83 (0, 0)) ∧
    (n = 0 ∨ ∃ (b o : Nat) (f : Nat → Int), ao = some ⟨b, o, none⟩ ∧ b < R ∧ ∀ k, k < n → w.cell? ⟨b, o + k, none⟩ = some (.int .u8 (f k)) ∧ 0 ≤ f k ∧ f k ≤ (255 : Int))
theorem RdL.lt {w : World} {R m : Nat} (h : RdL w R m) : R < w.heap.size := by
  obtain ⟨_, _, _, _, _, _, hg, _⟩ := h
  exact (Array.getElem?_eq_some_iff.1 hg).1
theorem RdL.mono {w : World} {R m m' : Nat} (h : RdL w R m) (hm : m ≤ m') : RdL w R m' := by
  obtain ⟨ao, n, c, p, h1, h2⟩ := h
  exact ⟨ao, n, c, p, by omega, h2⟩
theorem RdL.keep {w w' : World} {R m : Nat} (h : RdL w R m) (hb : Below w.heap.size w w') : RdL w' R m := by
  have hl := h.lt
  obtain ⟨ao, n, c, p, h1, h2, h3, h4⟩ := h
  refine ⟨ao, n, c, p, h1, h2, (hb.block R hl).trans h3, ?_⟩
  rcases h4 with h4 | ⟨b, o, f, e, hne, h4⟩
  · exact .inl h4
  · refine .inr ⟨b, o, f, e, hne, fun k hk => ?_⟩
    have g1 := h4 k hk
    have g2 : b < w.heap.size := World.block_lt_of_cell? w ⟨b, o + k, none⟩ g1.1
    exact ⟨by rw [hb.cell (p := ⟨b, o + k, none⟩) g2]; exact g1.1, g1.2⟩
theorem RdL.kept {w w' : World} {R m : Nat} {g : Nat} (h : RdL w R m) (hb : w.grownBy w' (some g)) (hg : R < g) : RdL w' R m := by
  have hl := h.lt
  obtain ⟨ao, n, c, p, h1, h2, h3, h4⟩ := h
  have key : ∀ b, b ≤ R → w'.heap[b]? = w.heap[b]? := fun b hbR => hb.block b (by omega) (by simp; omega)
  refine ⟨ao, n, c, p, h1, h2, (key R (Nat.le_refl _)).trans h3, ?_⟩
  rcases h4 with h4 | ⟨b, o, f, e, hne, h4⟩
  · exact .inl h4
  · exact .inr ⟨b, o, f, e, hne, fun k hk => ⟨(World.cell?_of_block (w := w) (key b (by omega))).trans (h4 k hk).1, (h4 k hk).2⟩⟩

/-- what a pick below n gives -/
def pkB (n v : Int) : Prop := (1 ≤ n → 0 ≤ v ∧ v < n) ∧ (n < 1 → v = 0)
theorem pkB_lt {n v : Int} (h : pkB n v) (hn : 1 ≤ n) : 0 ≤ v ∧ v < n := h.1 hn
theorem pkB_of {n v : Int} (hn : 1 ≤ n) (h : 0 ≤ v ∧ v < n) : pkB n v := ⟨fun _ => h, fun h' => by omega⟩
theorem pkB_zero {n : Int} : pkB n 0 := ⟨fun h => by omega, fun _ => rfl⟩
theorem pkB_mod {n x : Int} (hn : 1 ≤ n) : pkB n (x % n) := pkB_of hn ⟨Int.emod_nonneg _ (by omega), Int.emod_lt_of_pos _ (by omega)⟩

theorem pkB_tmod {n x : Int} (hn : 1 ≤ n) (hx : 0 ≤ x) : pkB n (x.tmod n) := by rw [Int.tmod_eq_emod_of_nonneg hx]; exact pkB_mod hn

theorem rd_step {w : World} {R m n c p : Nat} {ao : Option Addr} (hp : p ≤ m) (hn : n ≤ 2000) (hg : w.heap[R]? = some (.cells #[.slice ao n c, .int .i64 (p : Int)] 83 (0, 0)))
    (hB : n = 0 ∨ ∃ (b o : Nat) (f : Nat → Int), ao = some ⟨b, o, none⟩ ∧ b < R ∧ ∀ k, k < n → w.cell? ⟨b, o + k, none⟩ = some (.int .u8 (f k)) ∧ 0 ≤ f k ∧ f k ≤ (255 : Int)) :
    RdL (w.setCell ⟨R, 1, none⟩ (.int .i64 ((p : Int) + 1))) R (m + 1) := by
  refine ⟨ao, n, c, p + 1, by omega, hn, by simp [World.setCell, Array.getElem?_modify, hg], ?_⟩
  rcases hB with h | ⟨b, o, f, e, hne, h⟩
  · exact .inl h
  · refine .inr ⟨b, o, f, e, hne, fun k hk => ⟨?_, (h k hk).2⟩⟩
    rw [← (h k hk).1]
    exact World.cell?_of_block (w := w) (Below.heap_setCell _ _ _ _ (by dsimp only; omega))

set_option maxHeartbeats 1000000 in
theorem pick_any (R m : Nat) (n : Int) (w : World) (hn : -9223372036854775808 ≤ n ∧ n ≤ 9223372036854775807) (hm : m ≤ 1000000) (hr : RdL w R m) :
    Calls Tryz.prog 31 #[.pointer (some ⟨R, 0, none⟩), .int .i64 n] w fun e w' => ∃ v : Int, e = .returned (.int .i64 v) ∧ pkB n v ∧ RdL w' R (m + 1) ∧ w.grownBy w' (some R) := by
  obtain ⟨ao, k, c, p, hp, hk, hg, hB⟩ := hr
  have HS := Lib.hid (rd_step hp hk hg hB)
  have HG := Lib.hid (grownBy_setCell w R 1 (.int .i64 ((p : Int) + 1)))
  have c0 : w.cell? ⟨R, 0, none⟩ = some (.slice ao k c) := by simp [World.cell?, hg]
  have c1 : w.cell? ⟨R, 1, none⟩ = some (.int .i64 p) := by simp [World.cell?, hg]
  have hf : ∀ o, w.frozen? ⟨R, o, none⟩ = false := fun o => by simp [World.frozen?, hg]
  obtain ⟨hn0, hn1⟩ := hn
  clear hg
  by_cases h1 : n < 1
  · clear hB
    go_enter Tryz.func31, Tryz.ntmps31
    go_wp2
    all_goals
      go_ret
      exact ⟨_, rfl, by first | exact pkB_zero | exact pkB_mod (by omega), HS.out, HG.out⟩
  · by_cases h2 : k = 0
    · subst h2
      clear hB
      go_enter Tryz.func31, Tryz.ntmps31
      go_wp2
      all_goals
        go_ret
        exact ⟨_, rfl, by first | exact pkB_zero | exact pkB_mod (by omega), HS.out, HG.out⟩
    · rcases hB with hB | ⟨b, o, f, rfl, hne, hB⟩
      · exact absurd hB h2
      · have hne' : b ≠ R := by omega
        have hkz : ((k : Int) == 0) = false := by simp; omega
        by_cases h3 : p < k
        · have hb := hB p h3
          obtain ⟨hbc, hb0, hb1⟩ := hb
          clear hB h2
          go_enter Tryz.func31, Tryz.ntmps31
          go_wp2
          all_goals
            go_ret
            exact ⟨_, rfl, by first | exact pkB_zero | exact pkB_mod (by omega), HS.out, HG.out⟩
        · obtain ⟨i, hi⟩ : ∃ i, i = p % k := ⟨_, rfl⟩
          obtain ⟨j, hj⟩ : ∃ j, j = (p * 7 + 3) % k := ⟨_, rfl⟩
          obtain ⟨d, hd⟩ : ∃ d, d = p / k := ⟨_, rfl⟩
          have q1 : i < k := by rw [hi]; exact Nat.mod_lt _ (by omega)
          have q2 : j < k := by rw [hj]; exact Nat.mod_lt _ (by omega)
          have q3 : d ≤ p := by rw [hd]; exact Nat.div_le_self _ _
          have m1 : ((p : Int) % (k : Int)) = (i : Int) := by rw [hi]; rfl
          have m2 : (((p : Int) * 7 + 3) % (k : Int)) = (j : Int) := by rw [hj]; rfl
          have m3 : ((p : Int) / (k : Int)) = (d : Int) := by rw [hd]; rfl
          have hb := hB i q1
          have hb' := hB j q2
          clear hi hj hd
          obtain ⟨hbc, hb0, hb1⟩ := hb
          obtain ⟨hbc', hb0', hb1'⟩ := hb'
          clear hB h2
          go_enter Tryz.func31, Tryz.ntmps31
          go_wp2
          go_quiet (fail)
          go_wp2
          go_ret
          exact ⟨_, rfl, pkB_tmod (by omega) (xor_pos _ _ ⟨by omega, by omega⟩ ⟨by omega, by omega⟩).1, HS.out.keep (below_drewN (Below.refl _ _) _), grownBy_trans HG.out (grownBy_drewN _ _ _)⟩
end Go.Proofs.YtlkdmpfifpkpaaaGreatDoor
namespace Go.Proofs.YtlkdmpfifpkpaaaGreatDoor
open Go.RowKit

theorem l6In_any (n lo hi : Int) (w : World) :
    Calls Tryz.prog 43 #[.int .i64 n, .int .i64 lo, .int .i64 hi] w fun e w' => e = .returned (.bool (inB n lo hi)) ∧ w = w' := by
  go_enter Tryz.func43, Tryz.ntmps43
  go_wp2
  all_goals go_ret
  all_goals exact ⟨retB (by simp only [inB]; simp; omega), rfl⟩

/-- eqIntS: two slices agree -/
def eqB (f g : Nat → Int) (k : Nat) : Bool := f k == g k
def eqSl (n n' : Nat) (f g : Nat → Int) : Bool := decide (n = n') && allB n (eqB f g)
theorem eqSl_true {n n' : Nat} {f g : Nat → Int} : eqSl n n' f g = true ↔ n = n' ∧ ∀ k, k < n → f k = g k := by
  simp [eqSl, allB_true, eqB]
theorem eqSl_ne {n n' : Nat} {f g : Nat → Int} (h : n ≠ n') : eqSl n n' f g = false := by simp [eqSl, h]
theorem eqSl_at {n k : Nat} {f g : Nat → Int} (hk : k < n) (h : f k ≠ g k) : eqSl n n f g = false := by
  unfold eqSl
  rw [allB_not hk (by simp [eqB, h])]
  simp
/-- a slice value that reads as n numbers f; where n is 0 it may be nil -/
def SL (w : World) (v : Value) (n : Nat) (f : Nat → Int) : Prop :=
  (∃ b o c, v = .slice (some ⟨b, o, none⟩) n c ∧ IC w b o n f) ∨ (n = 0 ∧ ∃ ao c, v = .slice ao 0 c)
theorem SL.nil {w : World} {f : Nat → Int} : SL w (.slice none 0 0) 0 f := .inr ⟨rfl, _, _, rfl⟩
theorem SL.keep {w w' : World} {v : Value} {n : Nat} {f : Nat → Int} (h : SL w v n f) (hb : Below w.heap.size w w') : SL w' v n f := by
  rcases h with ⟨b, o, c, e, h⟩ | h
  · exact .inl ⟨b, o, c, e, h.keep hb⟩
  · exact .inr h

theorem SL.shape {w : World} {v : Value} {n : Nat} {f : Nat → Int} (h : SL w v n f) : ∃ ao c, v = .slice ao n c := by
  rcases h with ⟨b, o, c, e, _⟩ | ⟨rfl, ao, c, e⟩
  · exact ⟨_, _, e⟩
  · exact ⟨_, _, e⟩
end Go.Proofs.YtlkdmpfifpkpaaaGreatDoor
namespace Go.Proofs.YtlkdmpfifpkpaaaGreatDoor
open Go.RowKit

theorem sameInts_any (b off n c b' off' n' c' : Nat) (f g : Nat → Int) (w : World) (hn : n ≤ 1000000000000000) (hn' : n' ≤ 1000000000000000) (hc : IC w b off n f) (hc' : IC w b' off' n' g) :
    Calls Tryz.prog 44 #[.slice (some ⟨b, off, none⟩) n c, .slice (some ⟨b', off', none⟩) n' c'] w fun e w' => e = .returned (.bool (eqSl n n' f g)) ∧ Dr w w' := by
  by_cases hnn : n = n'
  · subst hnn
    go_enter Tryz.func44, Tryz.ntmps44
    go_wp2
    go_loopw [5] (fun i wr => ∃ k : Nat, k ≤ n ∧ i = .int .i64 k ∧ (∀ j, j < k → f j = g j) ∧ Dr w wr) (fun i _ => n - (intOf i).toNat)
    case atStart => exact ⟨0, Nat.zero_le _, rfl, fun j hj => by omega, Dr.refl _⟩
    case round =>
      obtain ⟨k, hk, rfl, hall, q, rfl⟩ := hrel
      have HA := Lib.hid hall
      clear hall
      by_cases hlt : k < n
      · have hck := hc.at k hlt
        have hck' := hc'.at k hlt
        by_cases h1 : f k = g k
        · have HE := Lib.hid h1
          have h2 : (f k != g k) = false := by simp [h1]
          clear h1
          go_wp2
          go_quiet (fail)
          go_wp2
          go_roundw
          case rel => exact ⟨k + 1, by omega, by go_num, fun j hj => by
              by_cases e : j = k
              · rw [e]; exact HE.out
              · exact HA.out j (by omega), (by repeat (first | exact Dr.refl _ | exact ⟨_, rfl⟩ | refine Dr.drewN ?_ _))⟩
          case measure => simp [intOf]; omega
        · have HE := Lib.hid h1
          have h2 : (f k != g k) = true := by simp [h1]
          clear h1
          go_wp2
          go_quiet (fail)
          go_wp2
          go_ret
          exact ⟨retB (eqSl_at hlt HE.out).symm, (by repeat (first | exact Dr.refl _ | exact ⟨_, rfl⟩ | refine Dr.drewN ?_ _))⟩
      · have e : k = n := by omega
        subst e
        go_wp2
        go_ret
        exact ⟨retB (eqSl_true.2 ⟨rfl, HA.out⟩).symm, (by repeat (first | exact Dr.refl _ | exact ⟨_, rfl⟩ | refine Dr.drewN ?_ _))⟩
  · have h2 : ((n : Int) != (n' : Int)) = true := by simp; omega
    have HE := Lib.hid hnn
    clear hnn
    go_enter Tryz.func44, Tryz.ntmps44
    go_wp2
    go_ret
    exact ⟨retB (eqSl_ne HE.out).symm, (by repeat (first | exact Dr.refl _ | exact ⟨_, rfl⟩ | refine Dr.drewN ?_ _))⟩

theorem open_any (ao : Option Addr) (n c : Nat) (w : World) (hn : n ≤ 9223372036854775807) (hnc : n ≤ c) (hB : BSl w ao n) :
    Calls Tryz.prog 30 #[.slice ao n c] w fun e w' => ∃ R, e = .returned (.pointer (some ⟨R, 0, none⟩)) ∧ w.heap.size ≤ R ∧ RdL w' R 0 ∧ Below w.heap.size w w' := by
  have hbb : ∀ a, Below w.heap.size w (w.alloc a) := fun a => (Below.refl _ _).alloc (Nat.le_refl _) _
  have key : ∀ m : Nat, m ≤ n → m ≤ 2000 → RdL (w.alloc (.cells #[.slice ao m c, .int .i64 ((0 : Nat) : Int)] 83)) w.heap.size 0 := fun m hm h2 => by
    refine ⟨ao, m, c, 0, Nat.le_refl _, h2, heap_alloc_new _ _, ?_⟩
    rcases hB.less hm with h | ⟨b, o, f, e, h⟩
    · exact .inl h
    · by_cases h0 : m = 0
      · exact .inl h0
      · have hlt : b < w.heap.size := World.block_lt_of_cell? w ⟨b, o + 0, none⟩ (h 0 (by omega)).1
        refine .inr ⟨b, o, f, e, by omega, fun k hk => ⟨?_, (h k hk).2⟩⟩
        rw [(hbb _).cell (p := ⟨b, o + k, none⟩) hlt]
        exact (h k hk).1
  have K := Lib.hid key
  have HB := Lib.hid hbb
  clear key hbb
  by_cases h2 : n ≤ 2000
  · go_enter Tryz.func30, Tryz.ntmps30
    go_wp2
    go_ret
    exact ⟨_, rfl, Nat.le_refl _, K.out n (Nat.le_refl _) h2, HB.out _⟩
  · go_enter Tryz.func30, Tryz.ntmps30
    go_wp2
    go_ret
    exact ⟨_, rfl, Nat.le_refl _, K.out 2000 (by omega) (by omega), HB.out _⟩
end Go.Proofs.YtlkdmpfifpkpaaaGreatDoor
namespace Go.Proofs.YtlkdmpfifpkpaaaGreatDoor
open Go.RowKit

theorem box_new (w : World) (cs : Array Value) (t : TypeId) : ∀ o, (w.alloc (.cells cs t)).cell? ⟨w.heap.size, o, none⟩ = cs[o]? := box_cells (Below.refl (w.heap.size + 1) _) (by omega)
theorem below_all (w : World) (a : Obj) : Below w.heap.size w (w.alloc a) := (Below.refl _ _).alloc (Nat.le_refl _) _
theorem RdL.alloc {w : World} {R m : Nat} (h : RdL w R m) (a : Obj) : RdL (w.alloc a) R m := h.keep (below_all _ _)
theorem RdL.drew {w : World} {R m : Nat} (h : RdL w R m) : RdL w.drew R m := h
theorem RdL.drewN {w : World} {R m : Nat} (h : RdL w R m) (q : Nat) : RdL (w.drewN q) R m := h
theorem grow_new {w wa wb : World} {R g : Nat} (h : w.grownBy wa (some R)) (k : wa.grownBy wb (some g)) (hg : w.heap.size ≤ g) : w.grownBy wb (some R) :=
  ⟨k.os.trans h.os, k.tape.trans h.tape, k.output.trans h.output, Nat.le_trans h.size k.size, fun i hi hr => (k.block i (Nat.lt_of_lt_of_le hi h.size) (by simp; omega)).trans (h.block i hi hr)⟩
theorem pickN_any (R m n : Nat) (w : World) (hn : 1 ≤ n ∧ n ≤ 1000000) (hm : m ≤ 1000000) (hr : RdL w R m) :
    Calls Tryz.prog 31 #[.pointer (some ⟨R, 0, none⟩), .int .i64 n] w fun e w' => ∃ k : Nat, e = .returned (.int .i64 k) ∧ k < n ∧ RdL w' R (m + 1) ∧ w.grownBy w' (some R) :=
  (pick_any R m n w (by omega) hm hr).mono fun e w' ⟨v, he, hv, h1, h2⟩ => by
    have := pkB_lt hv (by omega)
    exact ⟨v.toNat, by rw [he]; congr 2; omega, by omega, h1, h2⟩

theorem RdL.set {w : World} {R m g o : Nat} {v : Value} (h : RdL w R m) (hg : R < g) : RdL (w.setCell ⟨g, o, none⟩ v) R m := h.kept (grownBy_setCell _ _ _ _) hg
end Go.Proofs.YtlkdmpfifpkpaaaGreatDoor
