/- Links in words, as the program and as the reference tell them. -/
import Derived.Shelf.Strings.Builder1
import Derived.Shelf.Strings.Builder2
import Derived.Shelf.Strings.OnBuilder
import Derived.Shelf.Strconv.Itoa0
import Derived.Shelf.Strconv.Itoa1
import Derived.Shelf.LaysM
import Derived.Shelf.Strconv.Itoa2
import Derived.Shelf.Strconv.Itoa3
import Derived.Test.YtdbeeenjcjplhaaDoorProg
import Derived.Test.YtdbeeenjcjplhaaDoorEa
import Derived.Lib.ItoaLen
import Derived.Test.YtdbeeenjcjplhaaDoorEc
/-
  DERIVED: THE SHELF's CONTRACTS AT THIS DUMP, IN PLAIN WORDS (tools/lay-plain.mjs out of 'TrydShelf.lean', which tools/lay-shelf.mjs wrote): THE SAME DECLARATIONS UNDER THE SAME NAMES: 'import', 'namespace', 'open', 'def', 'theorem' AND NOTHING ELSE: no command of the shelf's: FOR A HAND-IN. Each laying: the table of numbers ('.._ren') and one theorem, a field a fact of the dump's own or the kernel's comparison; each contract: ONE APPLICATION.
-/
namespace Go.Proofs
open Go.Shelf
def Tryd.lays169_ren : Go.Shelf.Ren := ⟨fun | 169 => 68 | n => n, fun | 70 => 120 | 9 => 9 | 0 => 0 | 72 => 122 | 37 => 72 | 127 => 156 | 3 => 3 | 5 => 5 | n => n, fun | n => n⟩
theorem Tryd.lays169 : Go.Proofs.Lays.n169 Tryd.prog Tryd.lays169_ren := {
  mixed := by kernel_rfl
  f169 := Tryd.func68.trans (congrArg some (by kernel_rfl))
  t0 := Tryd.underlying0
  a0 := Tryd.isAgg0
  z0 := Tryd.sizeOf0
  v0 := Tryd.zeroValue0
  t3 := Tryd.underlying3
  a3 := Tryd.isAgg3
  z3 := Tryd.sizeOf3
  v3 := Tryd.zeroValue3
  t9 := Tryd.underlying9
  a9 := Tryd.isAgg9
  z9 := Tryd.sizeOf9
  v9 := Tryd.zeroValue9
  t37 := Tryd.underlying72
  a37 := Tryd.isAgg72
  z37 := Tryd.sizeOf72
  v37 := Tryd.zeroValue72
  t70 := Tryd.underlying120
  a70 := Tryd.isAgg120
  z70 := Tryd.sizeOf120
  v70 := Tryd.zeroValue120
  t72 := Tryd.underlying122
  a72 := Tryd.isAgg122
  z72 := Tryd.sizeOf122
  v72 := Tryd.zeroValue122
  t127 := Tryd.underlying156
  a127 := Tryd.isAgg156
  z127 := Tryd.sizeOf156
  v127 := Tryd.zeroValue156 }
theorem Tryd.Builder_Extra_169 : Builder.Extra Tryd.prog Tryd.lays169_ren := {
  sizeBuilder := by kernel_rfl
  liesBuilder := by kernel_rfl
  t5 := Tryd.underlying5
  a5 := Tryd.isAgg5
  z5 := Tryd.sizeOf5
  v5 := Tryd.zeroValue5
  infoByte := by kernel_rfl
  cellsByte := by kernel_rfl
  sizeByte := by kernel_rfl
  neB5 := by decide }
open Go.RowKit in
/-- (*strings.Builder).String: "String returns the accumulated string.": OF A BUILDER THAT HOLDS AT LEAST ONE BYTE. ✋ THE MODEL FREEZES THOSE BYTES IN THE BUFFER (unsafe.String): a later write INTO them ends the model's run without an answer; a later append BEHIND them goes on. The statement's order of evaluation is drawn: one draw. (LAID: no walk: one application.) -/
theorem Tryd.Builder_String (B b : Nat) (l : List UInt8) (w : World) (h : Lib.IsBuilder 122 5 B b (Lib.byteCells l) w) (h0 : l ≠ []) :
    Calls Tryd.prog 68 #[.pointer (some ⟨b, 0, none⟩)] w fun e w' => e = .returned (.string ⟨l.toArray⟩) ∧ Below B w w' := Any.Builder_String Tryd.lays169 Tryd.Builder_Extra_169 B b l w h h0
open Go.RowKit in
/-- (*strings.Builder).String OF A BUILDER THAT HOLDS NO BYTE: the empty string. (Its buffer is nil, or a row of which it has taken nothing yet; where that row has NO capacity the model lays one new block for unsafe.SliceData's 'some address'.) One draw. (LAID: no walk: one application.) -/
theorem Tryd.Builder_String_empty (B b : Nat) (w : World) (h : Lib.IsBuilder 122 5 B b [] w) (hBw : B ≤ w.heap.size) :
    Calls Tryd.prog 68 #[.pointer (some ⟨b, 0, none⟩)] w fun e w' => e = .returned (.string ⟨#[]⟩) ∧ Below B w w' := Any.Builder_String_empty Tryd.lays169 Tryd.Builder_Extra_169 B b w h hBw
open Go.RowKit in
/-- (*strings.Builder).String: "String returns the accumulated string.": WHATEVER THE BUILDER HOLDS. (LAID: no walk: one application.) -/
theorem Tryd.Builder_String_any (B b : Nat) (l : List UInt8) (w : World) (h : Lib.IsBuilder 122 5 B b (Lib.byteCells l) w) (hBw : B ≤ w.heap.size) :
    Calls Tryd.prog 68 #[.pointer (some ⟨b, 0, none⟩)] w fun e w' => e = .returned (.string ⟨l.toArray⟩) ∧ Below B w w' := Any.Builder_String_any Tryd.lays169 Tryd.Builder_Extra_169 B b l w h hBw
def Tryd.lays241_ren : Go.Shelf.Ren := ⟨fun | 241 => 84 | 277 => 89 | n => n, fun | 70 => 120 | 3 => 3 | 0 => 0 | 72 => 122 | 37 => 72 | 5 => 5 | n => n, fun | n => n⟩
theorem Tryd.lays241 : Go.Proofs.Lays.n241 Tryd.prog Tryd.lays241_ren := {
  mixed := by kernel_rfl
  f241 := Tryd.func84.trans (congrArg some (by kernel_rfl))
  f277 := Tryd.func89.trans (congrArg some (by kernel_rfl))
  t0 := Tryd.underlying0
  a0 := Tryd.isAgg0
  z0 := Tryd.sizeOf0
  v0 := Tryd.zeroValue0
  t3 := Tryd.underlying3
  a3 := Tryd.isAgg3
  z3 := Tryd.sizeOf3
  v3 := Tryd.zeroValue3
  t37 := Tryd.underlying72
  a37 := Tryd.isAgg72
  z37 := Tryd.sizeOf72
  v37 := Tryd.zeroValue72
  t70 := Tryd.underlying120
  a70 := Tryd.isAgg120
  z70 := Tryd.sizeOf120
  v70 := Tryd.zeroValue120
  t72 := Tryd.underlying122
  a72 := Tryd.isAgg122
  z72 := Tryd.sizeOf122
  v72 := Tryd.zeroValue122 }
theorem Tryd.Builder_Extra_241 : Builder.Extra Tryd.prog Tryd.lays241_ren := {
  sizeBuilder := by kernel_rfl
  liesBuilder := by kernel_rfl
  t5 := Tryd.underlying5
  a5 := Tryd.isAgg5
  z5 := Tryd.sizeOf5
  v5 := Tryd.zeroValue5
  infoByte := by kernel_rfl
  cellsByte := by kernel_rfl
  sizeByte := by kernel_rfl
  neB5 := by decide }
open Go.RowKit in
/-- (*strings.Builder).grow (no doc but "grow copies the buffer to a new, larger buffer so that there are at least n bytes of capacity beyond len(b.buf)."): AT A BUILDER WITHOUT A BUFFER: a new row of whatever bytes for its buffer, none of them its own yet. Three draws. (LAID: no walk: one application.) -/
theorem Tryd.Builder_grow_fresh (B b n : Nat) (w : World) (hB : B ≤ b) (hbk : w.heap[b]? = some (.cells #[.pointer (some ⟨b, 0, none⟩), .slice none 0 0] 122 (0, 0))) (hBw : B ≤ w.heap.size) (hn : n ≤ 281474976710656) :
    Calls Tryd.prog 84 #[.pointer (some ⟨b, 0, none⟩), .int .i64 n] w fun e w' => e = .returned (.tuple #[]) ∧ (Lib.BuilderAt 122 5 B b (.pointer (some ⟨b, 0, none⟩)) [] w' ∧ Below B w w') := Any.Builder_grow_fresh Tryd.lays241 Tryd.Builder_Extra_241 B b n w hB hbk hBw hn
def Tryd.lays165_ren : Go.Shelf.Ren := ⟨fun | 165 => 66 | 240 => 83 | 241 => 84 | 276 => 88 | 277 => 89 | n => n, fun | 70 => 120 | 3 => 3 | 0 => 0 | 4 => 4 | 9 => 9 | 20 => 20 | 72 => 122 | 37 => 72 | 164 => 146 | 5 => 5 | n => n, fun | n => n⟩
theorem Tryd.lays165 : Go.Proofs.Lays.n165 Tryd.prog Tryd.lays165_ren := {
  mixed := by kernel_rfl
  f165 := Tryd.func66.trans (congrArg some (by kernel_rfl))
  f240 := Tryd.func83.trans (congrArg some (by kernel_rfl))
  f241 := Tryd.func84.trans (congrArg some (by kernel_rfl))
  f276 := Tryd.func88.trans (congrArg some (by kernel_rfl))
  f277 := Tryd.func89.trans (congrArg some (by kernel_rfl))
  t0 := Tryd.underlying0
  a0 := Tryd.isAgg0
  z0 := Tryd.sizeOf0
  v0 := Tryd.zeroValue0
  t3 := Tryd.underlying3
  a3 := Tryd.isAgg3
  z3 := Tryd.sizeOf3
  v3 := Tryd.zeroValue3
  t4 := Tryd.underlying4
  a4 := Tryd.isAgg4
  z4 := Tryd.sizeOf4
  v4 := Tryd.zeroValue4
  t9 := Tryd.underlying9
  a9 := Tryd.isAgg9
  z9 := Tryd.sizeOf9
  v9 := Tryd.zeroValue9
  t20 := Tryd.underlying20
  a20 := Tryd.isAgg20
  z20 := Tryd.sizeOf20
  v20 := Tryd.zeroValue20
  t37 := Tryd.underlying72
  a37 := Tryd.isAgg72
  z37 := Tryd.sizeOf72
  v37 := Tryd.zeroValue72
  t70 := Tryd.underlying120
  a70 := Tryd.isAgg120
  z70 := Tryd.sizeOf120
  v70 := Tryd.zeroValue120
  t72 := Tryd.underlying122
  a72 := Tryd.isAgg122
  z72 := Tryd.sizeOf122
  v72 := Tryd.zeroValue122
  t164 := Tryd.underlying146
  a164 := Tryd.isAgg146
  z164 := Tryd.sizeOf146
  v164 := Tryd.zeroValue146 }
theorem Tryd.Builder_Extra_165 : Builder.Extra Tryd.prog Tryd.lays165_ren := {
  sizeBuilder := by kernel_rfl
  liesBuilder := by kernel_rfl
  t5 := Tryd.underlying5
  a5 := Tryd.isAgg5
  z5 := Tryd.sizeOf5
  v5 := Tryd.zeroValue5
  infoByte := by kernel_rfl
  cellsByte := by kernel_rfl
  sizeByte := by kernel_rfl
  neB5 := by decide }
open Go.RowKit in
/-- (*strings.Builder).Grow AT A BUILDER THAT HAS NOT BEEN WRITTEN ('var b strings.Builder; b.Grow(n)'): "Grow grows b's capacity, if necessary, to guarantee space for another n bytes.": it holds no byte behind it as before it. (LAID: no walk: one application.) -/
theorem Tryd.Builder_Grow_fresh (B b n : Nat) (w : World) (hB : B ≤ b) (hbk : w.heap[b]? = some (.cells #[.pointer none, .slice none 0 0] 122 (0, 0))) (hBw : B ≤ w.heap.size) (hn : n ≤ 281474976710656) :
    Calls Tryd.prog 66 #[.pointer (some ⟨b, 0, none⟩), .int .i64 n] w fun e w' => e = .returned (.tuple #[]) ∧ (Lib.BuilderAt 122 5 B b (.pointer (some ⟨b, 0, none⟩)) [] w' ∧ Below B w w') := Any.Builder_Grow_fresh Tryd.lays165 Tryd.Builder_Extra_165 B b n w hB hbk hBw hn
def Tryd.lays156_ren : Go.Shelf.Ren := ⟨fun | 156 => 45 | 165 => 66 | 166 => 67 | 169 => 68 | 240 => 83 | 241 => 84 | 276 => 88 | 277 => 89 | n => n, fun | 31 => 91 | 9 => 9 | 3 => 3 | 4 => 4 | 0 => 0 | 20 => 20 | 72 => 122 | 76 => 124 | 70 => 120 | 37 => 72 | 75 => 28 | 127 => 156 | 164 => 146 | 5 => 5 | 80 => 31 | n => n, fun | n => n⟩
theorem Tryd.lays156 : Go.Proofs.Lays.n156 Tryd.prog Tryd.lays156_ren := {
  mixed := by kernel_rfl
  f156 := Tryd.func45.trans (congrArg some (by kernel_rfl))
  f165 := Tryd.func66.trans (congrArg some (by kernel_rfl))
  f166 := Tryd.func67.trans (congrArg some (by kernel_rfl))
  f169 := Tryd.func68.trans (congrArg some (by kernel_rfl))
  f240 := Tryd.func83.trans (congrArg some (by kernel_rfl))
  f241 := Tryd.func84.trans (congrArg some (by kernel_rfl))
  f276 := Tryd.func88.trans (congrArg some (by kernel_rfl))
  f277 := Tryd.func89.trans (congrArg some (by kernel_rfl))
  t0 := Tryd.underlying0
  a0 := Tryd.isAgg0
  z0 := Tryd.sizeOf0
  v0 := Tryd.zeroValue0
  t3 := Tryd.underlying3
  a3 := Tryd.isAgg3
  z3 := Tryd.sizeOf3
  v3 := Tryd.zeroValue3
  t4 := Tryd.underlying4
  a4 := Tryd.isAgg4
  z4 := Tryd.sizeOf4
  v4 := Tryd.zeroValue4
  t9 := Tryd.underlying9
  a9 := Tryd.isAgg9
  z9 := Tryd.sizeOf9
  v9 := Tryd.zeroValue9
  t20 := Tryd.underlying20
  a20 := Tryd.isAgg20
  z20 := Tryd.sizeOf20
  v20 := Tryd.zeroValue20
  t31 := Tryd.underlying91
  a31 := Tryd.isAgg91
  z31 := Tryd.sizeOf91
  v31 := Tryd.zeroValue91
  t37 := Tryd.underlying72
  a37 := Tryd.isAgg72
  z37 := Tryd.sizeOf72
  v37 := Tryd.zeroValue72
  t70 := Tryd.underlying120
  a70 := Tryd.isAgg120
  z70 := Tryd.sizeOf120
  v70 := Tryd.zeroValue120
  t72 := Tryd.underlying122
  a72 := Tryd.isAgg122
  z72 := Tryd.sizeOf122
  v72 := Tryd.zeroValue122
  t75 := Tryd.underlying28
  a75 := Tryd.isAgg28
  z75 := Tryd.sizeOf28
  v75 := Tryd.zeroValue28
  t76 := Tryd.underlying124
  a76 := Tryd.isAgg124
  z76 := Tryd.sizeOf124
  v76 := Tryd.zeroValue124
  t127 := Tryd.underlying156
  a127 := Tryd.isAgg156
  z127 := Tryd.sizeOf156
  v127 := Tryd.zeroValue156
  t164 := Tryd.underlying146
  a164 := Tryd.isAgg146
  z164 := Tryd.sizeOf146
  v164 := Tryd.zeroValue146 }
theorem Tryd.Builder_Extra_156 : Builder.Extra Tryd.prog Tryd.lays156_ren := {
  sizeBuilder := by kernel_rfl
  liesBuilder := by kernel_rfl
  t5 := Tryd.underlying5
  a5 := Tryd.isAgg5
  z5 := Tryd.sizeOf5
  v5 := Tryd.zeroValue5
  infoByte := by kernel_rfl
  cellsByte := by kernel_rfl
  sizeByte := by kernel_rfl
  neB5 := by decide }
open Go.RowKit in
/-- No element: the empty string; the world is as it was. (Whatever the slice's address and capacity: a nil slice too.) (LAID: no walk: one application.) -/
theorem Tryd.strings_Join_none (a : Option Addr) (c : Nat) (sep : ByteArray) (w : World) :
    Calls Tryd.prog 45 #[.slice a 0 c, .string sep] w fun e w' => e = .returned (.string ⟨#[]⟩) ∧ w' = w := Any.strings_Join_none Tryd.lays156 Tryd.Builder_Extra_156 a c sep w
open Go.RowKit in
/-- strings.Join: "Join concatenates the elements of its first argument to create a single string. The separator string sep is placed between elements in the resulting string.": HOWEVER MANY ELEMENTS. Below the heap's end the world is as it was. (LAID: no walk: one application.) -/
theorem Tryd.strings_Join (bk o c : Nat) (xs : List ByteArray) (sep : ByteArray) (w : World) (hcells : ∀ (j : Nat) x, xs[j]? = some x → w.cell? ⟨bk, o + j, none⟩ = some (.string x)) (hbk : bk < w.heap.size) (hN : xs.length ≤ 140737488355328) (hcap : xs.length ≤ c) (hlen : (Lib.join (xs.map (·.data.toList)) sep.data.toList).length ≤ 140737488355328) :
    Calls Tryd.prog 45 #[.slice (some ⟨bk, o, none⟩) xs.length c, .string sep] w fun e w' => e = .returned (.string ⟨(Lib.join (xs.map (·.data.toList)) sep.data.toList).toArray⟩) ∧ Below w.heap.size w w' := Any.strings_Join Tryd.lays156 Tryd.Builder_Extra_156 bk o c xs sep w hcells hbk hN hcap hlen
def Tryd.lays129_ren : Go.Shelf.Ren := ⟨fun | 129 => 95 | n => n, fun | 53 => 106 | 3 => 3 | 4 => 4 | 46 => 175 | 5 => 5 | 9 => 9 | n => n, fun | n => n⟩
theorem Tryd.lays129 : Go.Proofs.Lays.n129 Tryd.prog Tryd.lays129_ren := {
  mixed := by kernel_rfl
  f129 := Tryd.func95.trans (congrArg some (by kernel_rfl))
  t3 := Tryd.underlying3
  a3 := Tryd.isAgg3
  z3 := Tryd.sizeOf3
  v3 := Tryd.zeroValue3
  t4 := Tryd.underlying4
  a4 := Tryd.isAgg4
  z4 := Tryd.sizeOf4
  v4 := Tryd.zeroValue4
  t5 := Tryd.underlying5
  a5 := Tryd.isAgg5
  z5 := Tryd.sizeOf5
  v5 := Tryd.zeroValue5
  t9 := Tryd.underlying9
  a9 := Tryd.isAgg9
  z9 := Tryd.sizeOf9
  v9 := Tryd.zeroValue9
  t46 := Tryd.underlying175
  a46 := Tryd.isAgg175
  z46 := Tryd.sizeOf175
  v46 := Tryd.zeroValue175
  t53 := Tryd.underlying106
  a53 := Tryd.isAgg106
  z53 := Tryd.sizeOf106
  v53 := Tryd.zeroValue106 }
/-- bits.Len64: "Len64 returns the minimum number of bits required to represent x; the result is 0 for x == 0.": IT RETURNS 'Lib.bitLen x'; the world is as it was. ('h0', 'h1': x is a uint64.) (LAID: no walk: one application.) -/
theorem Tryd.bits_Len64 (x : Int) (w : World) (h0 : 0 ≤ x) (h1 : x ≤ 18446744073709551615) :
    Calls Tryd.prog 95 #[.int .u64 x] w fun e w' => e = .returned (.int .i64 (Lib.bitLen x.toNat)) ∧ w' = w := Any.bits_Len64 Tryd.lays129 x w h0 h1
def Tryd.lays317_ren : Go.Shelf.Ren := ⟨fun | 317 => 94 | n => n, fun | 3 => 3 | 46 => 175 | n => n, fun | n => n⟩
theorem Tryd.lays317 : Go.Proofs.Lays.n317 Tryd.prog Tryd.lays317_ren := {
  mixed := by kernel_rfl
  f317 := Tryd.func94.trans (congrArg some (by kernel_rfl))
  t3 := Tryd.underlying3
  a3 := Tryd.isAgg3
  z3 := Tryd.sizeOf3
  v3 := Tryd.zeroValue3
  t46 := Tryd.underlying175
  a46 := Tryd.isAgg175
  z46 := Tryd.sizeOf175
  v46 := Tryd.zeroValue175 }
open Go.Lib in
/-- internal/strconv.log10Pow2: "log10Pow2(x) returns ⌊log₁₀ 2**x⌋ = ⌊x * log₁₀ 2⌋.": '(x * 78913) >> 18', at an x up to 64 (a length in bits). The world is as it was. (LAID: no walk: one application.) -/
theorem Tryd.internal_strconv_log10Pow2 (x : Nat) (h : x ≤ 64) (w : World) :
    Calls Tryd.prog 94 #[.int .i64 x] w fun e w' => e = .returned (.int .i64 (Lib.l10 x)) ∧ w' = w := Any.internal_strconv_log10Pow2 Tryd.lays317 x h w
def Tryd.lays318_ren : Go.Shelf.Ren := ⟨fun | 318 => 96 | n => n, fun | 3 => 3 | 4 => 4 | n => n, fun | n => n⟩
theorem Tryd.lays318 : Go.Proofs.Lays.n318 Tryd.prog Tryd.lays318_ren := {
  mixed := by kernel_rfl
  f318 := Tryd.func96.trans (congrArg some (by kernel_rfl))
  t3 := Tryd.underlying3
  a3 := Tryd.isAgg3
  z3 := Tryd.sizeOf3
  v3 := Tryd.zeroValue3
  t4 := Tryd.underlying4
  a4 := Tryd.isAgg4
  z4 := Tryd.sizeOf4
  v4 := Tryd.zeroValue4 }
open Go.Lib in
/-- internal/strconv.bool2: "bool2 converts b to an integer: 1 for true, 0 for false." The world is as it was. (LAID: no walk: one application.) -/
theorem Tryd.internal_strconv_bool2_int (b : Bool) (w : World) :
    Calls Tryd.prog 96 #[.bool b] w fun e w' => e = .returned (.int .i64 (if b then 1 else 0)) ∧ w' = w := Any.internal_strconv_bool2_int Tryd.lays318 b w
def Tryd.lays283_ren : Go.Shelf.Ren := ⟨fun | 283 => 90 | n => n, fun | 3 => 3 | 9 => 9 | 4 => 4 | n => n, fun | n => n⟩
theorem Tryd.lays283 : Go.Proofs.Lays.n283 Tryd.prog Tryd.lays283_ren := {
  mixed := by kernel_rfl
  f283 := Tryd.func90.trans (congrArg some (by kernel_rfl))
  t3 := Tryd.underlying3
  a3 := Tryd.isAgg3
  z3 := Tryd.sizeOf3
  v3 := Tryd.zeroValue3
  t4 := Tryd.underlying4
  a4 := Tryd.isAgg4
  z4 := Tryd.sizeOf4
  v4 := Tryd.zeroValue4
  t9 := Tryd.underlying9
  a9 := Tryd.isAgg9
  z9 := Tryd.sizeOf9
  v9 := Tryd.zeroValue9 }
open Go.Lib in
/-- internal/strconv.small: "small returns the string for an i with 0 <= i < nSmalls.": i's decimal numeral. The world is as it was. (LAID: no walk: one application.) -/
theorem Tryd.internal_strconv_small (i : Nat) (h : i < 100) (w : World) :
    Calls Tryd.prog 90 #[.int .i64 i] w fun e w' => e = .returned (.string ⟨(Lib.decDigits i).toArray⟩) ∧ w' = w := Any.internal_strconv_small Tryd.lays283 i h w
def Tryd.laysM284_ren : Go.Shelf.Ren := ⟨fun | 284 => 91 | 129 => 95 | 317 => 94 | 318 => 96 | n => n, fun | 53 => 106 | 3 => 3 | 212 => 171 | 0 => 0 | 4 => 4 | 46 => 175 | 5 => 5 | 9 => 9 | n => n, fun | 17 => 2 | n => n⟩
theorem Tryd.laysM284 : Go.Proofs.LaysM.n284 Tryd.prog Tryd.laysM284_ren := {
  mixed := by kernel_rfl
  f129 := Tryd.func95.trans (congrArg some (by kernel_rfl))
  f284 := Tryd.func91.trans (congrArg some (by kernel_rfl))
  f317 := Tryd.func94.trans (congrArg some (by kernel_rfl))
  f318 := Tryd.func96.trans (congrArg some (by kernel_rfl))
  t0 := Tryd.underlying0
  a0 := Tryd.isAgg0
  z0 := Tryd.sizeOf0
  v0 := Tryd.zeroValue0
  t3 := Tryd.underlying3
  a3 := Tryd.isAgg3
  z3 := Tryd.sizeOf3
  v3 := Tryd.zeroValue3
  t4 := Tryd.underlying4
  a4 := Tryd.isAgg4
  z4 := Tryd.sizeOf4
  v4 := Tryd.zeroValue4
  t5 := Tryd.underlying5
  a5 := Tryd.isAgg5
  z5 := Tryd.sizeOf5
  v5 := Tryd.zeroValue5
  t9 := Tryd.underlying9
  a9 := Tryd.isAgg9
  z9 := Tryd.sizeOf9
  v9 := Tryd.zeroValue9
  t46 := Tryd.underlying175
  a46 := Tryd.isAgg175
  z46 := Tryd.sizeOf175
  v46 := Tryd.zeroValue175
  t53 := Tryd.underlying106
  a53 := Tryd.isAgg106
  z53 := Tryd.sizeOf106
  v53 := Tryd.zeroValue106
  t212 := Tryd.underlying171
  a212 := Tryd.isAgg171
  z212 := Tryd.sizeOf171
  v212 := Tryd.zeroValue171
  g17 := by kernel_rfl
  i0 := by kernel_rfl
  i3 := by kernel_rfl
  i4 := by kernel_rfl
  i5 := by kernel_rfl
  i9 := by kernel_rfl
  i46 := by kernel_rfl
  i53 := by kernel_rfl
  i212 := by kernel_rfl
  m17 := by kernel_rfl }
open Go.Lib in
/-- internal/strconv.numDigits, at a d that is not 0: THE NUMBER OF d's DECIMAL DIGITS. The world is as it was. (LAID: no walk: one application.) -/
theorem Tryd.internal_strconv_numDigits (u : Nat) (h1 : 1 ≤ u) (h2 : u < 18446744073709551616) (w : World) (htab : Lib.TabIs Tryd.prog w "internal/strconv.uint64pow10" .u64 Lib.pow10Tab) :
    Calls Tryd.prog 91 #[.int .u64 u] w fun e w' => e = .returned (.int .i64 (Lib.nDigits u)) ∧ w' = w := Any.internal_strconv_numDigits Tryd.laysM284 u h1 h2 w htab
def Tryd.lays285_ren : Go.Shelf.Ren := ⟨fun | 285 => 92 | n => n, fun | 37 => 72 | 53 => 106 | 3 => 3 | 4 => 4 | 51 => 172 | 9 => 9 | 5 => 5 | 0 => 0 | n => n, fun | n => n⟩
theorem Tryd.lays285 : Go.Proofs.Lays.n285 Tryd.prog Tryd.lays285_ren := {
  mixed := by kernel_rfl
  f285 := Tryd.func92.trans (congrArg some (by kernel_rfl))
  t0 := Tryd.underlying0
  a0 := Tryd.isAgg0
  z0 := Tryd.sizeOf0
  v0 := Tryd.zeroValue0
  t3 := Tryd.underlying3
  a3 := Tryd.isAgg3
  z3 := Tryd.sizeOf3
  v3 := Tryd.zeroValue3
  t4 := Tryd.underlying4
  a4 := Tryd.isAgg4
  z4 := Tryd.sizeOf4
  v4 := Tryd.zeroValue4
  t5 := Tryd.underlying5
  a5 := Tryd.isAgg5
  z5 := Tryd.sizeOf5
  v5 := Tryd.zeroValue5
  t9 := Tryd.underlying9
  a9 := Tryd.isAgg9
  z9 := Tryd.sizeOf9
  v9 := Tryd.zeroValue9
  t37 := Tryd.underlying72
  a37 := Tryd.isAgg72
  z37 := Tryd.sizeOf72
  v37 := Tryd.zeroValue72
  t51 := Tryd.underlying172
  a51 := Tryd.isAgg172
  z51 := Tryd.sizeOf172
  v51 := Tryd.zeroValue172
  t53 := Tryd.underlying106
  a53 := Tryd.isAgg106
  z53 := Tryd.sizeOf106
  v53 := Tryd.zeroValue106 }
open Go.RowKit Go.Sort Go.Lib in
/-- internal/strconv.formatBase10: "formatBase10 formats the decimal representation of u into a. The caller is responsible for ensuring that a is big enough to hold u. If a is too big, leading zeros will be filled in as needed.": THE ROW HOLDS u's DIGITS ('FmtInv .. 0 ..': every place t holds 'dg u (len - 1 - t)'); all else is as it was but for the count of draws. (LAID: no walk: one application.) -/
theorem Tryd.internal_strconv_formatBase10 (blk off cap : Nat) (u : Nat) (d : Array UInt8) (w : World) (hH : Holds (fun (b : UInt8) => Value.int .u8 (b.toNat : Int)) w blk off d) (hu : u < 10 ^ d.size) (hu64 : u < 18446744073709551616) (hsz : d.size < 4611686018427387904) :
    Calls Tryd.prog 92 #[.slice (some ⟨blk, off, none⟩) d.size cap, .int .u64 u] w fun e w' =>
      e = .returned (.tuple #[]) ∧ ∃ (n v' : Nat) (dk : Array UInt8), w' = (putRow (fun (b : UInt8) => Value.int .u8 (b.toNat : Int)) w blk off dk).drewN n ∧ FmtInv d.size u 0 v' dk := Any.internal_strconv_formatBase10 Tryd.lays285 blk off cap u d w hH hu hu64 hsz
def Tryd.laysM246_ren : Go.Shelf.Ren := ⟨fun | 246 => 85 | 283 => 90 | 284 => 91 | 285 => 92 | 286 => 93 | 129 => 95 | 317 => 94 | 318 => 96 | 319 => 97 | 320 => 98 | 337 => 99 | 338 => 100 | n => n, fun | 2 => 2 | 3 => 3 | 9 => 9 | 4 => 4 | 171 => 165 | 0 => 0 | 53 => 106 | 37 => 72 | 5 => 5 | 173 => 168 | 212 => 171 | 51 => 172 | 20 => 20 | 213 => 173 | 46 => 175 | 232 => 178 | 233 => 179 | n => n, fun | 17 => 2 | 18 => 3 | 19 => 4 | n => n⟩
theorem Tryd.laysM246 : Go.Proofs.LaysM.n246 Tryd.prog Tryd.laysM246_ren := {
  mixed := by kernel_rfl
  f129 := Tryd.func95.trans (congrArg some (by kernel_rfl))
  f246 := Tryd.func85.trans (congrArg some (by kernel_rfl))
  f283 := Tryd.func90.trans (congrArg some (by kernel_rfl))
  f284 := Tryd.func91.trans (congrArg some (by kernel_rfl))
  f285 := Tryd.func92.trans (congrArg some (by kernel_rfl))
  f286 := Tryd.func93.trans (congrArg some (by kernel_rfl))
  f317 := Tryd.func94.trans (congrArg some (by kernel_rfl))
  f318 := Tryd.func96.trans (congrArg some (by kernel_rfl))
  f319 := Tryd.func97.trans (congrArg some (by kernel_rfl))
  f320 := Tryd.func98.trans (congrArg some (by kernel_rfl))
  f337 := Tryd.func99.trans (congrArg some (by kernel_rfl))
  f338 := Tryd.func100.trans (congrArg some (by kernel_rfl))
  t0 := Tryd.underlying0
  a0 := Tryd.isAgg0
  z0 := Tryd.sizeOf0
  v0 := Tryd.zeroValue0
  t2 := Tryd.underlying2
  a2 := Tryd.isAgg2
  z2 := Tryd.sizeOf2
  v2 := Tryd.zeroValue2
  t3 := Tryd.underlying3
  a3 := Tryd.isAgg3
  z3 := Tryd.sizeOf3
  v3 := Tryd.zeroValue3
  t4 := Tryd.underlying4
  a4 := Tryd.isAgg4
  z4 := Tryd.sizeOf4
  v4 := Tryd.zeroValue4
  t5 := Tryd.underlying5
  a5 := Tryd.isAgg5
  z5 := Tryd.sizeOf5
  v5 := Tryd.zeroValue5
  t9 := Tryd.underlying9
  a9 := Tryd.isAgg9
  z9 := Tryd.sizeOf9
  v9 := Tryd.zeroValue9
  t20 := Tryd.underlying20
  a20 := Tryd.isAgg20
  z20 := Tryd.sizeOf20
  v20 := Tryd.zeroValue20
  t37 := Tryd.underlying72
  a37 := Tryd.isAgg72
  z37 := Tryd.sizeOf72
  v37 := Tryd.zeroValue72
  t46 := Tryd.underlying175
  a46 := Tryd.isAgg175
  z46 := Tryd.sizeOf175
  v46 := Tryd.zeroValue175
  t51 := Tryd.underlying172
  a51 := Tryd.isAgg172
  z51 := Tryd.sizeOf172
  v51 := Tryd.zeroValue172
  t53 := Tryd.underlying106
  a53 := Tryd.isAgg106
  z53 := Tryd.sizeOf106
  v53 := Tryd.zeroValue106
  t171 := Tryd.underlying165
  a171 := Tryd.isAgg165
  z171 := Tryd.sizeOf165
  v171 := Tryd.zeroValue165
  t173 := Tryd.underlying168
  a173 := Tryd.isAgg168
  z173 := Tryd.sizeOf168
  v173 := Tryd.zeroValue168
  t212 := Tryd.underlying171
  a212 := Tryd.isAgg171
  z212 := Tryd.sizeOf171
  v212 := Tryd.zeroValue171
  t213 := Tryd.underlying173
  a213 := Tryd.isAgg173
  z213 := Tryd.sizeOf173
  t232 := Tryd.underlying178
  a232 := Tryd.isAgg178
  z232 := Tryd.sizeOf178
  v232 := Tryd.zeroValue178
  t233 := Tryd.underlying179
  a233 := Tryd.isAgg179
  z233 := Tryd.sizeOf179
  v233 := Tryd.zeroValue179
  g17 := by kernel_rfl
  g18 := by kernel_rfl
  g19 := by kernel_rfl
  i0 := by kernel_rfl
  i2 := by kernel_rfl
  i3 := by kernel_rfl
  i4 := by kernel_rfl
  i5 := by kernel_rfl
  i9 := by kernel_rfl
  i20 := by kernel_rfl
  i37 := by kernel_rfl
  i46 := by kernel_rfl
  i51 := by kernel_rfl
  i53 := by kernel_rfl
  i171 := by kernel_rfl
  i173 := by kernel_rfl
  i212 := by kernel_rfl
  i232 := by kernel_rfl
  i233 := by kernel_rfl
  m17 := by kernel_rfl
  m18 := by kernel_rfl
  m19 := by kernel_rfl }
open Go.RowKit Go.Sort Go.Lib in
/-- internal/strconv.FormatInt: "FormatInt returns the string representation of i in the given base": AT BASE 10: i's decimal numeral, for every int64. The world behind the call: the world before it, new blocks behind the heap, draws. (LAID: no walk: one application.) -/
theorem Tryd.internal_strconv_FormatInt_10 (n : Int) (h0 : -9223372036854775808 ≤ n) (h1 : n ≤ 9223372036854775807) (w : World) (htab : Lib.TabIs Tryd.prog w "internal/strconv.uint64pow10" .u64 Lib.pow10Tab) :
    Calls Tryd.prog 85 #[.int .i64 n, .int .i64 10] w fun e w' => e = .returned (.string ⟨(Lib.itoa n).toArray⟩) ∧ ∃ k os, w' = grow (w.drewN k) os := Any.internal_strconv_FormatInt_10 Tryd.laysM246 n h0 h1 w htab
def Tryd.lays246_ren : Go.Shelf.Ren := ⟨fun | 246 => 85 | 283 => 90 | 284 => 91 | 285 => 92 | 286 => 93 | 129 => 95 | 317 => 94 | 318 => 96 | 319 => 97 | 320 => 98 | 337 => 99 | 338 => 100 | n => n, fun | 2 => 2 | 3 => 3 | 9 => 9 | 4 => 4 | 171 => 165 | 0 => 0 | 53 => 106 | 37 => 72 | 5 => 5 | 173 => 168 | 212 => 171 | 51 => 172 | 20 => 20 | 213 => 173 | 46 => 175 | 232 => 178 | 233 => 179 | n => n, fun | 17 => 2 | 18 => 3 | 19 => 4 | n => n⟩
theorem Tryd.lays246 : Go.Proofs.Lays.n246 Tryd.prog Tryd.lays246_ren := {
  mixed := by kernel_rfl
  f129 := Tryd.func95.trans (congrArg some (by kernel_rfl))
  f246 := Tryd.func85.trans (congrArg some (by kernel_rfl))
  f283 := Tryd.func90.trans (congrArg some (by kernel_rfl))
  f284 := Tryd.func91.trans (congrArg some (by kernel_rfl))
  f285 := Tryd.func92.trans (congrArg some (by kernel_rfl))
  f286 := Tryd.func93.trans (congrArg some (by kernel_rfl))
  f317 := Tryd.func94.trans (congrArg some (by kernel_rfl))
  f318 := Tryd.func96.trans (congrArg some (by kernel_rfl))
  f319 := Tryd.func97.trans (congrArg some (by kernel_rfl))
  f320 := Tryd.func98.trans (congrArg some (by kernel_rfl))
  f337 := Tryd.func99.trans (congrArg some (by kernel_rfl))
  f338 := Tryd.func100.trans (congrArg some (by kernel_rfl))
  t0 := Tryd.underlying0
  a0 := Tryd.isAgg0
  z0 := Tryd.sizeOf0
  v0 := Tryd.zeroValue0
  t2 := Tryd.underlying2
  a2 := Tryd.isAgg2
  z2 := Tryd.sizeOf2
  v2 := Tryd.zeroValue2
  t3 := Tryd.underlying3
  a3 := Tryd.isAgg3
  z3 := Tryd.sizeOf3
  v3 := Tryd.zeroValue3
  t4 := Tryd.underlying4
  a4 := Tryd.isAgg4
  z4 := Tryd.sizeOf4
  v4 := Tryd.zeroValue4
  t5 := Tryd.underlying5
  a5 := Tryd.isAgg5
  z5 := Tryd.sizeOf5
  v5 := Tryd.zeroValue5
  t9 := Tryd.underlying9
  a9 := Tryd.isAgg9
  z9 := Tryd.sizeOf9
  v9 := Tryd.zeroValue9
  t20 := Tryd.underlying20
  a20 := Tryd.isAgg20
  z20 := Tryd.sizeOf20
  v20 := Tryd.zeroValue20
  t37 := Tryd.underlying72
  a37 := Tryd.isAgg72
  z37 := Tryd.sizeOf72
  v37 := Tryd.zeroValue72
  t46 := Tryd.underlying175
  a46 := Tryd.isAgg175
  z46 := Tryd.sizeOf175
  v46 := Tryd.zeroValue175
  t51 := Tryd.underlying172
  a51 := Tryd.isAgg172
  z51 := Tryd.sizeOf172
  v51 := Tryd.zeroValue172
  t53 := Tryd.underlying106
  a53 := Tryd.isAgg106
  z53 := Tryd.sizeOf106
  v53 := Tryd.zeroValue106
  t171 := Tryd.underlying165
  a171 := Tryd.isAgg165
  z171 := Tryd.sizeOf165
  v171 := Tryd.zeroValue165
  t173 := Tryd.underlying168
  a173 := Tryd.isAgg168
  z173 := Tryd.sizeOf168
  v173 := Tryd.zeroValue168
  t212 := Tryd.underlying171
  a212 := Tryd.isAgg171
  z212 := Tryd.sizeOf171
  v212 := Tryd.zeroValue171
  t213 := Tryd.underlying173
  a213 := Tryd.isAgg173
  z213 := Tryd.sizeOf173
  t232 := Tryd.underlying178
  a232 := Tryd.isAgg178
  z232 := Tryd.sizeOf178
  v232 := Tryd.zeroValue178
  t233 := Tryd.underlying179
  a233 := Tryd.isAgg179
  z233 := Tryd.sizeOf179
  v233 := Tryd.zeroValue179
  g17 := by kernel_rfl
  g18 := by kernel_rfl
  g19 := by kernel_rfl }
open Go.RowKit Go.Sort Go.Lib in
/-- THE ROAD WITHOUT THE TABLE: 0 <= i < 100: two constants are read, nothing is laid: no premise on the world, and the world is as it was. (LAID: no walk: one application.) -/
theorem Tryd.internal_strconv_FormatInt_10_small (i : Nat) (hi : i < 100) (w : World) :
    Calls Tryd.prog 85 #[.int .i64 i, .int .i64 10] w fun e w' => e = .returned (.string ⟨(Lib.decDigits i).toArray⟩) ∧ w' = w := Any.internal_strconv_FormatInt_10_small Tryd.lays246 i hi w
def Tryd.laysM243_ren : Go.Shelf.Ren := ⟨fun | 243 => 78 | 246 => 85 | 283 => 90 | 284 => 91 | 285 => 92 | 286 => 93 | 129 => 95 | 317 => 94 | 318 => 96 | 319 => 97 | 320 => 98 | 337 => 99 | 338 => 100 | n => n, fun | 3 => 3 | 9 => 9 | 2 => 2 | 4 => 4 | 171 => 165 | 0 => 0 | 53 => 106 | 37 => 72 | 5 => 5 | 173 => 168 | 212 => 171 | 51 => 172 | 20 => 20 | 213 => 173 | 46 => 175 | 232 => 178 | 233 => 179 | n => n, fun | 17 => 2 | 18 => 3 | 19 => 4 | n => n⟩
theorem Tryd.laysM243 : Go.Proofs.LaysM.n243 Tryd.prog Tryd.laysM243_ren := {
  mixed := by kernel_rfl
  f129 := Tryd.func95.trans (congrArg some (by kernel_rfl))
  f243 := Tryd.func78.trans (congrArg some (by kernel_rfl))
  f246 := Tryd.func85.trans (congrArg some (by kernel_rfl))
  f283 := Tryd.func90.trans (congrArg some (by kernel_rfl))
  f284 := Tryd.func91.trans (congrArg some (by kernel_rfl))
  f285 := Tryd.func92.trans (congrArg some (by kernel_rfl))
  f286 := Tryd.func93.trans (congrArg some (by kernel_rfl))
  f317 := Tryd.func94.trans (congrArg some (by kernel_rfl))
  f318 := Tryd.func96.trans (congrArg some (by kernel_rfl))
  f319 := Tryd.func97.trans (congrArg some (by kernel_rfl))
  f320 := Tryd.func98.trans (congrArg some (by kernel_rfl))
  f337 := Tryd.func99.trans (congrArg some (by kernel_rfl))
  f338 := Tryd.func100.trans (congrArg some (by kernel_rfl))
  t0 := Tryd.underlying0
  a0 := Tryd.isAgg0
  z0 := Tryd.sizeOf0
  v0 := Tryd.zeroValue0
  t2 := Tryd.underlying2
  a2 := Tryd.isAgg2
  z2 := Tryd.sizeOf2
  v2 := Tryd.zeroValue2
  t3 := Tryd.underlying3
  a3 := Tryd.isAgg3
  z3 := Tryd.sizeOf3
  v3 := Tryd.zeroValue3
  t4 := Tryd.underlying4
  a4 := Tryd.isAgg4
  z4 := Tryd.sizeOf4
  v4 := Tryd.zeroValue4
  t5 := Tryd.underlying5
  a5 := Tryd.isAgg5
  z5 := Tryd.sizeOf5
  v5 := Tryd.zeroValue5
  t9 := Tryd.underlying9
  a9 := Tryd.isAgg9
  z9 := Tryd.sizeOf9
  v9 := Tryd.zeroValue9
  t20 := Tryd.underlying20
  a20 := Tryd.isAgg20
  z20 := Tryd.sizeOf20
  v20 := Tryd.zeroValue20
  t37 := Tryd.underlying72
  a37 := Tryd.isAgg72
  z37 := Tryd.sizeOf72
  v37 := Tryd.zeroValue72
  t46 := Tryd.underlying175
  a46 := Tryd.isAgg175
  z46 := Tryd.sizeOf175
  v46 := Tryd.zeroValue175
  t51 := Tryd.underlying172
  a51 := Tryd.isAgg172
  z51 := Tryd.sizeOf172
  v51 := Tryd.zeroValue172
  t53 := Tryd.underlying106
  a53 := Tryd.isAgg106
  z53 := Tryd.sizeOf106
  v53 := Tryd.zeroValue106
  t171 := Tryd.underlying165
  a171 := Tryd.isAgg165
  z171 := Tryd.sizeOf165
  v171 := Tryd.zeroValue165
  t173 := Tryd.underlying168
  a173 := Tryd.isAgg168
  z173 := Tryd.sizeOf168
  v173 := Tryd.zeroValue168
  t212 := Tryd.underlying171
  a212 := Tryd.isAgg171
  z212 := Tryd.sizeOf171
  v212 := Tryd.zeroValue171
  t213 := Tryd.underlying173
  a213 := Tryd.isAgg173
  z213 := Tryd.sizeOf173
  t232 := Tryd.underlying178
  a232 := Tryd.isAgg178
  z232 := Tryd.sizeOf178
  v232 := Tryd.zeroValue178
  t233 := Tryd.underlying179
  a233 := Tryd.isAgg179
  z233 := Tryd.sizeOf179
  v233 := Tryd.zeroValue179
  g17 := by kernel_rfl
  g18 := by kernel_rfl
  g19 := by kernel_rfl
  i0 := by kernel_rfl
  i2 := by kernel_rfl
  i3 := by kernel_rfl
  i4 := by kernel_rfl
  i5 := by kernel_rfl
  i9 := by kernel_rfl
  i20 := by kernel_rfl
  i37 := by kernel_rfl
  i46 := by kernel_rfl
  i51 := by kernel_rfl
  i53 := by kernel_rfl
  i171 := by kernel_rfl
  i173 := by kernel_rfl
  i212 := by kernel_rfl
  i232 := by kernel_rfl
  i233 := by kernel_rfl
  m17 := by kernel_rfl
  m18 := by kernel_rfl
  m19 := by kernel_rfl }
open Go.RowKit Go.Sort Go.Lib in
/-- internal/strconv.Itoa: "Itoa is equivalent to FormatInt(int64(i), 10).": i's decimal numeral, for every int. (LAID: no walk: one application.) -/
theorem Tryd.internal_strconv_Itoa (n : Int) (h0 : -9223372036854775808 ≤ n) (h1 : n ≤ 9223372036854775807) (w : World) (htab : Lib.TabIs Tryd.prog w "internal/strconv.uint64pow10" .u64 Lib.pow10Tab) :
    Calls Tryd.prog 78 #[.int .i64 n] w fun e w' => e = .returned (.string ⟨(Lib.itoa n).toArray⟩) ∧ ∃ k os, w' = grow (w.drewN k) os := Any.internal_strconv_Itoa Tryd.laysM243 n h0 h1 w htab
def Tryd.lays243_ren : Go.Shelf.Ren := ⟨fun | 243 => 78 | 246 => 85 | 283 => 90 | 284 => 91 | 285 => 92 | 286 => 93 | 129 => 95 | 317 => 94 | 318 => 96 | 319 => 97 | 320 => 98 | 337 => 99 | 338 => 100 | n => n, fun | 3 => 3 | 9 => 9 | 2 => 2 | 4 => 4 | 171 => 165 | 0 => 0 | 53 => 106 | 37 => 72 | 5 => 5 | 173 => 168 | 212 => 171 | 51 => 172 | 20 => 20 | 213 => 173 | 46 => 175 | 232 => 178 | 233 => 179 | n => n, fun | 17 => 2 | 18 => 3 | 19 => 4 | n => n⟩
theorem Tryd.lays243 : Go.Proofs.Lays.n243 Tryd.prog Tryd.lays243_ren := {
  mixed := by kernel_rfl
  f129 := Tryd.func95.trans (congrArg some (by kernel_rfl))
  f243 := Tryd.func78.trans (congrArg some (by kernel_rfl))
  f246 := Tryd.func85.trans (congrArg some (by kernel_rfl))
  f283 := Tryd.func90.trans (congrArg some (by kernel_rfl))
  f284 := Tryd.func91.trans (congrArg some (by kernel_rfl))
  f285 := Tryd.func92.trans (congrArg some (by kernel_rfl))
  f286 := Tryd.func93.trans (congrArg some (by kernel_rfl))
  f317 := Tryd.func94.trans (congrArg some (by kernel_rfl))
  f318 := Tryd.func96.trans (congrArg some (by kernel_rfl))
  f319 := Tryd.func97.trans (congrArg some (by kernel_rfl))
  f320 := Tryd.func98.trans (congrArg some (by kernel_rfl))
  f337 := Tryd.func99.trans (congrArg some (by kernel_rfl))
  f338 := Tryd.func100.trans (congrArg some (by kernel_rfl))
  t0 := Tryd.underlying0
  a0 := Tryd.isAgg0
  z0 := Tryd.sizeOf0
  v0 := Tryd.zeroValue0
  t2 := Tryd.underlying2
  a2 := Tryd.isAgg2
  z2 := Tryd.sizeOf2
  v2 := Tryd.zeroValue2
  t3 := Tryd.underlying3
  a3 := Tryd.isAgg3
  z3 := Tryd.sizeOf3
  v3 := Tryd.zeroValue3
  t4 := Tryd.underlying4
  a4 := Tryd.isAgg4
  z4 := Tryd.sizeOf4
  v4 := Tryd.zeroValue4
  t5 := Tryd.underlying5
  a5 := Tryd.isAgg5
  z5 := Tryd.sizeOf5
  v5 := Tryd.zeroValue5
  t9 := Tryd.underlying9
  a9 := Tryd.isAgg9
  z9 := Tryd.sizeOf9
  v9 := Tryd.zeroValue9
  t20 := Tryd.underlying20
  a20 := Tryd.isAgg20
  z20 := Tryd.sizeOf20
  v20 := Tryd.zeroValue20
  t37 := Tryd.underlying72
  a37 := Tryd.isAgg72
  z37 := Tryd.sizeOf72
  v37 := Tryd.zeroValue72
  t46 := Tryd.underlying175
  a46 := Tryd.isAgg175
  z46 := Tryd.sizeOf175
  v46 := Tryd.zeroValue175
  t51 := Tryd.underlying172
  a51 := Tryd.isAgg172
  z51 := Tryd.sizeOf172
  v51 := Tryd.zeroValue172
  t53 := Tryd.underlying106
  a53 := Tryd.isAgg106
  z53 := Tryd.sizeOf106
  v53 := Tryd.zeroValue106
  t171 := Tryd.underlying165
  a171 := Tryd.isAgg165
  z171 := Tryd.sizeOf165
  v171 := Tryd.zeroValue165
  t173 := Tryd.underlying168
  a173 := Tryd.isAgg168
  z173 := Tryd.sizeOf168
  v173 := Tryd.zeroValue168
  t212 := Tryd.underlying171
  a212 := Tryd.isAgg171
  z212 := Tryd.sizeOf171
  v212 := Tryd.zeroValue171
  t213 := Tryd.underlying173
  a213 := Tryd.isAgg173
  z213 := Tryd.sizeOf173
  t232 := Tryd.underlying178
  a232 := Tryd.isAgg178
  z232 := Tryd.sizeOf178
  v232 := Tryd.zeroValue178
  t233 := Tryd.underlying179
  a233 := Tryd.isAgg179
  z233 := Tryd.sizeOf179
  v233 := Tryd.zeroValue179
  g17 := by kernel_rfl
  g18 := by kernel_rfl
  g19 := by kernel_rfl }
open Go.RowKit Go.Sort Go.Lib in
/-- THE ROAD WITHOUT THE TABLE: 0 <= i < 100. (LAID: no walk: one application.) -/
theorem Tryd.internal_strconv_Itoa_small (i : Nat) (hi : i < 100) (w : World) :
    Calls Tryd.prog 78 #[.int .i64 i] w fun e w' => e = .returned (.string ⟨(Lib.decDigits i).toArray⟩) ∧ w' = w := Any.internal_strconv_Itoa_small Tryd.lays243 i hi w
def Tryd.laysM171_ren : Go.Shelf.Ren := ⟨fun | 171 => 63 | 243 => 78 | 246 => 85 | 283 => 90 | 284 => 91 | 285 => 92 | 286 => 93 | 129 => 95 | 317 => 94 | 318 => 96 | 319 => 97 | 320 => 98 | 337 => 99 | 338 => 100 | n => n, fun | 3 => 3 | 9 => 9 | 2 => 2 | 4 => 4 | 171 => 165 | 0 => 0 | 53 => 106 | 37 => 72 | 5 => 5 | 173 => 168 | 212 => 171 | 51 => 172 | 20 => 20 | 213 => 173 | 46 => 175 | 232 => 178 | 233 => 179 | n => n, fun | 17 => 2 | 18 => 3 | 19 => 4 | n => n⟩
theorem Tryd.laysM171 : Go.Proofs.LaysM.n171 Tryd.prog Tryd.laysM171_ren := {
  mixed := by kernel_rfl
  f129 := Tryd.func95.trans (congrArg some (by kernel_rfl))
  f171 := Tryd.func63.trans (congrArg some (by kernel_rfl))
  f243 := Tryd.func78.trans (congrArg some (by kernel_rfl))
  f246 := Tryd.func85.trans (congrArg some (by kernel_rfl))
  f283 := Tryd.func90.trans (congrArg some (by kernel_rfl))
  f284 := Tryd.func91.trans (congrArg some (by kernel_rfl))
  f285 := Tryd.func92.trans (congrArg some (by kernel_rfl))
  f286 := Tryd.func93.trans (congrArg some (by kernel_rfl))
  f317 := Tryd.func94.trans (congrArg some (by kernel_rfl))
  f318 := Tryd.func96.trans (congrArg some (by kernel_rfl))
  f319 := Tryd.func97.trans (congrArg some (by kernel_rfl))
  f320 := Tryd.func98.trans (congrArg some (by kernel_rfl))
  f337 := Tryd.func99.trans (congrArg some (by kernel_rfl))
  f338 := Tryd.func100.trans (congrArg some (by kernel_rfl))
  t0 := Tryd.underlying0
  a0 := Tryd.isAgg0
  z0 := Tryd.sizeOf0
  v0 := Tryd.zeroValue0
  t2 := Tryd.underlying2
  a2 := Tryd.isAgg2
  z2 := Tryd.sizeOf2
  v2 := Tryd.zeroValue2
  t3 := Tryd.underlying3
  a3 := Tryd.isAgg3
  z3 := Tryd.sizeOf3
  v3 := Tryd.zeroValue3
  t4 := Tryd.underlying4
  a4 := Tryd.isAgg4
  z4 := Tryd.sizeOf4
  v4 := Tryd.zeroValue4
  t5 := Tryd.underlying5
  a5 := Tryd.isAgg5
  z5 := Tryd.sizeOf5
  v5 := Tryd.zeroValue5
  t9 := Tryd.underlying9
  a9 := Tryd.isAgg9
  z9 := Tryd.sizeOf9
  v9 := Tryd.zeroValue9
  t20 := Tryd.underlying20
  a20 := Tryd.isAgg20
  z20 := Tryd.sizeOf20
  v20 := Tryd.zeroValue20
  t37 := Tryd.underlying72
  a37 := Tryd.isAgg72
  z37 := Tryd.sizeOf72
  v37 := Tryd.zeroValue72
  t46 := Tryd.underlying175
  a46 := Tryd.isAgg175
  z46 := Tryd.sizeOf175
  v46 := Tryd.zeroValue175
  t51 := Tryd.underlying172
  a51 := Tryd.isAgg172
  z51 := Tryd.sizeOf172
  v51 := Tryd.zeroValue172
  t53 := Tryd.underlying106
  a53 := Tryd.isAgg106
  z53 := Tryd.sizeOf106
  v53 := Tryd.zeroValue106
  t171 := Tryd.underlying165
  a171 := Tryd.isAgg165
  z171 := Tryd.sizeOf165
  v171 := Tryd.zeroValue165
  t173 := Tryd.underlying168
  a173 := Tryd.isAgg168
  z173 := Tryd.sizeOf168
  v173 := Tryd.zeroValue168
  t212 := Tryd.underlying171
  a212 := Tryd.isAgg171
  z212 := Tryd.sizeOf171
  v212 := Tryd.zeroValue171
  t213 := Tryd.underlying173
  a213 := Tryd.isAgg173
  z213 := Tryd.sizeOf173
  t232 := Tryd.underlying178
  a232 := Tryd.isAgg178
  z232 := Tryd.sizeOf178
  v232 := Tryd.zeroValue178
  t233 := Tryd.underlying179
  a233 := Tryd.isAgg179
  z233 := Tryd.sizeOf179
  v233 := Tryd.zeroValue179
  g17 := by kernel_rfl
  g18 := by kernel_rfl
  g19 := by kernel_rfl
  i0 := by kernel_rfl
  i2 := by kernel_rfl
  i3 := by kernel_rfl
  i4 := by kernel_rfl
  i5 := by kernel_rfl
  i9 := by kernel_rfl
  i20 := by kernel_rfl
  i37 := by kernel_rfl
  i46 := by kernel_rfl
  i51 := by kernel_rfl
  i53 := by kernel_rfl
  i171 := by kernel_rfl
  i173 := by kernel_rfl
  i212 := by kernel_rfl
  i232 := by kernel_rfl
  i233 := by kernel_rfl
  m17 := by kernel_rfl
  m18 := by kernel_rfl
  m19 := by kernel_rfl }
open Go.RowKit Go.Sort Go.Lib in
/-- strconv.Itoa: "Itoa is equivalent to FormatInt(int64(i), 10).": i's DECIMAL NUMERAL ('Lib.itoa': a '-' where i is negative, then the digits), FOR EVERY int. The world behind the call: the world before it, new blocks behind the heap (the library's 'var a [24]byte'), draws. (LAID: no walk: one application.) -/
theorem Tryd.strconv_Itoa (n : Int) (h0 : -9223372036854775808 ≤ n) (h1 : n ≤ 9223372036854775807) (w : World) (htab : Lib.TabIs Tryd.prog w "internal/strconv.uint64pow10" .u64 Lib.pow10Tab) :
    Calls Tryd.prog 63 #[.int .i64 n] w fun e w' => e = .returned (.string ⟨(Lib.itoa n).toArray⟩) ∧ ∃ k os, w' = grow (w.drewN k) os := Any.strconv_Itoa Tryd.laysM171 n h0 h1 w htab
def Tryd.lays171_ren : Go.Shelf.Ren := ⟨fun | 171 => 63 | 243 => 78 | 246 => 85 | 283 => 90 | 284 => 91 | 285 => 92 | 286 => 93 | 129 => 95 | 317 => 94 | 318 => 96 | 319 => 97 | 320 => 98 | 337 => 99 | 338 => 100 | n => n, fun | 3 => 3 | 9 => 9 | 2 => 2 | 4 => 4 | 171 => 165 | 0 => 0 | 53 => 106 | 37 => 72 | 5 => 5 | 173 => 168 | 212 => 171 | 51 => 172 | 20 => 20 | 213 => 173 | 46 => 175 | 232 => 178 | 233 => 179 | n => n, fun | 17 => 2 | 18 => 3 | 19 => 4 | n => n⟩
theorem Tryd.lays171 : Go.Proofs.Lays.n171 Tryd.prog Tryd.lays171_ren := {
  mixed := by kernel_rfl
  f129 := Tryd.func95.trans (congrArg some (by kernel_rfl))
  f171 := Tryd.func63.trans (congrArg some (by kernel_rfl))
  f243 := Tryd.func78.trans (congrArg some (by kernel_rfl))
  f246 := Tryd.func85.trans (congrArg some (by kernel_rfl))
  f283 := Tryd.func90.trans (congrArg some (by kernel_rfl))
  f284 := Tryd.func91.trans (congrArg some (by kernel_rfl))
  f285 := Tryd.func92.trans (congrArg some (by kernel_rfl))
  f286 := Tryd.func93.trans (congrArg some (by kernel_rfl))
  f317 := Tryd.func94.trans (congrArg some (by kernel_rfl))
  f318 := Tryd.func96.trans (congrArg some (by kernel_rfl))
  f319 := Tryd.func97.trans (congrArg some (by kernel_rfl))
  f320 := Tryd.func98.trans (congrArg some (by kernel_rfl))
  f337 := Tryd.func99.trans (congrArg some (by kernel_rfl))
  f338 := Tryd.func100.trans (congrArg some (by kernel_rfl))
  t0 := Tryd.underlying0
  a0 := Tryd.isAgg0
  z0 := Tryd.sizeOf0
  v0 := Tryd.zeroValue0
  t2 := Tryd.underlying2
  a2 := Tryd.isAgg2
  z2 := Tryd.sizeOf2
  v2 := Tryd.zeroValue2
  t3 := Tryd.underlying3
  a3 := Tryd.isAgg3
  z3 := Tryd.sizeOf3
  v3 := Tryd.zeroValue3
  t4 := Tryd.underlying4
  a4 := Tryd.isAgg4
  z4 := Tryd.sizeOf4
  v4 := Tryd.zeroValue4
  t5 := Tryd.underlying5
  a5 := Tryd.isAgg5
  z5 := Tryd.sizeOf5
  v5 := Tryd.zeroValue5
  t9 := Tryd.underlying9
  a9 := Tryd.isAgg9
  z9 := Tryd.sizeOf9
  v9 := Tryd.zeroValue9
  t20 := Tryd.underlying20
  a20 := Tryd.isAgg20
  z20 := Tryd.sizeOf20
  v20 := Tryd.zeroValue20
  t37 := Tryd.underlying72
  a37 := Tryd.isAgg72
  z37 := Tryd.sizeOf72
  v37 := Tryd.zeroValue72
  t46 := Tryd.underlying175
  a46 := Tryd.isAgg175
  z46 := Tryd.sizeOf175
  v46 := Tryd.zeroValue175
  t51 := Tryd.underlying172
  a51 := Tryd.isAgg172
  z51 := Tryd.sizeOf172
  v51 := Tryd.zeroValue172
  t53 := Tryd.underlying106
  a53 := Tryd.isAgg106
  z53 := Tryd.sizeOf106
  v53 := Tryd.zeroValue106
  t171 := Tryd.underlying165
  a171 := Tryd.isAgg165
  z171 := Tryd.sizeOf165
  v171 := Tryd.zeroValue165
  t173 := Tryd.underlying168
  a173 := Tryd.isAgg168
  z173 := Tryd.sizeOf168
  v173 := Tryd.zeroValue168
  t212 := Tryd.underlying171
  a212 := Tryd.isAgg171
  z212 := Tryd.sizeOf171
  v212 := Tryd.zeroValue171
  t213 := Tryd.underlying173
  a213 := Tryd.isAgg173
  z213 := Tryd.sizeOf173
  t232 := Tryd.underlying178
  a232 := Tryd.isAgg178
  z232 := Tryd.sizeOf178
  v232 := Tryd.zeroValue178
  t233 := Tryd.underlying179
  a233 := Tryd.isAgg179
  z233 := Tryd.sizeOf179
  v233 := Tryd.zeroValue179
  g17 := by kernel_rfl
  g18 := by kernel_rfl
  g19 := by kernel_rfl }
open Go.RowKit Go.Sort Go.Lib in
/-- THE ROAD WITHOUT THE TABLE: 0 <= i < 100: NO PREMISE ON THE WORLD, AND THE WORLD IS AS IT WAS: a row that keeps its argument in that range need list no table ('laid = []'). (LAID: no walk: one application.) -/
theorem Tryd.strconv_Itoa_small (i : Nat) (hi : i < 100) (w : World) :
    Calls Tryd.prog 63 #[.int .i64 i] w fun e w' => e = .returned (.string ⟨(Lib.decDigits i).toArray⟩) ∧ w' = w := Any.strconv_Itoa_small Tryd.lays171 i hi w
end Go.Proofs

namespace Go.Proofs.YtdbeeenjcjplhaaDoor.Vc
open Go Go.RowKit Go.Proofs Go.Proofs.Tryd Go.Sort
set_option maxRecDepth 20000

abbrev tS' (s : ByteArray) : TV := .v (.string s)
/-- A number in decimal digits. -/
def itoaB (n : Int) : ByteArray := ⟨(Lib.itoa n).toArray⟩
theorem tab_laid {w : World} {ok : Nat → Prop} (hl : laidW prog w ok) : Lib.TabIs prog w "internal/strconv.uint64pow10" .u64 Lib.pow10Tab := by
  obtain ⟨_, ty, fr, h⟩ := hl 2 (Lib.pow10Tab.map fun z => Value.int .u64 z).toArray (List.mem_cons_of_mem _ List.mem_cons_self)
  unfold Lib.TabIs World.var?
  rw [glob2]
  simp [h]
theorem s63 (n : Int) (h0 : -9223372036854775808 ≤ n) (h1 : n ≤ 9223372036854775807) : Spec prog 63 [tI n] [] (.v (.string (itoaB n))) [] := by
  refine ⟨⟨f63, _, func63, rfl, by kernel_rfl⟩, by simp, by simp, fun w ok E0 vs hin hdis hnok hargs hlay => ?_⟩
  simp only [RelL, Rel] at hargs
  obtain ⟨u, us, rfl, ⟨_, rfl⟩, rfl⟩ := hargs
  refine (Tryd.strconv_Itoa n h0 h1 w (tab_laid hlay)).mono ?_
  rintro ev w' ⟨rfl, k, os, rfl⟩
  refine ⟨_, E0, rfl, ⟨rfl, rfl, rfl, by simp [grow, World.drewN], fun b hb _ => ?_, by simp []⟩, by simp, by simp [Rel, plain, itoaB], by simp, by simp, by simp⟩
  simp [grow, World.drewN, Array.getElem?_append_left hb]
end Go.Proofs.YtdbeeenjcjplhaaDoor.Vc

namespace Go.Proofs.YtdbeeenjcjplhaaDoor.Vc
open Go Go.RowKit Go.Proofs Go.Proofs.Tryd
set_option maxRecDepth 20000
/-- A number's digits. -/
def decB (n : Nat) : ByteArray := ⟨(Lib.decDigits n).toArray⟩
theorem decDigits_len (n : Nat) (k : Nat) (h : n < 10 ^ (k + 1)) : (Lib.decDigits n).length ≤ k + 1 := by
  induction k generalizing n with
  | zero => rw [Lib.decDigits, dif_pos (by simpa using h)]; simp
  | succ k ih =>
    rw [Lib.decDigits]
    split
    · simp
    · rw [List.length_append]
      have := ih (n / 10) (by rw [Nat.pow_succ] at h; omega)
      simp; omega
theorem dec_size (n : Nat) (h : n < 18446744073709551616) : (decB n).size ≤ 20 := by
  have := decDigits_len n 19 (by omega)
  simpa [decB, ByteArray.size] using this
theorem digit_cut (m : Nat) (h : m < 10) : (⟨#[48, 49, 50, 51, 52, 53, 54, 55, 56, 57]⟩ : ByteArray).extract m (m + 1) = ⟨#[UInt8.ofNat (48 + m)]⟩ := by
  have : m = 0 ∨ m = 1 ∨ m = 2 ∨ m = 3 ∨ m = 4 ∨ m = 5 ∨ m = 6 ∨ m = 7 ∨ m = 8 ∨ m = 9 := by omega
  rcases this with rfl | rfl | rfl | rfl | rfl | rfl | rfl | rfl | rfl | rfl <;> rfl
theorem s64 (n : Nat) : ∀ b : BitVec 64, b.toNat = n → Spec prog 64 [tU b] [] (.v (.string (decB n))) [] := by
  induction n using Nat.strongRecOn with
  | _ n ih =>
    intro b hb
    have hlt := b.isLt
    have e10 : (10#64).toNat = 10 := rfl
    have e1 : (1#64).toNat = 1 := rfl
    have hm : (b % 10#64).toNat = n % 10 := by rw [BitVec.toNat_umod, hb, e10]
    have hm1 : (b % 10#64 + 1#64).toNat = n % 10 + 1 := by rw [BitVec.toNat_add, hm, e1]; omega
    have hd : (b / 10#64).toNat = n / 10 := by rw [BitVec.toNat_udiv, hb, e10]
    have hz : (⟨#[48, 49, 50, 51, 52, 53, 54, 55, 56, 57]⟩ : ByteArray).size = 10 := rfl
    have hc := digit_cut (n % 10) (by omega)
    have hn : n < 18446744073709551616 := by omega
    have hs1 : ∀ x : UInt8, (⟨#[x]⟩ : ByteArray).size = 1 := fun _ => rfl
    by_cases h10 : n < 10
    · have hdec : (⟨#[UInt8.ofNat (48 + n % 10)]⟩ : ByteArray) = decB n := by
        rw [decB, Lib.decDigits, dif_pos h10, Nat.mod_eq_of_lt h10]
      generalize decB n = R at *
      refine spec_s is64 mixed rfl (V_x ?_)
      repeat' (first | ((conv => whnf) <;>
               first | refine Frz.own ?_ | refine Get.mk _ rfl ?_ | refine Get.mk _ (map_geti (by omega)) ?_ | refine Get.mk _ (map_getp (by omega) (by omega)) ?_ | refine Get.mk _ (map_get (by omega)) ?_ | refine Bv2.mk _ _ rfl rfl ?_ | refine Bv1.mk _ rfl ?_ | refine Wr.mk _ (wrap_i64 (by omega) (by omega)) ?_ | refine Wr.mk _ rfl ?_ | refine And.intro len_map ?_ | refine And.intro (leX_refl _) ?_ | refine And.intro rfl ?_ | refine And.intro (leO_some _) ?_ | (refine And.intro (fun h => absurd h (by decide)) (fun h => ?_); clear h) | (refine And.intro (fun h => ?_) (fun h => absurd h (by decide)); clear h) | (with_reducible first | refine sp1 (fun h => ?_) (fun h => ?_) | refine sp2 (fun h => ?_) (fun h => ?_) | refine sp3 (fun h => ?_) (fun h => ?_) | refine sp4 (fun h => ?_) (fun h => ?_) | refine sp5 (fun h => ?_) (fun h => ?_) | refine sp6 (fun h => ?_) (fun h => ?_)) | with_reducible refine And.intro (fun h => ?_) (fun h => ?_) | refine And.intro (Int.natCast_nonneg _) ?_ | refine And.intro (by omega) ?_ | refine And.intro (by decide) ?_ | refine Lst.mk _ rfl ?_ | refine Byt.mk _ rfl ?_ | refine And.intro trivial ?_ | exact trivial | exact leX_refl _ | exact rfl | refine frc_mk ?_ | refine weak_fr ?_ ?_ rfl | refine And.intro ?_ ?_ | fail) | refine frc_mk ?_)
      all_goals first
        | (simp only [Int.ofNat_eq_natCast, Int.toNat_natCast, hm, hm1, hz]; omega)
        | (exfalso; rw [hb, e10] at *; omega)
        | skip
      simp only [Int.ofNat_eq_natCast, Int.toNat_natCast, hm, hm1, hc, hdec]
      repeat' (first | ((conv => whnf) <;>
               first | refine Frz.own ?_ | refine Get.mk _ rfl ?_ | refine Get.mk _ (map_geti (by omega)) ?_ | refine Get.mk _ (map_getp (by omega) (by omega)) ?_ | refine Get.mk _ (map_get (by omega)) ?_ | refine Bv2.mk _ _ rfl rfl ?_ | refine Bv1.mk _ rfl ?_ | refine Wr.mk _ (wrap_i64 (by omega) (by omega)) ?_ | refine Wr.mk _ rfl ?_ | refine And.intro len_map ?_ | refine And.intro (leX_refl _) ?_ | refine And.intro rfl ?_ | refine And.intro (leO_some _) ?_ | (refine And.intro (fun h => absurd h (by decide)) (fun h => ?_); clear h) | (refine And.intro (fun h => ?_) (fun h => absurd h (by decide)); clear h) | (with_reducible first | refine sp1 (fun h => ?_) (fun h => ?_) | refine sp2 (fun h => ?_) (fun h => ?_) | refine sp3 (fun h => ?_) (fun h => ?_) | refine sp4 (fun h => ?_) (fun h => ?_) | refine sp5 (fun h => ?_) (fun h => ?_) | refine sp6 (fun h => ?_) (fun h => ?_)) | with_reducible refine And.intro (fun h => ?_) (fun h => ?_) | refine And.intro (Int.natCast_nonneg _) ?_ | refine And.intro (by omega) ?_ | refine And.intro (by decide) ?_ | refine Lst.mk _ rfl ?_ | refine Byt.mk _ rfl ?_ | refine And.intro trivial ?_ | exact trivial | exact leX_refl _ | exact rfl | refine frc_mk ?_ | refine weak_fr ?_ ?_ rfl | refine And.intro ?_ ?_ | fail) | refine frc_mk ?_)
      all_goals first
        | exact leX_refl _
        | trace_state
    · have ih := ih (n / 10) (by omega) (b / 10#64) hd
      have hsz := dec_size (n / 10) (by omega)
      have hdec : decB (n / 10) ++ (⟨#[UInt8.ofNat (48 + n % 10)]⟩ : ByteArray) = decB n := by
        conv => rhs; rw [decB, Lib.decDigits, dif_neg h10]
        rw [decB]
        apply ByteArray.ext
        simp
      generalize decB n = R at *
      generalize decB (n / 10) = Q at *
      refine spec_s is64 mixed rfl (V_x ?_)
      repeat' (first | ((conv => whnf) <;>
               first | refine Frz.own ?_ | refine Get.mk _ rfl ?_ | refine Get.mk _ (map_geti (by omega)) ?_ | refine Get.mk _ (map_getp (by omega) (by omega)) ?_ | refine Get.mk _ (map_get (by omega)) ?_ | refine Bv2.mk _ _ rfl rfl ?_ | refine Bv1.mk _ rfl ?_ | refine Wr.mk _ (wrap_i64 (by omega) (by omega)) ?_ | refine Wr.mk _ rfl ?_ | refine And.intro len_map ?_ | refine And.intro (leX_refl _) ?_ | refine And.intro rfl ?_ | refine And.intro (leO_some _) ?_ | (refine And.intro (fun h => absurd h (by decide)) (fun h => ?_); clear h) | (refine And.intro (fun h => ?_) (fun h => absurd h (by decide)); clear h) | (with_reducible first | refine sp1 (fun h => ?_) (fun h => ?_) | refine sp2 (fun h => ?_) (fun h => ?_) | refine sp3 (fun h => ?_) (fun h => ?_) | refine sp4 (fun h => ?_) (fun h => ?_) | refine sp5 (fun h => ?_) (fun h => ?_) | refine sp6 (fun h => ?_) (fun h => ?_)) | with_reducible refine And.intro (fun h => ?_) (fun h => ?_) | refine And.intro (Int.natCast_nonneg _) ?_ | refine And.intro (by omega) ?_ | refine And.intro (by decide) ?_ | refine Lst.mk _ rfl ?_ | refine Byt.mk _ rfl ?_ | refine Or.inr (Or.inl ⟨_, _, ih, leL_refl _, rfl, rfl, ?_⟩) | refine And.intro trivial ?_ | exact trivial | exact leX_refl _ | exact rfl | refine frc_mk ?_ | refine weak_fr ?_ ?_ rfl | refine And.intro ?_ ?_ | fail) | refine frc_mk ?_)
      all_goals first
        | (simp only [Int.ofNat_eq_natCast, Int.toNat_natCast, hm, hm1, hz]; omega)
        | (exfalso; rw [hb, e10] at *; omega)
        | skip
      · simp only [Int.ofNat_eq_natCast, Int.toNat_natCast, hm, hm1, hc, hs1]; omega
      · simp only [Int.ofNat_eq_natCast, Int.toNat_natCast, hm, hm1, hc, hdec]
        repeat' (first | ((conv => whnf) <;>
                 first | refine Frz.own ?_ | refine Get.mk _ rfl ?_ | refine Get.mk _ (map_geti (by omega)) ?_ | refine Get.mk _ (map_getp (by omega) (by omega)) ?_ | refine Get.mk _ (map_get (by omega)) ?_ | refine Bv2.mk _ _ rfl rfl ?_ | refine Bv1.mk _ rfl ?_ | refine Wr.mk _ (wrap_i64 (by omega) (by omega)) ?_ | refine Wr.mk _ rfl ?_ | refine And.intro len_map ?_ | refine And.intro (leX_refl _) ?_ | refine And.intro rfl ?_ | refine And.intro (leO_some _) ?_ | (refine And.intro (fun h => absurd h (by decide)) (fun h => ?_); clear h) | (refine And.intro (fun h => ?_) (fun h => absurd h (by decide)); clear h) | (with_reducible first | refine sp1 (fun h => ?_) (fun h => ?_) | refine sp2 (fun h => ?_) (fun h => ?_) | refine sp3 (fun h => ?_) (fun h => ?_) | refine sp4 (fun h => ?_) (fun h => ?_) | refine sp5 (fun h => ?_) (fun h => ?_) | refine sp6 (fun h => ?_) (fun h => ?_)) | with_reducible refine And.intro (fun h => ?_) (fun h => ?_) | refine And.intro (Int.natCast_nonneg _) ?_ | refine And.intro (by omega) ?_ | refine And.intro (by decide) ?_ | refine Lst.mk _ rfl ?_ | refine Byt.mk _ rfl ?_ | refine And.intro trivial ?_ | exact trivial | exact leX_refl _ | exact rfl | refine frc_mk ?_ | refine weak_fr ?_ ?_ rfl | refine And.intro ?_ ?_ | fail) | refine frc_mk ?_)
        all_goals first
          | exact leX_refl _
          | trace_state
end Go.Proofs.YtdbeeenjcjplhaaDoor.Vc

namespace Go.Proofs.YtdbeeenjcjplhaaDoor.Vc
open Go Go.RowKit Go.Proofs Go.Proofs.Tryd
set_option maxRecDepth 20000
theorem s40 (n : Int) (h0 : -9223372036854775808 ≤ n) (h1 : n ≤ 9223372036854775807) : Spec prog 40 [tI n] [] (.v (.string (itoaB n))) [] := by
  by_cases hn : n < 0
  · have hk : n.natAbs < 18446744073709551616 := by omega
    have h64 := s64 n.natAbs (0#64 - BitVec.ofInt 64 n) (by
      rw [BitVec.toNat_sub, BitVec.toNat_ofInt]
      have : (0#64).toNat = 0 := rfl
      rw [this]
      omega)
    have hsz := dec_size n.natAbs hk
    have hit : (⟨#[45]⟩ : ByteArray) ++ decB n.natAbs = itoaB n := by
      rw [itoaB, Lib.itoa, if_pos hn, decB]
      apply ByteArray.ext
      simp
    have e45 : (⟨#[45]⟩ : ByteArray).size = 1 := rfl
    generalize itoaB n = R at *
    refine spec_s is40 mixed rfl (V_x ?_)
    repeat' (first | ((conv => whnf) <;>
             first | refine Frz.own ?_ | refine Get.mk _ rfl ?_ | refine Get.mk _ (map_geti (by omega)) ?_ | refine Get.mk _ (map_getp (by omega) (by omega)) ?_ | refine Get.mk _ (map_get (by omega)) ?_ | refine Bv2.mk _ _ rfl rfl ?_ | refine Bv1.mk _ rfl ?_ | refine Wr.mk _ (wrap_i64 (by omega) (by omega)) ?_ | refine Wr.mk _ rfl ?_ | refine And.intro len_map ?_ | refine And.intro (leX_refl _) ?_ | refine And.intro rfl ?_ | refine And.intro (leO_some _) ?_ | (refine And.intro (fun h => absurd h (by decide)) (fun h => ?_); clear h) | (refine And.intro (fun h => ?_) (fun h => absurd h (by decide)); clear h) | (with_reducible first | refine sp1 (fun h => ?_) (fun h => ?_) | refine sp2 (fun h => ?_) (fun h => ?_) | refine sp3 (fun h => ?_) (fun h => ?_) | refine sp4 (fun h => ?_) (fun h => ?_) | refine sp5 (fun h => ?_) (fun h => ?_) | refine sp6 (fun h => ?_) (fun h => ?_)) | with_reducible refine And.intro (fun h => ?_) (fun h => ?_) | refine And.intro (Int.natCast_nonneg _) ?_ | refine And.intro (by omega) ?_ | refine And.intro (by decide) ?_ | refine Lst.mk _ rfl ?_ | refine Byt.mk _ rfl ?_ | refine Or.inr (Or.inl ⟨_, _, h64, leL_refl _, rfl, rfl, ?_⟩) | refine And.intro trivial ?_ | exact trivial | exact leX_refl _ | exact rfl | refine frc_mk ?_ | refine weak_fr ?_ ?_ rfl | refine And.intro ?_ ?_ | fail) | refine frc_mk ?_)
    all_goals first
      | contradiction
      | (rw [e45]; omega)
      | (rw [hit]; exact leX_refl _)
      | (refine leT ?_; rw [hit]; done)
      | skip
    all_goals trace_state
  · have h64 := s64 n.toNat (BitVec.ofInt 64 n) (by rw [BitVec.toNat_ofInt]; omega)
    have hit : decB n.toNat = itoaB n := by
      rw [itoaB, Lib.itoa, if_neg hn, decB]
    rw [hit] at h64
    generalize itoaB n = R at *
    refine spec_s is40 mixed rfl (V_x ?_)
    repeat' (first | ((conv => whnf) <;>
             first | refine Frz.own ?_ | refine Get.mk _ rfl ?_ | refine Get.mk _ (map_geti (by omega)) ?_ | refine Get.mk _ (map_getp (by omega) (by omega)) ?_ | refine Get.mk _ (map_get (by omega)) ?_ | refine Bv2.mk _ _ rfl rfl ?_ | refine Bv1.mk _ rfl ?_ | refine Wr.mk _ (wrap_i64 (by omega) (by omega)) ?_ | refine Wr.mk _ rfl ?_ | refine And.intro len_map ?_ | refine And.intro (leX_refl _) ?_ | refine And.intro rfl ?_ | refine And.intro (leO_some _) ?_ | (refine And.intro (fun h => absurd h (by decide)) (fun h => ?_); clear h) | (refine And.intro (fun h => ?_) (fun h => absurd h (by decide)); clear h) | (with_reducible first | refine sp1 (fun h => ?_) (fun h => ?_) | refine sp2 (fun h => ?_) (fun h => ?_) | refine sp3 (fun h => ?_) (fun h => ?_) | refine sp4 (fun h => ?_) (fun h => ?_) | refine sp5 (fun h => ?_) (fun h => ?_) | refine sp6 (fun h => ?_) (fun h => ?_)) | with_reducible refine And.intro (fun h => ?_) (fun h => ?_) | refine And.intro (Int.natCast_nonneg _) ?_ | refine And.intro (by omega) ?_ | refine And.intro (by decide) ?_ | refine Lst.mk _ rfl ?_ | refine Byt.mk _ rfl ?_ | refine Or.inr (Or.inl ⟨_, _, h64, leL_refl _, rfl, rfl, ?_⟩) | refine And.intro trivial ?_ | exact trivial | exact leX_refl _ | exact rfl | refine frc_mk ?_ | refine weak_fr ?_ ?_ rfl | refine And.intro ?_ ?_ | fail) | refine frc_mk ?_)
    all_goals first
      | contradiction
      | exact leX_refl _
      | skip
    all_goals trace_state
end Go.Proofs.YtdbeeenjcjplhaaDoor.Vc

namespace Go.Proofs.YtdbeeenjcjplhaaDoor.Vc
open Go Go.RowKit Go.Proofs Go.Proofs.Tryd
set_option maxRecDepth 20000
/-- A link in words. -/
def linkB (c : Int) (p : ByteArray) (a : Int) : ByteArray := p ++ ⟨#[32]⟩ ++ itoaB a ++ ⟨#[32, 35]⟩ ++ itoaB c
theorem itoa_size (n : Int) (h0 : -9223372036854775808 ≤ n) (h1 : n ≤ 9223372036854775807) : (itoaB n).size ≤ 21 := by
  have := Lib.itoa_length_le n h0 h1
  simpa [itoaB, ByteArray.size] using this
/-- Whole numbers of 64 bits. -/
structure I64 (n : Int) : Prop where
  lo : -9223372036854775808 ≤ n
  hi : n ≤ 9223372036854775807
theorem s39 (c : Int) (p : ByteArray) (a : Int) (hc : I64 c) (ha : I64 a) (hp : p.size ≤ 1000000) : Spec prog 39 [.a [tI c, .v (.string p), tI a]] [] (.v (.string (linkB c p a))) [] := by
  have hA := s63 a ha.lo ha.hi
  have hC := s63 c hc.lo hc.hi
  have h5 := itoa_size a ha.lo ha.hi
  have h6 := itoa_size c hc.lo hc.hi
  have e1 : (⟨#[32]⟩ : ByteArray).size = 1 := rfl
  have e2 : (⟨#[32, 35]⟩ : ByteArray).size = 2 := rfl
  unfold linkB
  refine spec_s is39 mixed rfl (V_x ?_)
  repeat' (first | ((conv => whnf) <;>
           first | refine Frz.own ?_ | refine Get.mk _ rfl ?_ | refine Get.mk _ (map_geti (by omega)) ?_ | refine Get.mk _ (map_getp (by omega) (by omega)) ?_ | refine Get.mk _ (map_get (by omega)) ?_ | refine Bv2.mk _ _ rfl rfl ?_ | refine Bv1.mk _ rfl ?_ | refine Wr.mk _ (wrap_i64 (by omega) (by omega)) ?_ | refine Wr.mk _ rfl ?_ | refine And.intro len_map ?_ | refine And.intro (leX_refl _) ?_ | refine And.intro rfl ?_ | refine And.intro (leO_some _) ?_ | (refine And.intro (fun h => absurd h (by decide)) (fun h => ?_); clear h) | (refine And.intro (fun h => ?_) (fun h => absurd h (by decide)); clear h) | (with_reducible first | refine sp1 (fun h => ?_) (fun h => ?_) | refine sp2 (fun h => ?_) (fun h => ?_) | refine sp3 (fun h => ?_) (fun h => ?_) | refine sp4 (fun h => ?_) (fun h => ?_) | refine sp5 (fun h => ?_) (fun h => ?_) | refine sp6 (fun h => ?_) (fun h => ?_)) | with_reducible refine And.intro (fun h => ?_) (fun h => ?_) | refine And.intro (Int.natCast_nonneg _) ?_ | refine And.intro (by omega) ?_ | refine And.intro (by decide) ?_ | refine Lst.mk _ rfl ?_ | refine Byt.mk _ rfl ?_ | refine Or.inr (Or.inl ⟨_, _, hA, leL_refl _, rfl, rfl, ?_⟩) | refine Or.inr (Or.inl ⟨_, _, hC, leL_refl _, rfl, rfl, ?_⟩) | refine And.intro trivial ?_ | exact trivial | exact leX_refl _ | exact rfl | refine frc_mk ?_ | refine weak_fr ?_ ?_ rfl | refine And.intro ?_ ?_ | fail) | refine frc_mk ?_)
  all_goals first
    | (simp only [ByteArray.size_append, e1, e2]; omega)
    | exact leX_refl _
    | trace_state
theorem s14 (c : Int) (p : ByteArray) (a : Int) (hc : I64 c) (ha : I64 a) (hp : p.size ≤ 1000000) : Spec prog 14 [.a [tI c, .v (.string p), tI a]] [] (.v (.string (linkB c p a))) [] := by
  have hA := s40 a ha.lo ha.hi
  have hC := s40 c hc.lo hc.hi
  have h5 := itoa_size a ha.lo ha.hi
  have h6 := itoa_size c hc.lo hc.hi
  have e1 : (⟨#[32]⟩ : ByteArray).size = 1 := rfl
  have e2 : (⟨#[32, 35]⟩ : ByteArray).size = 2 := rfl
  unfold linkB
  refine spec_s is14 mixed rfl (V_x ?_)
  repeat' (first | ((conv => whnf) <;>
           first | refine Frz.own ?_ | refine Get.mk _ rfl ?_ | refine Get.mk _ (map_geti (by omega)) ?_ | refine Get.mk _ (map_getp (by omega) (by omega)) ?_ | refine Get.mk _ (map_get (by omega)) ?_ | refine Bv2.mk _ _ rfl rfl ?_ | refine Bv1.mk _ rfl ?_ | refine Wr.mk _ (wrap_i64 (by omega) (by omega)) ?_ | refine Wr.mk _ rfl ?_ | refine And.intro len_map ?_ | refine And.intro (leX_refl _) ?_ | refine And.intro rfl ?_ | refine And.intro (leO_some _) ?_ | (refine And.intro (fun h => absurd h (by decide)) (fun h => ?_); clear h) | (refine And.intro (fun h => ?_) (fun h => absurd h (by decide)); clear h) | (with_reducible first | refine sp1 (fun h => ?_) (fun h => ?_) | refine sp2 (fun h => ?_) (fun h => ?_) | refine sp3 (fun h => ?_) (fun h => ?_) | refine sp4 (fun h => ?_) (fun h => ?_) | refine sp5 (fun h => ?_) (fun h => ?_) | refine sp6 (fun h => ?_) (fun h => ?_)) | with_reducible refine And.intro (fun h => ?_) (fun h => ?_) | refine And.intro (Int.natCast_nonneg _) ?_ | refine And.intro (by omega) ?_ | refine And.intro (by decide) ?_ | refine Lst.mk _ rfl ?_ | refine Byt.mk _ rfl ?_ | refine Or.inr (Or.inl ⟨_, _, hA, leL_refl _, rfl, rfl, ?_⟩) | refine Or.inr (Or.inl ⟨_, _, hC, leL_refl _, rfl, rfl, ?_⟩) | refine And.intro trivial ?_ | exact trivial | exact leX_refl _ | exact rfl | refine frc_mk ?_ | refine weak_fr ?_ ?_ rfl | refine And.intro ?_ ?_ | fail) | refine frc_mk ?_)
  all_goals first
    | (simp only [ByteArray.size_append, e1, e2]; omega)
    | exact leX_refl _
    | trace_state
theorem s13 (c : Int) (p : ByteArray) (a : Int) (e : TV) (hc : I64 c) (ha : I64 a) (hp : p.size ≤ 1000000) : Spec prog 13 [.r [tI c, .v (.string p), tI a, e]] [] (.v (.string (linkB c p a))) [] := by
  have h39 := s39 c p a hc ha hp
  refine spec_s is13 mixed rfl (V_x ?_)
  repeat' (first | ((conv => whnf) <;>
           first | refine Frz.own ?_ | refine Get.mk _ rfl ?_ | refine Get.mk _ (map_geti (by omega)) ?_ | refine Get.mk _ (map_getp (by omega) (by omega)) ?_ | refine Get.mk _ (map_get (by omega)) ?_ | refine Bv2.mk _ _ rfl rfl ?_ | refine Bv1.mk _ rfl ?_ | refine Wr.mk _ (wrap_i64 (by omega) (by omega)) ?_ | refine Wr.mk _ rfl ?_ | refine And.intro len_map ?_ | refine And.intro (leX_refl _) ?_ | refine And.intro rfl ?_ | refine And.intro (leO_some _) ?_ | (refine And.intro (fun h => absurd h (by decide)) (fun h => ?_); clear h) | (refine And.intro (fun h => ?_) (fun h => absurd h (by decide)); clear h) | (with_reducible first | refine sp1 (fun h => ?_) (fun h => ?_) | refine sp2 (fun h => ?_) (fun h => ?_) | refine sp3 (fun h => ?_) (fun h => ?_) | refine sp4 (fun h => ?_) (fun h => ?_) | refine sp5 (fun h => ?_) (fun h => ?_) | refine sp6 (fun h => ?_) (fun h => ?_)) | with_reducible refine And.intro (fun h => ?_) (fun h => ?_) | refine And.intro (Int.natCast_nonneg _) ?_ | refine And.intro (by omega) ?_ | refine And.intro (by decide) ?_ | refine Lst.mk _ rfl ?_ | refine Byt.mk _ rfl ?_ | refine Or.inr (Or.inl ⟨_, _, h39, leL_refl _, rfl, rfl, ?_⟩) | refine And.intro trivial ?_ | exact trivial | exact leX_refl _ | exact rfl | refine frc_mk ?_ | refine weak_fr ?_ ?_ rfl | refine And.intro ?_ ?_ | fail) | refine frc_mk ?_)
  all_goals first
    | exact leX_refl _
    | trace_state
theorem s13n : Spec prog 13 [.v (.pointer none)] [] (.v (.string ⟨#[]⟩)) [] := by
  refine spec_s is13 mixed rfl (V_x ?_)
  repeat' (first | ((conv => whnf) <;>
           first | refine Frz.own ?_ | refine Get.mk _ rfl ?_ | refine Get.mk _ (map_geti (by omega)) ?_ | refine Get.mk _ (map_getp (by omega) (by omega)) ?_ | refine Get.mk _ (map_get (by omega)) ?_ | refine Bv2.mk _ _ rfl rfl ?_ | refine Bv1.mk _ rfl ?_ | refine Wr.mk _ (wrap_i64 (by omega) (by omega)) ?_ | refine Wr.mk _ rfl ?_ | refine And.intro len_map ?_ | refine And.intro (leX_refl _) ?_ | refine And.intro rfl ?_ | refine And.intro (leO_some _) ?_ | (refine And.intro (fun h => absurd h (by decide)) (fun h => ?_); clear h) | (refine And.intro (fun h => ?_) (fun h => absurd h (by decide)); clear h) | (with_reducible first | refine sp1 (fun h => ?_) (fun h => ?_) | refine sp2 (fun h => ?_) (fun h => ?_) | refine sp3 (fun h => ?_) (fun h => ?_) | refine sp4 (fun h => ?_) (fun h => ?_) | refine sp5 (fun h => ?_) (fun h => ?_) | refine sp6 (fun h => ?_) (fun h => ?_)) | with_reducible refine And.intro (fun h => ?_) (fun h => ?_) | refine And.intro (Int.natCast_nonneg _) ?_ | refine And.intro (by omega) ?_ | refine And.intro (by decide) ?_ | refine Lst.mk _ rfl ?_ | refine Byt.mk _ rfl ?_ | refine And.intro trivial ?_ | exact trivial | exact leX_refl _ | exact rfl | refine frc_mk ?_ | refine weak_fr ?_ ?_ rfl | refine And.intro ?_ ?_ | fail) | refine frc_mk ?_)
  all_goals first
    | exact leX_refl _
    | trace_state
end Go.Proofs.YtdbeeenjcjplhaaDoor.Vc

namespace Go.Proofs.YtdbeeenjcjplhaaDoor.Vc
open Go Go.RowKit Go.Proofs Go.Proofs.Tryd
set_option maxRecDepth 20000
theorem two_lt {o : OL} (h0 : lo o 0 ≠ none) (h1 : lo o 1 ≠ none) : ∀ d < 2, lo o d ≠ none := fun d hd => by
  rcases (by omega : d = 0 ∨ d = 1) with rfl | rfl
  · exact h0
  · exact h1
/-- A fault asked with one that holds another: no. -/
theorem s15w (c : Int) (p : ByteArray) (a c2 : Int) : Spec prog 15 [.p 1 0 0, .x 23 (.p 0 0 0)] [.var 30 (.a [tI c2, tS bs0, tI 0, .x 23 (.p 1 0 0)]), .var 30 (.a [tI c, tS p, tI a, .v .nilIface])] (tB false) [.var 30 (.a [tI c2, tS bs0, tI 0, .x 23 (.p 1 0 0)]), .var 30 (.a [tI c, tS p, tI a, .v .nilIface])] := by
  refine spec_o is15 mixed [] rfl rfl rfl (V_x ?_)
  repeat' (first | ((conv => whnf) <;>
           first | refine Frz.own ?_ | refine Get.mk _ rfl ?_ | refine Get.mk _ (map_geti (by omega)) ?_ | refine Get.mk _ (map_getp (by omega) (by omega)) ?_ | refine Get.mk _ (map_get (by omega)) ?_ | refine Bv2.mk _ _ rfl rfl ?_ | refine Bv1.mk _ rfl ?_ | refine Wr.mk _ (wrap_i64 (by omega) (by omega)) ?_ | refine Wr.mk _ rfl ?_ | refine And.intro len_map ?_ | refine And.intro (leX_refl _) ?_ | refine And.intro rfl ?_ | refine And.intro (leO_some _) ?_ | (refine And.intro (fun h => absurd h (by decide)) (fun h => ?_); clear h) | (refine And.intro (fun h => ?_) (fun h => absurd h (by decide)); clear h) | (with_reducible first | refine sp1 (fun h => ?_) (fun h => ?_) | refine sp2 (fun h => ?_) (fun h => ?_) | refine sp3 (fun h => ?_) (fun h => ?_) | refine sp4 (fun h => ?_) (fun h => ?_) | refine sp5 (fun h => ?_) (fun h => ?_) | refine sp6 (fun h => ?_) (fun h => ?_)) | with_reducible refine And.intro (fun h => ?_) (fun h => ?_) | refine And.intro (Int.natCast_nonneg _) ?_ | refine And.intro (by omega) ?_ | refine And.intro (by decide) ?_ | refine Lst.mk _ rfl ?_ | refine Byt.mk _ rfl ?_ | refine And.intro trivial ?_ | exact trivial | exact leX_refl _ | exact rfl | refine frc_mk ?_ | refine weak_fr ?_ ?_ rfl | refine And.intro ?_ ?_ | fail) | refine frc_mk ?_)
  all_goals first
    | exact no_mem
    | exact two_lt (fun h => by cases h) (fun h => by cases h)
    | rfl
    | contradiction
    | exact absurd h (by simp)
    | trace_state
theorem s16w (c : Int) (p : ByteArray) (a c2 : Int) : Spec prog 16 [.p 0 0 0] [.var 30 (.a [tI c2, tS bs0, tI 0, .x 23 (.p 1 0 0)]), .var 30 (.a [tI c, tS p, tI a, .v .nilIface])] (.x 23 (.p 1 0 0)) [.var 30 (.a [tI c2, tS bs0, tI 0, .x 23 (.p 1 0 0)]), .var 30 (.a [tI c, tS p, tI a, .v .nilIface])] := by
  refine spec_o is16 mixed [] rfl rfl rfl (V_x ?_)
  repeat' (first | ((conv => whnf) <;>
           first | refine Frz.own ?_ | refine Get.mk _ rfl ?_ | refine Get.mk _ (map_geti (by omega)) ?_ | refine Get.mk _ (map_getp (by omega) (by omega)) ?_ | refine Get.mk _ (map_get (by omega)) ?_ | refine Bv2.mk _ _ rfl rfl ?_ | refine Bv1.mk _ rfl ?_ | refine Wr.mk _ (wrap_i64 (by omega) (by omega)) ?_ | refine Wr.mk _ rfl ?_ | refine And.intro len_map ?_ | refine And.intro (leX_refl _) ?_ | refine And.intro rfl ?_ | refine And.intro (leO_some _) ?_ | (refine And.intro (fun h => absurd h (by decide)) (fun h => ?_); clear h) | (refine And.intro (fun h => ?_) (fun h => absurd h (by decide)); clear h) | (with_reducible first | refine sp1 (fun h => ?_) (fun h => ?_) | refine sp2 (fun h => ?_) (fun h => ?_) | refine sp3 (fun h => ?_) (fun h => ?_) | refine sp4 (fun h => ?_) (fun h => ?_) | refine sp5 (fun h => ?_) (fun h => ?_) | refine sp6 (fun h => ?_) (fun h => ?_)) | with_reducible refine And.intro (fun h => ?_) (fun h => ?_) | refine And.intro (Int.natCast_nonneg _) ?_ | refine And.intro (by omega) ?_ | refine And.intro (by decide) ?_ | refine Lst.mk _ rfl ?_ | refine Byt.mk _ rfl ?_ | refine And.intro trivial ?_ | exact trivial | exact leX_refl _ | exact rfl | refine frc_mk ?_ | refine weak_fr ?_ ?_ rfl | refine And.intro ?_ ?_ | fail) | refine frc_mk ?_)
  all_goals first
    | exact no_mem
    | exact two_lt (fun h => by cases h) (fun h => by cases h)
    | rfl
    | contradiction
    | exact absurd h (by simp)
    | trace_state
theorem nodup2 {d e : Nat} (h : d ≠ e) : [d, e].Nodup := by simp [h]
theorem two_someL {o : OL} {d e : Nat} {b c : Ob} (h : lo o d = some b) (h' : lo o e = some c) : ∀ x ∈ [d, e], lo o x ≠ none := by
  intro x hx
  rcases List.mem_cons.1 hx with rfl | hx
  · rw [h]; exact fun h => by cases h
  · obtain rfl := List.mem_singleton.1 hx
    rw [h']; exact fun h => by cases h
theorem len_no2 {o : OL} {d e g : Nat} {b c : Ob} : ∀ j, [e, g].length + j < [b, c].length → lo o (sid d j) = none := by
  intro j hj
  simp at hj
  omega
end Go.Proofs.YtdbeeenjcjplhaaDoor.Vc

namespace Go.Proofs.YtdbeeenjcjplhaaDoor.Vc
open Go Go.RowKit Go.Proofs Go.Proofs.Tryd
set_option maxRecDepth 20000

/-- Parts put together. -/
def joinB (xs : List ByteArray) (sep : ByteArray) : ByteArray := ⟨(Lib.join (xs.map (·.data.toList)) sep.data.toList).toArray⟩
theorem keep_below {w w' : World} (h : Below w.heap.size w w') (X : Nat → Prop) : Keep X w w' := ⟨h.os, h.tape, h.output, h.size, fun k hk _ => h.block k hk, trivial⟩
theorem s45 (xs : List ByteArray) (sep : ByteArray) (hN : xs.length ≤ 140737488355328) (hlen : (joinB xs sep).data.toList.length ≤ 140737488355328) : Spec prog 45 [.s 1 (xs.map tS), tS sep] [] (.v (.string (joinB xs sep))) [] := by
  refine ⟨⟨f45, _, func45, rfl, by kernel_rfl⟩, by simp, by simp, fun w ok E0 vs hin hdis hnok hargs hlay => ?_⟩
  simp only [RelL, Rel] at hargs
  obtain ⟨u, us, rfl, ⟨A, c, rfl, hc, hA⟩, u', us', rfl, ⟨_, rfl⟩, rfl⟩ := hargs
  cases xs with
  | nil =>
    refine (Tryd.strings_Join_none A c sep w).mono ?_
    rintro ev w' ⟨rfl, rfl⟩
    refine ⟨_, E0, rfl, ⟨rfl, rfl, rfl, Nat.le_refl _, fun b hb _ => rfl, trivial⟩, by simp, by simp [Rel, plain, joinB, Lib.join_nil], by simp, by simp, by simp⟩
  | cons x0 xs =>
    obtain ⟨ad, rfl, hok, hsz, hE⟩ := hA (by simp)
    have hget : ∀ (j : Nat) (x : ByteArray), (x0 :: xs)[j]? = some x → w.cell? (ad.add j) = some (.string x) := fun j x hj => by
      obtain ⟨y, hy, hy1, hy2, hy3⟩ := hE.get j (tS x) (by rw [List.getElem?_map, hj]; rfl)
      simp only [Rel] at hy
      obtain ⟨_, rfl⟩ := hy
      have := hy3 0 (.string x) (by rfl)
      simpa using this
    have hsp : ad.spot = none := by
      have h0 := hget 0 x0 rfl
      unfold World.cell? at h0
      split at h0
      · split at h0
        · cases h0
        · rename_i h; simpa [Addr.add] using h
      · cases h0
    obtain ⟨bk, o, sp⟩ := ad
    dsimp only at hsp
    subst hsp
    have hj := Tryd.strings_Join bk o c (x0 :: xs) sep w (fun j x hj => by
      have h := hget j x hj
      unfold Addr.add at h
      split at h
      · rename_i h0; have h0 : j = 0 := by simpa using h0
        subst h0; exact h
      · exact h) hsz hN (by simpa using hc) (by simpa [joinB] using hlen)
    rw [List.length_map]
    refine hj.mono ?_
    rintro ev w' ⟨rfl, hb⟩
    exact ⟨_, E0, rfl, keep_below hb _, by simp, by simp [Rel, plain, joinB], by simp, by simp, by simp⟩
/-- A link in words. -/
def LinkF.text (k : LinkF) : ByteArray := linkB k.c k.p k.a
/-- A link that can be told. -/
structure LinkF.fine (k : LinkF) : Prop where
  a : I64 k.a
  c : I64 k.c
  p : k.p.size ≤ 1000000
theorem LinkF.size {k : LinkF} (h : k.fine) : k.text.size ≤ 1000045 := by
  have h1 := itoa_size k.a h.a.lo h.a.hi
  have h2 := itoa_size k.c h.c.lo h.c.hi
  have h3 := h.p
  have e1 : (⟨#[32]⟩ : ByteArray).size = 1 := rfl
  have e2 : (⟨#[32, 35]⟩ : ByteArray).size = 2 := rfl
  simp only [LinkF.text, linkB, ByteArray.size_append, e1, e2]
  omega
theorem join_le (B : Nat) (sep : List UInt8) (xs : List (List UInt8)) (h : ∀ x ∈ xs, x.length ≤ B) : (Lib.join xs sep).length ≤ xs.length * (B + sep.length) := by
  cases xs with
  | nil => simp [Lib.join_nil]
  | cons x r =>
    have ht : ∀ r : List (List UInt8), (∀ x ∈ r, x.length ≤ B) → (Lib.joinTail sep r).length ≤ r.length * (B + sep.length) := by
      intro r
      induction r with
      | nil => intro _; simp [Lib.joinTail]
      | cons y r ih =>
        intro h
        have h1 := ih fun x hx => h x (List.mem_cons_of_mem _ hx)
        have h2 := h y List.mem_cons_self
        have h3 : Lib.joinTail sep (y :: r) = (sep ++ y) ++ Lib.joinTail sep r := by simp [Lib.joinTail]
        rw [h3, List.length_append, List.length_append, List.length_cons, Nat.succ_mul]
        omega
    have h1 := ht r fun x hx => h x (List.mem_cons_of_mem _ hx)
    have h2 := h x List.mem_cons_self
    rw [Lib.join_cons, List.length_append, List.length_cons, Nat.succ_mul]
    omega
abbrev colon : ByteArray := ⟨#[58, 32]⟩
abbrev alienB : ByteArray := ⟨#[97, 108, 105, 101, 110]⟩
/-- An error in words. -/
def Err.text (e : Err) : ByteArray := if e.isNil then bs0 else if e.links.length = 0 then alienB else joinB (e.links.map LinkF.text) colon
theorem text_le (e : Err) (hl : e.links.length ≤ 1000000) (hf : ∀ k ∈ e.links, k.fine) : (joinB (e.links.map LinkF.text) colon).data.toList.length ≤ 140737488355328 := by
  have h := join_le 1000045 colon.data.toList ((e.links.map LinkF.text).map (·.data.toList)) (by
    intro x hx
    rw [List.map_map] at hx
    obtain ⟨k, hk, rfl⟩ := List.mem_map.1 hx
    have h := LinkF.size (hf k hk)
    show k.text.data.toList.length ≤ 1000045
    rw [Array.length_toList]
    exact h)
  simp only [joinB]
  have e2 : colon.data.toList.length = 2 := rfl
  rw [e2] at h
  simp only [List.length_map] at h
  refine Nat.le_trans h ?_
  omega
end Go.Proofs.YtdbeeenjcjplhaaDoor.Vc

namespace Go.Proofs.YtdbeeenjcjplhaaDoor.Vc
open Go Go.RowKit Go.Proofs Go.Proofs.Tryd
set_option maxRecDepth 20000

set_option maxHeartbeats 4000000 in
theorem s21 (e : Err) (hl : e.links.length ≤ 1000000) (hf : ∀ k ∈ e.links, k.fine) : Spec prog 21 [e.tv] [] (tS e.text) [] := by
  have h18 := s18 e hl
  have hle := text_le e hl hf
  have h45 := s45 (e.links.map LinkF.text) colon (by rw [List.length_map]; omega) hle
  have h39 : ∀ k ∈ e.links, Spec prog 39 [k.tv] [] (tS k.text) [] := fun k hk => s39 k.c k.p k.a (hf k hk).c (hf k hk).a (hf k hk).p
  unfold Err.text
  refine spec_s is21 mixed rfl (V_x ?_)
  cases e with
  | nil =>
    rw [if_pos (show Err.nil.isNil = true from rfl)]
    repeat' (first | ((conv => whnf) <;>
             first | refine Frz.own ?_ | refine Get.mk _ rfl ?_ | refine Get.mk _ (map_geti (by omega)) ?_ | refine Get.mk _ (map_getp (by omega) (by omega)) ?_ | refine Get.mk _ (map_get (by omega)) ?_ | refine Bv2.mk _ _ rfl rfl ?_ | refine Bv1.mk _ rfl ?_ | refine Wr.mk _ (wrap_i64 (by omega) (by omega)) ?_ | refine Wr.mk _ rfl ?_ | refine And.intro len_map ?_ | refine And.intro (leX_refl _) ?_ | refine And.intro rfl ?_ | refine And.intro (leO_some _) ?_ | (refine And.intro (fun h => absurd h (by decide)) (fun h => ?_); clear h) | (refine And.intro (fun h => ?_) (fun h => absurd h (by decide)); clear h) | (with_reducible first | refine sp1 (fun h => ?_) (fun h => ?_) | refine sp2 (fun h => ?_) (fun h => ?_) | refine sp3 (fun h => ?_) (fun h => ?_) | refine sp4 (fun h => ?_) (fun h => ?_) | refine sp5 (fun h => ?_) (fun h => ?_) | refine sp6 (fun h => ?_) (fun h => ?_)) | with_reducible refine And.intro (fun h => ?_) (fun h => ?_) | refine And.intro (Int.natCast_nonneg _) ?_ | refine And.intro (by omega) ?_ | refine And.intro (by decide) ?_ | refine Lst.mk _ rfl ?_ | refine Byt.mk _ rfl ?_ | refine And.intro trivial ?_ | exact trivial | exact leX_refl _ | exact rfl | refine frc_mk ?_ | refine weak_fr ?_ ?_ rfl | refine And.intro ?_ ?_ | fail) | refine frc_mk ?_)
    all_goals first
      | exact leX_refl _
      | trace_state
  | flt c p a e =>
    rw [if_neg (by simp [Err.isNil])]
    have hne : (Err.flt c p a e).links.length ≠ 0 := by simp [Err.links]
    rw [if_neg hne]
    clear hf hle
    generalize (Err.flt c p a e).links = L at *
    have hlm : (L.map LinkF.tv).length = L.length := List.length_map _
    repeat' (first | ((conv => whnf) <;>
             first | refine Frz.own ?_ | refine Get.mk _ rfl ?_ | refine Get.mk _ (map_geti (by omega)) ?_ | refine Get.mk _ (map_getp (by omega) (by omega)) ?_ | refine Get.mk _ (map_get (by omega)) ?_ | refine Bv2.mk _ _ rfl rfl ?_ | refine Bv1.mk _ rfl ?_ | refine Wr.mk _ (wrap_i64 (by omega) (by omega)) ?_ | refine Wr.mk _ rfl ?_ | refine And.intro len_map ?_ | refine And.intro (leX_refl _) ?_ | refine And.intro rfl ?_ | refine And.intro (leO_some _) ?_ | (refine And.intro (fun h => absurd h (by decide)) (fun h => ?_); clear h) | (refine And.intro (fun h => ?_) (fun h => absurd h (by decide)); clear h) | (with_reducible first | refine sp1 (fun h => ?_) (fun h => ?_) | refine sp2 (fun h => ?_) (fun h => ?_) | refine sp3 (fun h => ?_) (fun h => ?_) | refine sp4 (fun h => ?_) (fun h => ?_) | refine sp5 (fun h => ?_) (fun h => ?_) | refine sp6 (fun h => ?_) (fun h => ?_)) | with_reducible refine And.intro (fun h => ?_) (fun h => ?_) | refine And.intro (Int.natCast_nonneg _) ?_ | refine And.intro (by omega) ?_ | refine And.intro (by decide) ?_ | refine Lst.mk _ rfl ?_ | refine callPure (h18) (idsE (.flt _ _ _ _)) (by first | (simp [TV.ids]; done) | (simp [TV.ids, idsL, *]; done)) ?_ | refine Byt.mk _ rfl ?_ | refine And.intro trivial ?_ | exact trivial | exact leX_refl _ | exact rfl | refine frc_mk ?_ | refine weak_fr ?_ ?_ rfl | refine And.intro ?_ ?_ | fail) | refine frc_mk ?_)
    refine V_up L.length (fun i => i ≤ L.length) (fun i => ([(3, .o 320), (9, .s 3 (L.map LinkF.tv)), (10, tI L.length), (11, tI i)], [(320, .row 9 1 ((L.take i).map fun k => tS k.text))])) (Nat.zero_le _) ?_ ?_
    · refine Weak.trans (weak_ghost 3 320 9 1 rfl rfl rfl) ?_
      repeat' (first | ((conv => whnf) <;>
               first | refine Frz.own ?_ | refine Get.mk _ rfl ?_ | refine Get.mk _ (map_geti (by omega)) ?_ | refine Get.mk _ (map_getp (by omega) (by omega)) ?_ | refine Get.mk _ (map_get (by omega)) ?_ | refine Bv2.mk _ _ rfl rfl ?_ | refine Bv1.mk _ rfl ?_ | refine Wr.mk _ (wrap_i64 (by omega) (by omega)) ?_ | refine Wr.mk _ rfl ?_ | refine And.intro len_map ?_ | refine And.intro (leX_refl _) ?_ | refine And.intro rfl ?_ | refine And.intro (leO_some _) ?_ | (refine And.intro (fun h => absurd h (by decide)) (fun h => ?_); clear h) | (refine And.intro (fun h => ?_) (fun h => absurd h (by decide)); clear h) | (with_reducible first | refine sp1 (fun h => ?_) (fun h => ?_) | refine sp2 (fun h => ?_) (fun h => ?_) | refine sp3 (fun h => ?_) (fun h => ?_) | refine sp4 (fun h => ?_) (fun h => ?_) | refine sp5 (fun h => ?_) (fun h => ?_) | refine sp6 (fun h => ?_) (fun h => ?_)) | with_reducible refine And.intro (fun h => ?_) (fun h => ?_) | refine And.intro (Int.natCast_nonneg _) ?_ | refine And.intro (by omega) ?_ | refine And.intro (by decide) ?_ | refine Lst.mk _ rfl ?_ | refine Byt.mk _ rfl ?_ | refine And.intro trivial ?_ | exact trivial | exact leX_refl _ | exact rfl | refine frc_mk ?_ | refine weak_fr ?_ ?_ rfl | refine And.intro ?_ ?_ | fail) | refine frc_mk ?_)
      all_goals trace_state
    · intro i hi _
      refine V_x ?_
      by_cases hlt : i < L.length
      · have hget : (L.map LinkF.tv)[i]? = some (.a [tI L[i].c, tS L[i].p, tI L[i].a]) := by rw [List.getElem?_map, List.getElem?_eq_getElem hlt]; rfl
        have h39' : Spec prog 39 [.a [tI L[i].c, tS L[i].p, tI L[i].a]] [] (tS L[i].text) [] := h39 _ (List.getElem_mem hlt)
        have htk : ((L.take i).map fun k : LinkF => tS k.text) ++ [tS L[i].text] = (L.take (i + 1)).map fun k : LinkF => tS k.text := by
          rw [List.take_succ_eq_append_getElem hlt, List.map_append]; rfl
        have htl : ((L.take i).map fun k : LinkF => tS k.text).length = i := by rw [List.length_map, List.length_take]; omega
        repeat' (first | ((conv => whnf) <;>
                 first | refine (Frz.frz ?_ : Frz 18 _ _) | refine Frz.own ?_ | refine Get.mk _ rfl ?_ | refine Get.mk _ (map_geti (by omega)) ?_ | refine Get.mk _ (map_getp (by omega) (by omega)) ?_ | refine Get.mk _ (map_get (by omega)) ?_ | refine Bv2.mk _ _ rfl rfl ?_ | refine Bv1.mk _ rfl ?_ | refine Wr.mk _ (wrap_i64 (by omega) (by omega)) ?_ | refine Wr.mk _ rfl ?_ | refine And.intro len_map ?_ | refine And.intro (leX_refl _) ?_ | refine And.intro rfl ?_ | refine And.intro (leO_some _) ?_ | (refine And.intro (fun h => absurd h (by decide)) (fun h => ?_); clear h) | (refine And.intro (fun h => ?_) (fun h => absurd h (by decide)); clear h) | (with_reducible first | refine sp1 (fun h => ?_) (fun h => ?_) | refine sp2 (fun h => ?_) (fun h => ?_) | refine sp3 (fun h => ?_) (fun h => ?_) | refine sp4 (fun h => ?_) (fun h => ?_) | refine sp5 (fun h => ?_) (fun h => ?_) | refine sp6 (fun h => ?_) (fun h => ?_)) | with_reducible refine And.intro (fun h => ?_) (fun h => ?_) | refine And.intro (Int.natCast_nonneg _) ?_ | refine And.intro (by omega) ?_ | refine And.intro (by decide) ?_ | refine Get.mk _ (hget) ?_ | refine Lst.mk _ rfl ?_ | refine Byt.mk _ rfl ?_ | refine Or.inr (Or.inl ⟨_, _, h39', leL_refl _, rfl, rfl, ?_⟩) | refine And.intro trivial ?_ | exact trivial | exact leX_refl _ | exact rfl | refine frc_mk ?_ | refine weak_fr ?_ ?_ rfl | refine And.intro ?_ ?_ | fail) | refine frc_mk ?_)
        all_goals first
          | (simp only [List.length_map, List.length_take, List.length_cons, List.length_nil]; omega)
          | (refine rowO ?_; exact htk)
          | skip
        all_goals trace_state
      · obtain rfl : i = L.length := by omega
        have hall : ((L.take L.length).map fun k : LinkF => tS k.text) = List.map tS (L.map LinkF.text) := by rw [List.take_length, List.map_map]; rfl
        rw [hall]
        have hlm2 : (List.map tS (L.map LinkF.text)).length = L.length := by simp
        repeat' (first | ((conv => whnf) <;>
                 first | refine Frz.own ?_ | refine Get.mk _ rfl ?_ | refine Get.mk _ (map_geti (by omega)) ?_ | refine Get.mk _ (map_getp (by omega) (by omega)) ?_ | refine Get.mk _ (map_get (by omega)) ?_ | refine Bv2.mk _ _ rfl rfl ?_ | refine Bv1.mk _ rfl ?_ | refine Wr.mk _ (wrap_i64 (by omega) (by omega)) ?_ | refine Wr.mk _ rfl ?_ | refine And.intro len_map ?_ | refine And.intro (leX_refl _) ?_ | refine And.intro rfl ?_ | refine And.intro (leO_some _) ?_ | (refine And.intro (fun h => absurd h (by decide)) (fun h => ?_); clear h) | (refine And.intro (fun h => ?_) (fun h => absurd h (by decide)); clear h) | (with_reducible first | refine sp1 (fun h => ?_) (fun h => ?_) | refine sp2 (fun h => ?_) (fun h => ?_) | refine sp3 (fun h => ?_) (fun h => ?_) | refine sp4 (fun h => ?_) (fun h => ?_) | refine sp5 (fun h => ?_) (fun h => ?_) | refine sp6 (fun h => ?_) (fun h => ?_)) | with_reducible refine And.intro (fun h => ?_) (fun h => ?_) | refine And.intro (Int.natCast_nonneg _) ?_ | refine And.intro (by omega) ?_ | refine And.intro (by decide) ?_ | refine Lst.mk _ rfl ?_ | refine Or.inr (Or.inr (Or.inl ⟨[], true, _, [], h45, fun _ => ⟨rfl, Nat.le_of_ble_eq_true rfl⟩, List.nodup_nil, fun _ h => absurd h List.not_mem_nil, fun _ => ⟨rfl, fun _ h => absurd h List.not_mem_nil⟩, fun _ h => absurd h (Nat.not_lt_zero _), ?_⟩)) | refine Byt.mk _ rfl ?_ | refine And.intro trivial ?_ | exact trivial | exact leX_refl _ | exact rfl | refine frc_mk ?_ | refine weak_fr ?_ ?_ rfl | refine And.intro ?_ ?_ | fail) | refine frc_mk ?_)
        all_goals first
          | (exfalso; simp only [List.length_map] at *; omega)
          | skip
        all_goals trace_state
  | alien n =>
    rw [if_neg (by simp [Err.isNil]), if_pos (show (Err.alien n).links.length = 0 from rfl)]
    clear hf hle
    have h18 : Spec prog 18 [(Err.alien n).tv] [] (.s 3 []) [] := h18
    repeat' (first | ((conv => whnf) <;>
             first | refine Frz.own ?_ | refine Get.mk _ rfl ?_ | refine Get.mk _ (map_geti (by omega)) ?_ | refine Get.mk _ (map_getp (by omega) (by omega)) ?_ | refine Get.mk _ (map_get (by omega)) ?_ | refine Bv2.mk _ _ rfl rfl ?_ | refine Bv1.mk _ rfl ?_ | refine Wr.mk _ (wrap_i64 (by omega) (by omega)) ?_ | refine Wr.mk _ rfl ?_ | refine And.intro len_map ?_ | refine And.intro (leX_refl _) ?_ | refine And.intro rfl ?_ | refine And.intro (leO_some _) ?_ | (refine And.intro (fun h => absurd h (by decide)) (fun h => ?_); clear h) | (refine And.intro (fun h => ?_) (fun h => absurd h (by decide)); clear h) | (with_reducible first | refine sp1 (fun h => ?_) (fun h => ?_) | refine sp2 (fun h => ?_) (fun h => ?_) | refine sp3 (fun h => ?_) (fun h => ?_) | refine sp4 (fun h => ?_) (fun h => ?_) | refine sp5 (fun h => ?_) (fun h => ?_) | refine sp6 (fun h => ?_) (fun h => ?_)) | with_reducible refine And.intro (fun h => ?_) (fun h => ?_) | refine And.intro (Int.natCast_nonneg _) ?_ | refine And.intro (by omega) ?_ | refine And.intro (by decide) ?_ | refine Lst.mk _ rfl ?_ | refine callPure (h18) (idsE (.alien _)) (by first | (simp [TV.ids]; done) | (simp [TV.ids, idsL, *]; done)) ?_ | refine Byt.mk _ rfl ?_ | refine And.intro trivial ?_ | exact trivial | exact leX_refl _ | exact rfl | refine frc_mk ?_ | refine weak_fr ?_ ?_ rfl | refine And.intro ?_ ?_ | fail) | refine frc_mk ?_)
    refine V_up 0 (fun i => i ≤ 0) (fun i => ([(3, .v vnil), (9, .s 3 []), (10, tI 0), (11, tI 0)], [])) (Nat.zero_le _) ?_ ?_
    · repeat' (first | ((conv => whnf) <;>
               first | refine Frz.own ?_ | refine Get.mk _ rfl ?_ | refine Get.mk _ (map_geti (by omega)) ?_ | refine Get.mk _ (map_getp (by omega) (by omega)) ?_ | refine Get.mk _ (map_get (by omega)) ?_ | refine Bv2.mk _ _ rfl rfl ?_ | refine Bv1.mk _ rfl ?_ | refine Wr.mk _ (wrap_i64 (by omega) (by omega)) ?_ | refine Wr.mk _ rfl ?_ | refine And.intro len_map ?_ | refine And.intro (leX_refl _) ?_ | refine And.intro rfl ?_ | refine And.intro (leO_some _) ?_ | (refine And.intro (fun h => absurd h (by decide)) (fun h => ?_); clear h) | (refine And.intro (fun h => ?_) (fun h => absurd h (by decide)); clear h) | (with_reducible first | refine sp1 (fun h => ?_) (fun h => ?_) | refine sp2 (fun h => ?_) (fun h => ?_) | refine sp3 (fun h => ?_) (fun h => ?_) | refine sp4 (fun h => ?_) (fun h => ?_) | refine sp5 (fun h => ?_) (fun h => ?_) | refine sp6 (fun h => ?_) (fun h => ?_)) | with_reducible refine And.intro (fun h => ?_) (fun h => ?_) | refine And.intro (Int.natCast_nonneg _) ?_ | refine And.intro (by omega) ?_ | refine And.intro (by decide) ?_ | refine Lst.mk _ rfl ?_ | refine Byt.mk _ rfl ?_ | refine And.intro trivial ?_ | exact trivial | exact leX_refl _ | exact rfl | refine frc_mk ?_ | refine weak_fr ?_ ?_ rfl | refine And.intro ?_ ?_ | fail) | refine frc_mk ?_)
      all_goals trace_state
    · intro i hi _
      refine V_x ?_
      repeat' (first | ((conv => whnf) <;>
               first | refine Frz.own ?_ | refine Get.mk _ rfl ?_ | refine Get.mk _ (map_geti (by omega)) ?_ | refine Get.mk _ (map_getp (by omega) (by omega)) ?_ | refine Get.mk _ (map_get (by omega)) ?_ | refine Bv2.mk _ _ rfl rfl ?_ | refine Bv1.mk _ rfl ?_ | refine Wr.mk _ (wrap_i64 (by omega) (by omega)) ?_ | refine Wr.mk _ rfl ?_ | refine And.intro len_map ?_ | refine And.intro (leX_refl _) ?_ | refine And.intro rfl ?_ | refine And.intro (leO_some _) ?_ | (refine And.intro (fun h => absurd h (by decide)) (fun h => ?_); clear h) | (refine And.intro (fun h => ?_) (fun h => absurd h (by decide)); clear h) | (with_reducible first | refine sp1 (fun h => ?_) (fun h => ?_) | refine sp2 (fun h => ?_) (fun h => ?_) | refine sp3 (fun h => ?_) (fun h => ?_) | refine sp4 (fun h => ?_) (fun h => ?_) | refine sp5 (fun h => ?_) (fun h => ?_) | refine sp6 (fun h => ?_) (fun h => ?_)) | with_reducible refine And.intro (fun h => ?_) (fun h => ?_) | refine And.intro (Int.natCast_nonneg _) ?_ | refine And.intro (by omega) ?_ | refine And.intro (by decide) ?_ | refine Lst.mk _ rfl ?_ | refine Byt.mk _ rfl ?_ | refine And.intro trivial ?_ | exact trivial | exact leX_refl _ | exact rfl | refine frc_mk ?_ | refine weak_fr ?_ ?_ rfl | refine And.intro ?_ ?_ | fail) | refine frc_mk ?_)
      all_goals first
        | contradiction
        | exact leX_refl _
        | trace_state
  | around e =>
    rw [if_neg (by simp [Err.isNil])]
    clear hf hle
    by_cases hne : (Err.around e).links.length = 0
    · rw [if_pos hne]
      have h18 : Spec prog 18 [(Err.around e).tv] [] (.s 3 []) [] := by rw [List.eq_nil_of_length_eq_zero hne] at h18; exact h18
      repeat' (first | ((conv => whnf) <;>
               first | refine Frz.own ?_ | refine Get.mk _ rfl ?_ | refine Get.mk _ (map_geti (by omega)) ?_ | refine Get.mk _ (map_getp (by omega) (by omega)) ?_ | refine Get.mk _ (map_get (by omega)) ?_ | refine Bv2.mk _ _ rfl rfl ?_ | refine Bv1.mk _ rfl ?_ | refine Wr.mk _ (wrap_i64 (by omega) (by omega)) ?_ | refine Wr.mk _ rfl ?_ | refine And.intro len_map ?_ | refine And.intro (leX_refl _) ?_ | refine And.intro rfl ?_ | refine And.intro (leO_some _) ?_ | (refine And.intro (fun h => absurd h (by decide)) (fun h => ?_); clear h) | (refine And.intro (fun h => ?_) (fun h => absurd h (by decide)); clear h) | (with_reducible first | refine sp1 (fun h => ?_) (fun h => ?_) | refine sp2 (fun h => ?_) (fun h => ?_) | refine sp3 (fun h => ?_) (fun h => ?_) | refine sp4 (fun h => ?_) (fun h => ?_) | refine sp5 (fun h => ?_) (fun h => ?_) | refine sp6 (fun h => ?_) (fun h => ?_)) | with_reducible refine And.intro (fun h => ?_) (fun h => ?_) | refine And.intro (Int.natCast_nonneg _) ?_ | refine And.intro (by omega) ?_ | refine And.intro (by decide) ?_ | refine Lst.mk _ rfl ?_ | refine callPure (h18) (idsE (.around _)) (by first | (simp [TV.ids]; done) | (simp [TV.ids, idsL, *]; done)) ?_ | refine Byt.mk _ rfl ?_ | refine And.intro trivial ?_ | exact trivial | exact leX_refl _ | exact rfl | refine frc_mk ?_ | refine weak_fr ?_ ?_ rfl | refine And.intro ?_ ?_ | fail) | refine frc_mk ?_)
      refine V_up 0 (fun i => i ≤ 0) (fun i => ([(3, .v vnil), (9, .s 3 []), (10, tI 0), (11, tI 0)], [])) (Nat.zero_le _) ?_ ?_
      · repeat' (first | ((conv => whnf) <;>
                 first | refine Frz.own ?_ | refine Get.mk _ rfl ?_ | refine Get.mk _ (map_geti (by omega)) ?_ | refine Get.mk _ (map_getp (by omega) (by omega)) ?_ | refine Get.mk _ (map_get (by omega)) ?_ | refine Bv2.mk _ _ rfl rfl ?_ | refine Bv1.mk _ rfl ?_ | refine Wr.mk _ (wrap_i64 (by omega) (by omega)) ?_ | refine Wr.mk _ rfl ?_ | refine And.intro len_map ?_ | refine And.intro (leX_refl _) ?_ | refine And.intro rfl ?_ | refine And.intro (leO_some _) ?_ | (refine And.intro (fun h => absurd h (by decide)) (fun h => ?_); clear h) | (refine And.intro (fun h => ?_) (fun h => absurd h (by decide)); clear h) | (with_reducible first | refine sp1 (fun h => ?_) (fun h => ?_) | refine sp2 (fun h => ?_) (fun h => ?_) | refine sp3 (fun h => ?_) (fun h => ?_) | refine sp4 (fun h => ?_) (fun h => ?_) | refine sp5 (fun h => ?_) (fun h => ?_) | refine sp6 (fun h => ?_) (fun h => ?_)) | with_reducible refine And.intro (fun h => ?_) (fun h => ?_) | refine And.intro (Int.natCast_nonneg _) ?_ | refine And.intro (by omega) ?_ | refine And.intro (by decide) ?_ | refine Lst.mk _ rfl ?_ | refine Byt.mk _ rfl ?_ | refine And.intro trivial ?_ | exact trivial | exact leX_refl _ | exact rfl | refine frc_mk ?_ | refine weak_fr ?_ ?_ rfl | refine And.intro ?_ ?_ | fail) | refine frc_mk ?_)
        all_goals trace_state
      · intro i hi _
        refine V_x ?_
        repeat' (first | ((conv => whnf) <;>
                 first | refine Frz.own ?_ | refine Get.mk _ rfl ?_ | refine Get.mk _ (map_geti (by omega)) ?_ | refine Get.mk _ (map_getp (by omega) (by omega)) ?_ | refine Get.mk _ (map_get (by omega)) ?_ | refine Bv2.mk _ _ rfl rfl ?_ | refine Bv1.mk _ rfl ?_ | refine Wr.mk _ (wrap_i64 (by omega) (by omega)) ?_ | refine Wr.mk _ rfl ?_ | refine And.intro len_map ?_ | refine And.intro (leX_refl _) ?_ | refine And.intro rfl ?_ | refine And.intro (leO_some _) ?_ | (refine And.intro (fun h => absurd h (by decide)) (fun h => ?_); clear h) | (refine And.intro (fun h => ?_) (fun h => absurd h (by decide)); clear h) | (with_reducible first | refine sp1 (fun h => ?_) (fun h => ?_) | refine sp2 (fun h => ?_) (fun h => ?_) | refine sp3 (fun h => ?_) (fun h => ?_) | refine sp4 (fun h => ?_) (fun h => ?_) | refine sp5 (fun h => ?_) (fun h => ?_) | refine sp6 (fun h => ?_) (fun h => ?_)) | with_reducible refine And.intro (fun h => ?_) (fun h => ?_) | refine And.intro (Int.natCast_nonneg _) ?_ | refine And.intro (by omega) ?_ | refine And.intro (by decide) ?_ | refine Lst.mk _ rfl ?_ | refine Byt.mk _ rfl ?_ | refine And.intro trivial ?_ | exact trivial | exact leX_refl _ | exact rfl | refine frc_mk ?_ | refine weak_fr ?_ ?_ rfl | refine And.intro ?_ ?_ | fail) | refine frc_mk ?_)
        all_goals first
          | contradiction
          | exact leX_refl _
          | trace_state
    · rw [if_neg hne]
      generalize (Err.around e).links = L at *
      have hlm : (L.map LinkF.tv).length = L.length := List.length_map _
      repeat' (first | ((conv => whnf) <;>
               first | refine Frz.own ?_ | refine Get.mk _ rfl ?_ | refine Get.mk _ (map_geti (by omega)) ?_ | refine Get.mk _ (map_getp (by omega) (by omega)) ?_ | refine Get.mk _ (map_get (by omega)) ?_ | refine Bv2.mk _ _ rfl rfl ?_ | refine Bv1.mk _ rfl ?_ | refine Wr.mk _ (wrap_i64 (by omega) (by omega)) ?_ | refine Wr.mk _ rfl ?_ | refine And.intro len_map ?_ | refine And.intro (leX_refl _) ?_ | refine And.intro rfl ?_ | refine And.intro (leO_some _) ?_ | (refine And.intro (fun h => absurd h (by decide)) (fun h => ?_); clear h) | (refine And.intro (fun h => ?_) (fun h => absurd h (by decide)); clear h) | (with_reducible first | refine sp1 (fun h => ?_) (fun h => ?_) | refine sp2 (fun h => ?_) (fun h => ?_) | refine sp3 (fun h => ?_) (fun h => ?_) | refine sp4 (fun h => ?_) (fun h => ?_) | refine sp5 (fun h => ?_) (fun h => ?_) | refine sp6 (fun h => ?_) (fun h => ?_)) | with_reducible refine And.intro (fun h => ?_) (fun h => ?_) | refine And.intro (Int.natCast_nonneg _) ?_ | refine And.intro (by omega) ?_ | refine And.intro (by decide) ?_ | refine Lst.mk _ rfl ?_ | refine callPure (h18) (idsE (.around _)) (by first | (simp [TV.ids]; done) | (simp [TV.ids, idsL, *]; done)) ?_ | refine Byt.mk _ rfl ?_ | refine And.intro trivial ?_ | exact trivial | exact leX_refl _ | exact rfl | refine frc_mk ?_ | refine weak_fr ?_ ?_ rfl | refine And.intro ?_ ?_ | fail) | refine frc_mk ?_)
      refine V_up L.length (fun i => i ≤ L.length) (fun i => ([(3, .o 320), (9, .s 3 (L.map LinkF.tv)), (10, tI L.length), (11, tI i)], [(320, .row 9 1 ((L.take i).map fun k => tS k.text))])) (Nat.zero_le _) ?_ ?_
      · refine Weak.trans (weak_ghost 3 320 9 1 rfl rfl rfl) ?_
        repeat' (first | ((conv => whnf) <;>
                 first | refine Frz.own ?_ | refine Get.mk _ rfl ?_ | refine Get.mk _ (map_geti (by omega)) ?_ | refine Get.mk _ (map_getp (by omega) (by omega)) ?_ | refine Get.mk _ (map_get (by omega)) ?_ | refine Bv2.mk _ _ rfl rfl ?_ | refine Bv1.mk _ rfl ?_ | refine Wr.mk _ (wrap_i64 (by omega) (by omega)) ?_ | refine Wr.mk _ rfl ?_ | refine And.intro len_map ?_ | refine And.intro (leX_refl _) ?_ | refine And.intro rfl ?_ | refine And.intro (leO_some _) ?_ | (refine And.intro (fun h => absurd h (by decide)) (fun h => ?_); clear h) | (refine And.intro (fun h => ?_) (fun h => absurd h (by decide)); clear h) | (with_reducible first | refine sp1 (fun h => ?_) (fun h => ?_) | refine sp2 (fun h => ?_) (fun h => ?_) | refine sp3 (fun h => ?_) (fun h => ?_) | refine sp4 (fun h => ?_) (fun h => ?_) | refine sp5 (fun h => ?_) (fun h => ?_) | refine sp6 (fun h => ?_) (fun h => ?_)) | with_reducible refine And.intro (fun h => ?_) (fun h => ?_) | refine And.intro (Int.natCast_nonneg _) ?_ | refine And.intro (by omega) ?_ | refine And.intro (by decide) ?_ | refine Lst.mk _ rfl ?_ | refine Byt.mk _ rfl ?_ | refine And.intro trivial ?_ | exact trivial | exact leX_refl _ | exact rfl | refine frc_mk ?_ | refine weak_fr ?_ ?_ rfl | refine And.intro ?_ ?_ | fail) | refine frc_mk ?_)
        all_goals trace_state
      · intro i hi _
        refine V_x ?_
        by_cases hlt : i < L.length
        · have hget : (L.map LinkF.tv)[i]? = some (.a [tI L[i].c, tS L[i].p, tI L[i].a]) := by rw [List.getElem?_map, List.getElem?_eq_getElem hlt]; rfl
          have h39' : Spec prog 39 [.a [tI L[i].c, tS L[i].p, tI L[i].a]] [] (tS L[i].text) [] := h39 _ (List.getElem_mem hlt)
          have htk : ((L.take i).map fun k : LinkF => tS k.text) ++ [tS L[i].text] = (L.take (i + 1)).map fun k : LinkF => tS k.text := by
            rw [List.take_succ_eq_append_getElem hlt, List.map_append]; rfl
          have htl : ((L.take i).map fun k : LinkF => tS k.text).length = i := by rw [List.length_map, List.length_take]; omega
          repeat' (first | ((conv => whnf) <;>
                   first | refine (Frz.frz ?_ : Frz 18 _ _) | refine Frz.own ?_ | refine Get.mk _ rfl ?_ | refine Get.mk _ (map_geti (by omega)) ?_ | refine Get.mk _ (map_getp (by omega) (by omega)) ?_ | refine Get.mk _ (map_get (by omega)) ?_ | refine Bv2.mk _ _ rfl rfl ?_ | refine Bv1.mk _ rfl ?_ | refine Wr.mk _ (wrap_i64 (by omega) (by omega)) ?_ | refine Wr.mk _ rfl ?_ | refine And.intro len_map ?_ | refine And.intro (leX_refl _) ?_ | refine And.intro rfl ?_ | refine And.intro (leO_some _) ?_ | (refine And.intro (fun h => absurd h (by decide)) (fun h => ?_); clear h) | (refine And.intro (fun h => ?_) (fun h => absurd h (by decide)); clear h) | (with_reducible first | refine sp1 (fun h => ?_) (fun h => ?_) | refine sp2 (fun h => ?_) (fun h => ?_) | refine sp3 (fun h => ?_) (fun h => ?_) | refine sp4 (fun h => ?_) (fun h => ?_) | refine sp5 (fun h => ?_) (fun h => ?_) | refine sp6 (fun h => ?_) (fun h => ?_)) | with_reducible refine And.intro (fun h => ?_) (fun h => ?_) | refine And.intro (Int.natCast_nonneg _) ?_ | refine And.intro (by omega) ?_ | refine And.intro (by decide) ?_ | refine Get.mk _ (hget) ?_ | refine Lst.mk _ rfl ?_ | refine Byt.mk _ rfl ?_ | refine Or.inr (Or.inl ⟨_, _, h39', leL_refl _, rfl, rfl, ?_⟩) | refine And.intro trivial ?_ | exact trivial | exact leX_refl _ | exact rfl | refine frc_mk ?_ | refine weak_fr ?_ ?_ rfl | refine And.intro ?_ ?_ | fail) | refine frc_mk ?_)
          all_goals first
            | (simp only [List.length_map, List.length_take, List.length_cons, List.length_nil]; omega)
            | (refine rowO ?_; exact htk)
            | skip
          all_goals trace_state
        · obtain rfl : i = L.length := by omega
          have hall : ((L.take L.length).map fun k : LinkF => tS k.text) = List.map tS (L.map LinkF.text) := by rw [List.take_length, List.map_map]; rfl
          rw [hall]
          have hlm2 : (List.map tS (L.map LinkF.text)).length = L.length := by simp
          repeat' (first | ((conv => whnf) <;>
                   first | refine Frz.own ?_ | refine Get.mk _ rfl ?_ | refine Get.mk _ (map_geti (by omega)) ?_ | refine Get.mk _ (map_getp (by omega) (by omega)) ?_ | refine Get.mk _ (map_get (by omega)) ?_ | refine Bv2.mk _ _ rfl rfl ?_ | refine Bv1.mk _ rfl ?_ | refine Wr.mk _ (wrap_i64 (by omega) (by omega)) ?_ | refine Wr.mk _ rfl ?_ | refine And.intro len_map ?_ | refine And.intro (leX_refl _) ?_ | refine And.intro rfl ?_ | refine And.intro (leO_some _) ?_ | (refine And.intro (fun h => absurd h (by decide)) (fun h => ?_); clear h) | (refine And.intro (fun h => ?_) (fun h => absurd h (by decide)); clear h) | (with_reducible first | refine sp1 (fun h => ?_) (fun h => ?_) | refine sp2 (fun h => ?_) (fun h => ?_) | refine sp3 (fun h => ?_) (fun h => ?_) | refine sp4 (fun h => ?_) (fun h => ?_) | refine sp5 (fun h => ?_) (fun h => ?_) | refine sp6 (fun h => ?_) (fun h => ?_)) | with_reducible refine And.intro (fun h => ?_) (fun h => ?_) | refine And.intro (Int.natCast_nonneg _) ?_ | refine And.intro (by omega) ?_ | refine And.intro (by decide) ?_ | refine Lst.mk _ rfl ?_ | refine Or.inr (Or.inr (Or.inl ⟨[], true, _, [], h45, fun _ => ⟨rfl, Nat.le_of_ble_eq_true rfl⟩, List.nodup_nil, fun _ h => absurd h List.not_mem_nil, fun _ => ⟨rfl, fun _ h => absurd h List.not_mem_nil⟩, fun _ h => absurd h (Nat.not_lt_zero _), ?_⟩)) | refine Byt.mk _ rfl ?_ | refine And.intro trivial ?_ | exact trivial | exact leX_refl _ | exact rfl | refine frc_mk ?_ | refine weak_fr ?_ ?_ rfl | refine And.intro ?_ ?_ | fail) | refine frc_mk ?_)
          all_goals first
            | (exfalso; simp only [List.length_map] at *; omega)
            | skip
          all_goals trace_state
end Go.Proofs.YtdbeeenjcjplhaaDoor.Vc
