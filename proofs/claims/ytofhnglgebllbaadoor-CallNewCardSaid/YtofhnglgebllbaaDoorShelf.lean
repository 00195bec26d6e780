/- Contracts of the kit's shelf laid at this program, in plain declarations (written by the kit's tool, trimmed to what is used). -/
import Derived.Shelf.Strings.Builder1
import Derived.Shelf.Strings.Builder2
import Derived.Shelf.Strings.Trim
import Derived.Shelf.Small.Utf8
import Derived.Shelf.Small.Strs
import Derived.Shelf.Strings.BuilderF
import Derived.Shelf.Strings.Search1
import Derived.Shelf.Strings.Runes
import Derived.Shelf.Strings.AsciiSet
import Derived.Shelf.Bits.Mul64
import Derived.Shelf.Strings.Repeat
import Derived.Shelf.Unicode.DecodeSlow
import Derived.Shelf.Strings.BuilderCap
import Derived.Test.YtofhnglgebllbaaDoorProg
namespace Go.Proofs
open Go.Shelf
def Tryd.lays231_ren : Go.Shelf.Ren := ⟨fun | 231 => 229 | n => n, fun | 9 => 9 | 5 => 5 | 3 => 3 | 4 => 4 | n => n, fun | n => n⟩
theorem Tryd.lays231 : Go.Proofs.Lays.n231 Tryd.prog Tryd.lays231_ren := {
  mixed := by kernel_rfl
  f231 := Tryd.func229.trans (congrArg some (by kernel_rfl))
  t3 := Tryd.underlying3
  a3 := Tryd.isAgg3
  z3 := Tryd.sizeOf3
  v3 := Tryd.zeroValue3
  t4 := Tryd.underlying4
  a4 := Tryd.isAgg4
  z4 := Tryd.sizeOf4
  v4 := Tryd.zeroValue4
  t5 := Tryd.underlying5
  a5 := Tryd.isAgg5
  z5 := Tryd.sizeOf5
  v5 := Tryd.zeroValue5
  t9 := Tryd.underlying9
  a9 := Tryd.isAgg9
  z9 := Tryd.sizeOf9
  v9 := Tryd.zeroValue9 }
open Go.RowKit in
/-- strings.trimLeftByte (no doc; what TrimLeft and Trim call at a cutset of one ASCII byte): the leading bytes that are c are cut off. The world is as it was. (LAID: no walk: one application.) -/
theorem Tryd.strings_trimLeftByte (s : ByteArray) (c : UInt8) (w : World) :
    Calls Tryd.prog 229 #[.string s, .int .u8 c.toNat] w fun e w' => e = .returned (.string ⟨(Lib.trimLeftB s.data.toList c).toArray⟩) ∧ w' = w := Any.strings_trimLeftByte Tryd.lays231 s c w
def Tryd.lays232_ren : Go.Shelf.Ren := ⟨fun | 232 => 230 | n => n, fun | 9 => 9 | 5 => 5 | 3 => 3 | 4 => 4 | n => n, fun | n => n⟩
theorem Tryd.lays232 : Go.Proofs.Lays.n232 Tryd.prog Tryd.lays232_ren := {
  mixed := by kernel_rfl
  f232 := Tryd.func230.trans (congrArg some (by kernel_rfl))
  t3 := Tryd.underlying3
  a3 := Tryd.isAgg3
  z3 := Tryd.sizeOf3
  v3 := Tryd.zeroValue3
  t4 := Tryd.underlying4
  a4 := Tryd.isAgg4
  z4 := Tryd.sizeOf4
  v4 := Tryd.zeroValue4
  t5 := Tryd.underlying5
  a5 := Tryd.isAgg5
  z5 := Tryd.sizeOf5
  v5 := Tryd.zeroValue5
  t9 := Tryd.underlying9
  a9 := Tryd.isAgg9
  z9 := Tryd.sizeOf9
  v9 := Tryd.zeroValue9 }
open Go.RowKit in
/-- strings.trimRightByte (no doc; what TrimRight and Trim call at a cutset of one ASCII byte): the trailing bytes that are c are cut off. The world is as it was. ('hs': a string's length is a number that an int holds.) (LAID: no walk: one application.) -/
theorem Tryd.strings_trimRightByte (s : ByteArray) (c : UInt8) (w : World) (hs : s.size ≤ 9223372036854775807) :
    Calls Tryd.prog 230 #[.string s, .int .u8 c.toNat] w fun e w' => e = .returned (.string ⟨(Lib.trimRightB s.data.toList c).toArray⟩) ∧ w' = w := Any.strings_trimRightByte Tryd.lays232 s c w hs
def Tryd.lays160_ren : Go.Shelf.Ren := ⟨fun | 160 => 196 | 232 => 230 | 231 => 229 | 227 => 231 | 234 => 233 | 233 => 232 | 236 => 235 | 235 => 234 | 228 => 267 | 271 => 270 | 151 => 269 | 197 => 268 | 120 => 282 | 152 => 281 | 260 => 280 | 137 => 285 | 119 => 286 | 224 => 287 | 225 => 288 | 217 => 289 | 266 => 290 | n => n, fun | 9 => 9 | 4 => 4 | 3 => 3 | 5 => 5 | 117 => 368 | 116 => 367 | 0 => 0 | 124 => 371 | 21 => 21 | 105 => 409 | 46 => 294 | 119 => 423 | 139 => 426 | 138 => 425 | n => n, fun | 3 => 17 | 4 => 18 | n => n⟩
theorem Tryd.lays160 : Go.Proofs.Lays.n160 Tryd.prog Tryd.lays160_ren := {
  mixed := by kernel_rfl
  f119 := Tryd.func286.trans (congrArg some (by kernel_rfl))
  f120 := Tryd.func282.trans (congrArg some (by kernel_rfl))
  f137 := Tryd.func285.trans (congrArg some (by kernel_rfl))
  f151 := Tryd.func269.trans (congrArg some (by kernel_rfl))
  f152 := Tryd.func281.trans (congrArg some (by kernel_rfl))
  f160 := Tryd.func196.trans (congrArg some (by kernel_rfl))
  f197 := Tryd.func268.trans (congrArg some (by kernel_rfl))
  f217 := Tryd.func289.trans (congrArg some (by kernel_rfl))
  f224 := Tryd.func287.trans (congrArg some (by kernel_rfl))
  f225 := Tryd.func288.trans (congrArg some (by kernel_rfl))
  f227 := Tryd.func231.trans (congrArg some (by kernel_rfl))
  f228 := Tryd.func267.trans (congrArg some (by kernel_rfl))
  f231 := Tryd.func229.trans (congrArg some (by kernel_rfl))
  f232 := Tryd.func230.trans (congrArg some (by kernel_rfl))
  f233 := Tryd.func232.trans (congrArg some (by kernel_rfl))
  f234 := Tryd.func233.trans (congrArg some (by kernel_rfl))
  f235 := Tryd.func234.trans (congrArg some (by kernel_rfl))
  f236 := Tryd.func235.trans (congrArg some (by kernel_rfl))
  f260 := Tryd.func280.trans (congrArg some (by kernel_rfl))
  f266 := Tryd.func290.trans (congrArg some (by kernel_rfl))
  f271 := Tryd.func270.trans (congrArg some (by kernel_rfl))
  t0 := Tryd.underlying0
  a0 := Tryd.isAgg0
  z0 := Tryd.sizeOf0
  v0 := Tryd.zeroValue0
  t3 := Tryd.underlying3
  a3 := Tryd.isAgg3
  z3 := Tryd.sizeOf3
  v3 := Tryd.zeroValue3
  t4 := Tryd.underlying4
  a4 := Tryd.isAgg4
  z4 := Tryd.sizeOf4
  v4 := Tryd.zeroValue4
  t5 := Tryd.underlying5
  a5 := Tryd.isAgg5
  z5 := Tryd.sizeOf5
  v5 := Tryd.zeroValue5
  t9 := Tryd.underlying9
  a9 := Tryd.isAgg9
  z9 := Tryd.sizeOf9
  v9 := Tryd.zeroValue9
  t21 := Tryd.underlying21
  a21 := Tryd.isAgg21
  z21 := Tryd.sizeOf21
  v21 := Tryd.zeroValue21
  t46 := Tryd.underlying294
  a46 := Tryd.isAgg294
  z46 := Tryd.sizeOf294
  v46 := Tryd.zeroValue294
  t105 := Tryd.underlying409
  a105 := Tryd.isAgg409
  z105 := Tryd.sizeOf409
  v105 := Tryd.zeroValue409
  t116 := Tryd.underlying367
  a116 := Tryd.isAgg367
  z116 := Tryd.sizeOf367
  t117 := Tryd.underlying368
  a117 := Tryd.isAgg368
  z117 := Tryd.sizeOf368
  v117 := Tryd.zeroValue368
  t119 := Tryd.underlying423
  a119 := Tryd.isAgg423
  z119 := Tryd.sizeOf423
  t124 := Tryd.underlying371
  a124 := Tryd.isAgg371
  z124 := Tryd.sizeOf371
  v124 := Tryd.zeroValue371
  t138 := Tryd.underlying425
  a138 := Tryd.isAgg425
  z138 := Tryd.sizeOf425
  v138 := Tryd.zeroValue425
  t139 := Tryd.underlying426
  a139 := Tryd.isAgg426
  z139 := Tryd.sizeOf426
  v139 := Tryd.zeroValue426
  g3 := by kernel_rfl
  g4 := by kernel_rfl }
open Go.RowKit in
/-- strings.Trim: "Trim returns a slice of the string s with all leading and trailing Unicode code points contained in cutset removed.": AT A cutset OF ONE ASCII BYTE. THE WORLD BEHIND IT: as it was, or (where s is not empty) with ONE DRAW MORE off the tape: the statement 'return trimLeftByte(trimRightByte(s, c), c)' draws its order of evaluation. (LAID: no walk: one application.) -/
theorem Tryd.strings_Trim_one (s : ByteArray) (c : UInt8) (hc : c.toNat < 128) (w : World) (hs : s.size ≤ 9223372036854775807) :
    Calls Tryd.prog 196 #[.string s, .string ⟨#[c]⟩] w fun e w' => e = .returned (.string ⟨(Lib.trimB s.data.toList c).toArray⟩) ∧ (w' = w ∨ w' = w.drew) := Any.strings_Trim_one Tryd.lays160 s c hc w hs
def Tryd.lays99_ren : Go.Shelf.Ren := ⟨fun | 99 => 224 | 206 => 264 | n => n, fun | 9 => 9 | 4 => 4 | 3 => 3 | n => n, fun | n => n⟩
theorem Tryd.lays99 : Go.Proofs.Lays.n99 Tryd.prog Tryd.lays99_ren := {
  mixed := by kernel_rfl
  f99 := Tryd.func224.trans (congrArg some (by kernel_rfl))
  f206 := Tryd.func264.trans (congrArg some (by kernel_rfl))
  t3 := Tryd.underlying3
  a3 := Tryd.isAgg3
  z3 := Tryd.sizeOf3
  v3 := Tryd.zeroValue3
  t4 := Tryd.underlying4
  a4 := Tryd.isAgg4
  z4 := Tryd.sizeOf4
  v4 := Tryd.zeroValue4
  t9 := Tryd.underlying9
  a9 := Tryd.isAgg9
  z9 := Tryd.sizeOf9
  v9 := Tryd.zeroValue9 }
open Go.RowKit Go.Lib in
/-- strings.HasPrefix: "HasPrefix reports whether the string s begins with prefix.": IT RETURNS 'Lib.hasPrefix s prefix'; the world is as it was. (LAID: no walk: one application.) -/
theorem Tryd.strings_HasPrefix (s p : ByteArray) (w : World) :
    Calls Tryd.prog 224 #[.string s, .string p] w fun e w' => e = .returned (.bool (Lib.hasPrefix s.data.toList p.data.toList)) ∧ w' = w := Any.strings_HasPrefix Tryd.lays99 s p w
def Tryd.lays264_ren : Go.Shelf.Ren := ⟨fun | 264 => 263 | n => n, fun | 53 => 318 | 46 => 294 | n => n, fun | n => n⟩
theorem Tryd.lays264 : Go.Proofs.Lays.n264 Tryd.prog Tryd.lays264_ren := {
  mixed := by kernel_rfl
  f264 := Tryd.func263.trans (congrArg some (by kernel_rfl))
  t46 := Tryd.underlying294
  a46 := Tryd.isAgg294
  z46 := Tryd.sizeOf294
  v46 := Tryd.zeroValue294
  t53 := Tryd.underlying318
  a53 := Tryd.isAgg318
  z53 := Tryd.sizeOf318
  v53 := Tryd.zeroValue318 }
open Go.RowKit Go.Lib in
theorem Tryd.bits_Mul64 (x y : Nat) (hx : x < 18446744073709551616) (hy : y < 18446744073709551616) (w : World) :
    Calls Tryd.prog 263 #[.int .u64 x, .int .u64 y] w fun e w' => e = .returned (.tuple #[.int .u64 ((x * y / 18446744073709551616 : Nat) : Int), .int .u64 ((x * y % 18446744073709551616 : Nat) : Int)]) ∧ w' = w := Any.bits_Mul64 Tryd.lays264 x y hx hy w
def Tryd.lays212_ren : Go.Shelf.Ren := ⟨fun | 212 => 223 | 263 => 262 | 264 => 263 | n => n, fun | 46 => 294 | 51 => 352 | 146 => 404 | 53 => 318 | 148 => 406 | n => n, fun | n => n⟩
theorem Tryd.lays212 : Go.Proofs.Lays.n212 Tryd.prog Tryd.lays212_ren := {
  mixed := by kernel_rfl
  f212 := Tryd.func223.trans (congrArg some (by kernel_rfl))
  f263 := Tryd.func262.trans (congrArg some (by kernel_rfl))
  f264 := Tryd.func263.trans (congrArg some (by kernel_rfl))
  t46 := Tryd.underlying294
  a46 := Tryd.isAgg294
  z46 := Tryd.sizeOf294
  v46 := Tryd.zeroValue294
  t51 := Tryd.underlying352
  a51 := Tryd.isAgg352
  z51 := Tryd.sizeOf352
  v51 := Tryd.zeroValue352
  t53 := Tryd.underlying318
  a53 := Tryd.isAgg318
  z53 := Tryd.sizeOf318
  v53 := Tryd.zeroValue318
  t146 := Tryd.underlying404
  a146 := Tryd.isAgg404
  z146 := Tryd.sizeOf404
  v146 := Tryd.zeroValue404
  t148 := Tryd.underlying406
  a148 := Tryd.isAgg406
  z148 := Tryd.sizeOf406
  v148 := Tryd.zeroValue406 }
open Go.RowKit Go.Lib in
/-- math/bits.Mul: "Mul returns the full-width product of x and y": on a machine of 64 bits: Mul64's. (LAID: no walk: one application.) -/
theorem Tryd.bits_Mul (x y : Nat) (hx : x < 18446744073709551616) (hy : y < 18446744073709551616) (w : World) :
    Calls Tryd.prog 223 #[.int .u64 x, .int .u64 y] w fun e w' => e = .returned (.tuple #[.int .u64 ((x * y / 18446744073709551616 : Nat) : Int), .int .u64 ((x * y % 18446744073709551616 : Nat) : Int)]) ∧ w' = w := Any.bits_Mul Tryd.lays212 x y hx hy w
def Tryd.lays105_ren : Go.Shelf.Ren := ⟨fun | 105 => 193 | 212 => 223 | 99 => 224 | 165 => 225 | 166 => 226 | 170 => 227 | 169 => 228 | 263 => 262 | 264 => 263 | 206 => 264 | 240 => 265 | 241 => 266 | 276 => 278 | 277 => 279 | n => n, fun | 9 => 9 | 3 => 3 | 4 => 4 | 20 => 20 | 0 => 0 | 46 => 294 | 109 => 357 | 5 => 5 | 72 => 362 | 76 => 131 | 51 => 352 | 146 => 404 | 53 => 318 | 148 => 406 | 70 => 360 | 37 => 246 | 75 => 25 | 127 => 408 | 164 => 328 | 80 => 249 | n => n, fun | n => n⟩
theorem Tryd.lays105 : Go.Proofs.Lays.n105 Tryd.prog Tryd.lays105_ren := {
  mixed := by kernel_rfl
  f99 := Tryd.func224.trans (congrArg some (by kernel_rfl))
  f105 := Tryd.func193.trans (congrArg some (by kernel_rfl))
  f165 := Tryd.func225.trans (congrArg some (by kernel_rfl))
  f166 := Tryd.func226.trans (congrArg some (by kernel_rfl))
  f169 := Tryd.func228.trans (congrArg some (by kernel_rfl))
  f170 := Tryd.func227.trans (congrArg some (by kernel_rfl))
  f206 := Tryd.func264.trans (congrArg some (by kernel_rfl))
  f212 := Tryd.func223.trans (congrArg some (by kernel_rfl))
  f240 := Tryd.func265.trans (congrArg some (by kernel_rfl))
  f241 := Tryd.func266.trans (congrArg some (by kernel_rfl))
  f263 := Tryd.func262.trans (congrArg some (by kernel_rfl))
  f264 := Tryd.func263.trans (congrArg some (by kernel_rfl))
  f276 := Tryd.func278.trans (congrArg some (by kernel_rfl))
  f277 := Tryd.func279.trans (congrArg some (by kernel_rfl))
  t0 := Tryd.underlying0
  a0 := Tryd.isAgg0
  z0 := Tryd.sizeOf0
  v0 := Tryd.zeroValue0
  t3 := Tryd.underlying3
  a3 := Tryd.isAgg3
  z3 := Tryd.sizeOf3
  v3 := Tryd.zeroValue3
  t4 := Tryd.underlying4
  a4 := Tryd.isAgg4
  z4 := Tryd.sizeOf4
  v4 := Tryd.zeroValue4
  t5 := Tryd.underlying5
  a5 := Tryd.isAgg5
  z5 := Tryd.sizeOf5
  v5 := Tryd.zeroValue5
  t9 := Tryd.underlying9
  a9 := Tryd.isAgg9
  z9 := Tryd.sizeOf9
  v9 := Tryd.zeroValue9
  t20 := Tryd.underlying20
  a20 := Tryd.isAgg20
  z20 := Tryd.sizeOf20
  v20 := Tryd.zeroValue20
  t37 := Tryd.underlying246
  a37 := Tryd.isAgg246
  z37 := Tryd.sizeOf246
  v37 := Tryd.zeroValue246
  t46 := Tryd.underlying294
  a46 := Tryd.isAgg294
  z46 := Tryd.sizeOf294
  v46 := Tryd.zeroValue294
  t51 := Tryd.underlying352
  a51 := Tryd.isAgg352
  z51 := Tryd.sizeOf352
  v51 := Tryd.zeroValue352
  t53 := Tryd.underlying318
  a53 := Tryd.isAgg318
  z53 := Tryd.sizeOf318
  v53 := Tryd.zeroValue318
  t70 := Tryd.underlying360
  a70 := Tryd.isAgg360
  z70 := Tryd.sizeOf360
  v70 := Tryd.zeroValue360
  t72 := Tryd.underlying362
  a72 := Tryd.isAgg362
  z72 := Tryd.sizeOf362
  v72 := Tryd.zeroValue362
  t75 := Tryd.underlying25
  a75 := Tryd.isAgg25
  z75 := Tryd.sizeOf25
  v75 := Tryd.zeroValue25
  t76 := Tryd.underlying131
  a76 := Tryd.isAgg131
  z76 := Tryd.sizeOf131
  v76 := Tryd.zeroValue131
  t109 := Tryd.underlying357
  a109 := Tryd.isAgg357
  z109 := Tryd.sizeOf357
  v109 := Tryd.zeroValue357
  t127 := Tryd.underlying408
  a127 := Tryd.isAgg408
  z127 := Tryd.sizeOf408
  v127 := Tryd.zeroValue408
  t146 := Tryd.underlying404
  a146 := Tryd.isAgg404
  z146 := Tryd.sizeOf404
  v146 := Tryd.zeroValue404
  t148 := Tryd.underlying406
  a148 := Tryd.isAgg406
  z148 := Tryd.sizeOf406
  v148 := Tryd.zeroValue406
  t164 := Tryd.underlying328
  a164 := Tryd.isAgg328
  z164 := Tryd.sizeOf328
  v164 := Tryd.zeroValue328 }
theorem Tryd.Builder_Extra_105 : Builder.Extra Tryd.prog Tryd.lays105_ren := {
  sizeBuilder := by kernel_rfl
  liesBuilder := by kernel_rfl
  t5 := Tryd.underlying5
  a5 := Tryd.isAgg5
  z5 := Tryd.sizeOf5
  v5 := Tryd.zeroValue5
  infoByte := by kernel_rfl
  cellsByte := by kernel_rfl
  sizeByte := by kernel_rfl
  neB5 := by decide }
open Go.RowKit Go.Lib in
/-- THE MAIN CASE: at least two copies of a string that is not empty. (LAID: no walk: one application.) -/
theorem Tryd.strings_Repeat_main (s : ByteArray) (c : Nat) (w : World) (hc2 : 2 ≤ c) (hc : c ≤ 9223372036854775807) (hlen : s.size * c ≤ 140737488355328) (h0 : 0 < s.size) :
    Calls Tryd.prog 193 #[.string s, .int .i64 c] w fun e w' => e = .returned (.string ⟨(Lib.repeatL s.data.toList c).toArray⟩) ∧ Below w.heap.size w w' := Any.strings_Repeat_main Tryd.lays105 Tryd.Builder_Extra_105 s c w hc2 hc hlen h0
open Go.RowKit Go.Lib in
theorem Tryd.strings_Repeat_zero (s : ByteArray) (w : World) :
    Calls Tryd.prog 193 #[.string s, .int .i64 0] w fun e w' => e = .returned (.string ⟨#[]⟩) ∧ w' = w := Any.strings_Repeat_zero Tryd.lays105 s w
open Go.RowKit Go.Lib in
theorem Tryd.strings_Repeat_one (s : ByteArray) (w : World) :
    Calls Tryd.prog 193 #[.string s, .int .i64 1] w fun e w' => e = .returned (.string s) ∧ w' = w := Any.strings_Repeat_one Tryd.lays105 s w
open Go.RowKit Go.Lib in
/-- Copies of the empty string. (LAID: no walk: one application.) -/
theorem Tryd.strings_Repeat_empty (s : ByteArray) (c : Nat) (w : World) (hc2 : 2 ≤ c) (hc : c ≤ 9223372036854775807) (h0 : s.size = 0) :
    Calls Tryd.prog 193 #[.string s, .int .i64 c] w fun e w' => e = .returned (.string ⟨#[]⟩) ∧ w' = w := Any.strings_Repeat_empty Tryd.lays105 s c w hc2 hc h0
open Go.RowKit Go.Lib in
/-- **strings.Repeat: count ≥ 0, the result within one allocation: count copies of s.** (LAID: no walk: one application.) -/
theorem Tryd.strings_Repeat (s : ByteArray) (c : Nat) (w : World) (hc : c ≤ 9223372036854775807) (hlen : s.size * c ≤ 140737488355328) :
    Calls Tryd.prog 193 #[.string s, .int .i64 c] w fun e w' => e = .returned (.string ⟨(Lib.repeatL s.data.toList c).toArray⟩) ∧ Below w.heap.size w w' := Any.strings_Repeat Tryd.lays105 Tryd.Builder_Extra_105 s c w hc hlen
end Go.Proofs
