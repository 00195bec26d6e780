/- Lemmas: part 2. -/
import Derived.Test.YtemnibnlgimpkaaGreatDoorF1
import Derived.Shelf.Strings.Builder1
import Derived.Shelf.Strings.Builder2
import Derived.Shelf.Strings.Trim
import Derived.Shelf.Small.Utf8
import Derived.Shelf.Small.Strs
import Derived.Shelf.Strings.BuilderF
import Derived.Shelf.Strconv.Atoi
import Derived.Shelf.Strconv.Itoa0
import Derived.Shelf.Strconv.Itoa1
import Derived.Shelf.LaysM
import Derived.Shelf.Strconv.Itoa2
import Derived.Shelf.Strconv.Itoa3
import Derived.Shelf.Strconv.AtoiErrFast
import Derived.Shelf.Strconv.ParseIntEmpty
import Derived.Shelf.Strconv.AtoiFail
import Derived.Shelf.Strconv.Clone
import Derived.Shelf.Strconv.SyntaxError
import Derived.Shelf.LaysC
import Derived.Shelf.Strconv.ToError
import Derived.Shelf.Strconv.Lower
import Derived.Shelf.Strconv.ParseUint10
import Derived.Shelf.Strconv.ParseUint10Empty
import Derived.Shelf.Strconv.ParseUint10Any
import Derived.Shelf.Strconv.ParseInt10
import Derived.Shelf.Strconv.AtoiLong
import Derived.Shelf.Strconv.AtoiInnerAll
import Derived.Shelf.Strconv.RangeError
import Derived.Shelf.Strconv.ToErrorRange
import Derived.Shelf.Strconv.AtoiAll
import Derived.Shelf.Strings.Search1
import Derived.Shelf.Strings.Runes
import Derived.Shelf.Strings.AsciiSet
import Derived.Shelf.Bits.Mul64
import Derived.Shelf.Strings.Repeat
import Derived.Shelf.Unicode.DecodeSlow
import Derived.Shelf.Strings.BuilderCap
import Derived.Ground.Names2Prog
import Derived.Test.YtemnibnlgimpkaaGreatDoorProg
import Derived.Laws.CopyOwn
import Derived.Lib.SliceRun
import Derived.IntWalk
import Derived.LoopN
import Derived.BigRegion
import Derived.Lib.ItoaNum
import Derived.Lib.AtoiAllCases
import Derived.Lib.TrimByte
import Derived.StillTailTactics
import Derived.Laws.Concat
import Derived.Laws.Bits128
set_option linter.all false
set_option maxRecDepth 100000
set_option maxHeartbeats 20000000
/- Contracts of the kit's shelf laid at this program, in plain declarations (written by the kit's tool, trimmed to what is used). -/
namespace Go.Proofs
open Go.Shelf
def Tryz.lays162_ren : Go.Shelf.Ren := ⟨fun | 162 => 44 | 232 => 58 | 227 => 59 | 234 => 60 | 236 => 61 | 228 => 76 | 271 => 77 | 151 => 78 | 120 => 85 | 197 => 86 | 152 => 87 | 260 => 91 | 137 => 92 | 119 => 93 | 224 => 94 | 225 => 95 | 217 => 100 | 266 => 106 | n => n, fun | 9 => 9 | 4 => 4 | 3 => 3 | 5 => 5 | 117 => 117 | 116 => 116 | 0 => 0 | 124 => 120 | 21 => 21 | 105 => 144 | 46 => 89 | 119 => 183 | 139 => 186 | 138 => 185 | n => n, fun | 3 => 19 | 4 => 20 | n => n⟩
theorem Tryz.lays162 : Go.Proofs.Lays.n162 Tryz.prog Tryz.lays162_ren := {
  mixed := by kernel_rfl
  f119 := Tryz.func93.trans (congrArg some (by kernel_rfl))
  f120 := Tryz.func85.trans (congrArg some (by kernel_rfl))
  f137 := Tryz.func92.trans (congrArg some (by kernel_rfl))
  f151 := Tryz.func78.trans (congrArg some (by kernel_rfl))
  f152 := Tryz.func87.trans (congrArg some (by kernel_rfl))
  f162 := Tryz.func44.trans (congrArg some (by kernel_rfl))
  f197 := Tryz.func86.trans (congrArg some (by kernel_rfl))
  f217 := Tryz.func100.trans (congrArg some (by kernel_rfl))
  f224 := Tryz.func94.trans (congrArg some (by kernel_rfl))
  f225 := Tryz.func95.trans (congrArg some (by kernel_rfl))
  f227 := Tryz.func59.trans (congrArg some (by kernel_rfl))
  f228 := Tryz.func76.trans (congrArg some (by kernel_rfl))
  f232 := Tryz.func58.trans (congrArg some (by kernel_rfl))
  f234 := Tryz.func60.trans (congrArg some (by kernel_rfl))
  f236 := Tryz.func61.trans (congrArg some (by kernel_rfl))
  f260 := Tryz.func91.trans (congrArg some (by kernel_rfl))
  f266 := Tryz.func106.trans (congrArg some (by kernel_rfl))
  f271 := Tryz.func77.trans (congrArg some (by kernel_rfl))
  t0 := Tryz.underlying0
  a0 := Tryz.isAgg0
  z0 := Tryz.sizeOf0
  v0 := Tryz.zeroValue0
  t3 := Tryz.underlying3
  a3 := Tryz.isAgg3
  z3 := Tryz.sizeOf3
  v3 := Tryz.zeroValue3
  t4 := Tryz.underlying4
  a4 := Tryz.isAgg4
  z4 := Tryz.sizeOf4
  v4 := Tryz.zeroValue4
  t5 := Tryz.underlying5
  a5 := Tryz.isAgg5
  z5 := Tryz.sizeOf5
  v5 := Tryz.zeroValue5
  t9 := Tryz.underlying9
  a9 := Tryz.isAgg9
  z9 := Tryz.sizeOf9
  v9 := Tryz.zeroValue9
  t21 := Tryz.underlying21
  a21 := Tryz.isAgg21
  z21 := Tryz.sizeOf21
  v21 := Tryz.zeroValue21
  t46 := Tryz.underlying89
  a46 := Tryz.isAgg89
  z46 := Tryz.sizeOf89
  v46 := Tryz.zeroValue89
  t105 := Tryz.underlying144
  a105 := Tryz.isAgg144
  z105 := Tryz.sizeOf144
  v105 := Tryz.zeroValue144
  t116 := Tryz.underlying116
  a116 := Tryz.isAgg116
  z116 := Tryz.sizeOf116
  t117 := Tryz.underlying117
  a117 := Tryz.isAgg117
  z117 := Tryz.sizeOf117
  v117 := Tryz.zeroValue117
  t119 := Tryz.underlying183
  a119 := Tryz.isAgg183
  z119 := Tryz.sizeOf183
  t124 := Tryz.underlying120
  a124 := Tryz.isAgg120
  z124 := Tryz.sizeOf120
  v124 := Tryz.zeroValue120
  t138 := Tryz.underlying185
  a138 := Tryz.isAgg185
  z138 := Tryz.sizeOf185
  v138 := Tryz.zeroValue185
  t139 := Tryz.underlying186
  a139 := Tryz.isAgg186
  z139 := Tryz.sizeOf186
  v139 := Tryz.zeroValue186
  g3 := by kernel_rfl
  g4 := by kernel_rfl }
open Go.RowKit in
theorem Tryz.strings_TrimRight_one (s : ByteArray) (c : UInt8) (hc : c.toNat < 128) (w : World) (hs : s.size ≤ 9223372036854775807) :
    Calls Tryz.prog 44 #[.string s, .string ⟨#[c]⟩] w fun e w' => e = .returned (.string ⟨(Lib.trimRightB s.data.toList c).toArray⟩) ∧ w' = w := Any.strings_TrimRight_one Tryz.lays162 s c hc w hs
def Tryz.laysM171_ren : Go.Shelf.Ren := ⟨fun | 171 => 69 | 243 => 81 | 246 => 88 | 283 => 96 | 284 => 97 | 285 => 98 | 286 => 99 | 129 => 102 | 317 => 101 | 318 => 103 | 319 => 104 | 320 => 105 | 337 => 107 | 338 => 108 | n => n, fun | 3 => 3 | 9 => 9 | 2 => 2 | 4 => 4 | 171 => 178 | 0 => 0 | 53 => 110 | 37 => 72 | 5 => 5 | 173 => 181 | 212 => 188 | 51 => 107 | 20 => 20 | 213 => 189 | 46 => 89 | 232 => 193 | 233 => 194 | n => n, fun | 17 => 21 | 18 => 22 | 19 => 23 | n => n⟩
theorem Tryz.laysM171 : Go.Proofs.LaysM.n171 Tryz.prog Tryz.laysM171_ren := {
  mixed := by kernel_rfl
  f129 := Tryz.func102.trans (congrArg some (by kernel_rfl))
  f171 := Tryz.func69.trans (congrArg some (by kernel_rfl))
  f243 := Tryz.func81.trans (congrArg some (by kernel_rfl))
  f246 := Tryz.func88.trans (congrArg some (by kernel_rfl))
  f283 := Tryz.func96.trans (congrArg some (by kernel_rfl))
  f284 := Tryz.func97.trans (congrArg some (by kernel_rfl))
  f285 := Tryz.func98.trans (congrArg some (by kernel_rfl))
  f286 := Tryz.func99.trans (congrArg some (by kernel_rfl))
  f317 := Tryz.func101.trans (congrArg some (by kernel_rfl))
  f318 := Tryz.func103.trans (congrArg some (by kernel_rfl))
  f319 := Tryz.func104.trans (congrArg some (by kernel_rfl))
  f320 := Tryz.func105.trans (congrArg some (by kernel_rfl))
  f337 := Tryz.func107.trans (congrArg some (by kernel_rfl))
  f338 := Tryz.func108.trans (congrArg some (by kernel_rfl))
  t0 := Tryz.underlying0
  a0 := Tryz.isAgg0
  z0 := Tryz.sizeOf0
  v0 := Tryz.zeroValue0
  t2 := Tryz.underlying2
  a2 := Tryz.isAgg2
  z2 := Tryz.sizeOf2
  v2 := Tryz.zeroValue2
  t3 := Tryz.underlying3
  a3 := Tryz.isAgg3
  z3 := Tryz.sizeOf3
  v3 := Tryz.zeroValue3
  t4 := Tryz.underlying4
  a4 := Tryz.isAgg4
  z4 := Tryz.sizeOf4
  v4 := Tryz.zeroValue4
  t5 := Tryz.underlying5
  a5 := Tryz.isAgg5
  z5 := Tryz.sizeOf5
  v5 := Tryz.zeroValue5
  t9 := Tryz.underlying9
  a9 := Tryz.isAgg9
  z9 := Tryz.sizeOf9
  v9 := Tryz.zeroValue9
  t20 := Tryz.underlying20
  a20 := Tryz.isAgg20
  z20 := Tryz.sizeOf20
  v20 := Tryz.zeroValue20
  t37 := Tryz.underlying72
  a37 := Tryz.isAgg72
  z37 := Tryz.sizeOf72
  v37 := Tryz.zeroValue72
  t46 := Tryz.underlying89
  a46 := Tryz.isAgg89
  z46 := Tryz.sizeOf89
  v46 := Tryz.zeroValue89
  t51 := Tryz.underlying107
  a51 := Tryz.isAgg107
  z51 := Tryz.sizeOf107
  v51 := Tryz.zeroValue107
  t53 := Tryz.underlying110
  a53 := Tryz.isAgg110
  z53 := Tryz.sizeOf110
  v53 := Tryz.zeroValue110
  t171 := Tryz.underlying178
  a171 := Tryz.isAgg178
  z171 := Tryz.sizeOf178
  v171 := Tryz.zeroValue178
  t173 := Tryz.underlying181
  a173 := Tryz.isAgg181
  z173 := Tryz.sizeOf181
  v173 := Tryz.zeroValue181
  t212 := Tryz.underlying188
  a212 := Tryz.isAgg188
  z212 := Tryz.sizeOf188
  v212 := Tryz.zeroValue188
  t213 := Tryz.underlying189
  a213 := Tryz.isAgg189
  z213 := Tryz.sizeOf189
  t232 := Tryz.underlying193
  a232 := Tryz.isAgg193
  z232 := Tryz.sizeOf193
  v232 := Tryz.zeroValue193
  t233 := Tryz.underlying194
  a233 := Tryz.isAgg194
  z233 := Tryz.sizeOf194
  v233 := Tryz.zeroValue194
  g17 := by kernel_rfl
  g18 := by kernel_rfl
  g19 := by kernel_rfl
  i0 := by kernel_rfl
  i2 := by kernel_rfl
  i3 := by kernel_rfl
  i4 := by kernel_rfl
  i5 := by kernel_rfl
  i9 := by kernel_rfl
  i20 := by kernel_rfl
  i37 := by kernel_rfl
  i46 := by kernel_rfl
  i51 := by kernel_rfl
  i53 := by kernel_rfl
  i171 := by kernel_rfl
  i173 := by kernel_rfl
  i212 := by kernel_rfl
  i232 := by kernel_rfl
  i233 := by kernel_rfl
  m17 := by kernel_rfl
  m18 := by kernel_rfl
  m19 := by kernel_rfl }
open Go.RowKit Go.Sort Go.Lib in
theorem Tryz.strconv_Itoa (n : Int) (h0 : -9223372036854775808 ≤ n) (h1 : n ≤ 9223372036854775807) (w : World) (htab : Lib.TabIs Tryz.prog w "internal/strconv.uint64pow10" .u64 Lib.pow10Tab) :
    Calls Tryz.prog 69 #[.int .i64 n] w fun e w' => e = .returned (.string ⟨(Lib.itoa n).toArray⟩) ∧ ∃ k os, w' = grow (w.drewN k) os := Any.strconv_Itoa Tryz.laysM171 n h0 h1 w htab
def Tryz.laysC172_ren : Go.Shelf.Ren := ⟨fun | 172 => 43 | 244 => 56 | 245 => 57 | 247 => 71 | 279 => 72 | 280 => 73 | 281 => 74 | 282 => 75 | 287 => 82 | 316 => 83 | 171 => 69 | 205 => 84 | 321 => 89 | 322 => 90 | 243 => 81 | 246 => 88 | 283 => 96 | 284 => 97 | 285 => 98 | 286 => 99 | 129 => 102 | 317 => 101 | 318 => 103 | 319 => 104 | 320 => 105 | 337 => 107 | 338 => 108 | n => n, fun | 9 => 9 | 3 => 3 | 75 => 27 | 76 => 75 | 4 => 4 | 5 => 5 | 167 => 137 | 37 => 72 | 0 => 0 | 85 => 138 | 2 => 2 | 168 => 140 | 53 => 110 | 175 => 161 | 46 => 89 | 210 => 165 | 127 => 98 | 145 => 173 | 143 => 171 | 21 => 21 | 171 => 178 | 173 => 181 | 212 => 188 | 51 => 107 | 20 => 20 | 213 => 189 | 232 => 193 | 233 => 194 | 80 => 79 | n => n, fun | 15 => 17 | 16 => 18 | 17 => 21 | 18 => 22 | 19 => 23 | n => n⟩
theorem Tryz.laysC172 : Go.Proofs.LaysC.n172 Tryz.prog Tryz.laysC172_ren := {
  mixed := by kernel_rfl
  f129 := Tryz.func102.trans (congrArg some (by kernel_rfl))
  f171 := Tryz.func69.trans (congrArg some (by kernel_rfl))
  f172 := Tryz.func43.trans (congrArg some (by kernel_rfl))
  f205 := Tryz.func84.trans (congrArg some (by kernel_rfl))
  f243 := Tryz.func81.trans (congrArg some (by kernel_rfl))
  f244 := Tryz.func56.trans (congrArg some (by kernel_rfl))
  f245 := Tryz.func57.trans (congrArg some (by kernel_rfl))
  f246 := Tryz.func88.trans (congrArg some (by kernel_rfl))
  f247 := Tryz.func71.trans (congrArg some (by kernel_rfl))
  f279 := Tryz.func72.trans (congrArg some (by kernel_rfl))
  f280 := Tryz.func73.trans (congrArg some (by kernel_rfl))
  f281 := Tryz.func74.trans (congrArg some (by kernel_rfl))
  f282 := Tryz.func75.trans (congrArg some (by kernel_rfl))
  f283 := Tryz.func96.trans (congrArg some (by kernel_rfl))
  f284 := Tryz.func97.trans (congrArg some (by kernel_rfl))
  f285 := Tryz.func98.trans (congrArg some (by kernel_rfl))
  f286 := Tryz.func99.trans (congrArg some (by kernel_rfl))
  f287 := Tryz.func82.trans (congrArg some (by kernel_rfl))
  f316 := Tryz.func83.trans (congrArg some (by kernel_rfl))
  f317 := Tryz.func101.trans (congrArg some (by kernel_rfl))
  f318 := Tryz.func103.trans (congrArg some (by kernel_rfl))
  f319 := Tryz.func104.trans (congrArg some (by kernel_rfl))
  f320 := Tryz.func105.trans (congrArg some (by kernel_rfl))
  f321 := Tryz.func89.trans (congrArg some (by kernel_rfl))
  f322 := Tryz.func90.trans (congrArg some (by kernel_rfl))
  f337 := Tryz.func107.trans (congrArg some (by kernel_rfl))
  f338 := Tryz.func108.trans (congrArg some (by kernel_rfl))
  t0 := Tryz.underlying0
  a0 := Tryz.isAgg0
  z0 := Tryz.sizeOf0
  v0 := Tryz.zeroValue0
  t2 := Tryz.underlying2
  a2 := Tryz.isAgg2
  z2 := Tryz.sizeOf2
  v2 := Tryz.zeroValue2
  t3 := Tryz.underlying3
  a3 := Tryz.isAgg3
  z3 := Tryz.sizeOf3
  v3 := Tryz.zeroValue3
  t4 := Tryz.underlying4
  a4 := Tryz.isAgg4
  z4 := Tryz.sizeOf4
  v4 := Tryz.zeroValue4
  t5 := Tryz.underlying5
  a5 := Tryz.isAgg5
  z5 := Tryz.sizeOf5
  v5 := Tryz.zeroValue5
  t9 := Tryz.underlying9
  a9 := Tryz.isAgg9
  z9 := Tryz.sizeOf9
  v9 := Tryz.zeroValue9
  t20 := Tryz.underlying20
  a20 := Tryz.isAgg20
  z20 := Tryz.sizeOf20
  v20 := Tryz.zeroValue20
  t21 := Tryz.underlying21
  a21 := Tryz.isAgg21
  z21 := Tryz.sizeOf21
  v21 := Tryz.zeroValue21
  t37 := Tryz.underlying72
  a37 := Tryz.isAgg72
  z37 := Tryz.sizeOf72
  v37 := Tryz.zeroValue72
  t46 := Tryz.underlying89
  a46 := Tryz.isAgg89
  z46 := Tryz.sizeOf89
  v46 := Tryz.zeroValue89
  t51 := Tryz.underlying107
  a51 := Tryz.isAgg107
  z51 := Tryz.sizeOf107
  v51 := Tryz.zeroValue107
  t53 := Tryz.underlying110
  a53 := Tryz.isAgg110
  z53 := Tryz.sizeOf110
  v53 := Tryz.zeroValue110
  t75 := Tryz.underlying27
  a75 := Tryz.isAgg27
  z75 := Tryz.sizeOf27
  v75 := Tryz.zeroValue27
  t76 := Tryz.underlying75
  a76 := Tryz.isAgg75
  z76 := Tryz.sizeOf75
  v76 := Tryz.zeroValue75
  t85 := Tryz.underlying138
  a85 := Tryz.isAgg138
  z85 := Tryz.sizeOf138
  v85 := Tryz.zeroValue138
  t127 := Tryz.underlying98
  a127 := Tryz.isAgg98
  z127 := Tryz.sizeOf98
  v127 := Tryz.zeroValue98
  t143 := Tryz.underlying171
  a143 := Tryz.isAgg171
  z143 := Tryz.sizeOf171
  v143 := Tryz.zeroValue171
  t145 := Tryz.underlying173
  a145 := Tryz.isAgg173
  z145 := Tryz.sizeOf173
  v145 := Tryz.zeroValue173
  t167 := Tryz.underlying137
  a167 := Tryz.isAgg137
  z167 := Tryz.sizeOf137
  v167 := Tryz.zeroValue137
  t168 := Tryz.underlying140
  a168 := Tryz.isAgg140
  z168 := Tryz.sizeOf140
  v168 := Tryz.zeroValue140
  t171 := Tryz.underlying178
  a171 := Tryz.isAgg178
  z171 := Tryz.sizeOf178
  v171 := Tryz.zeroValue178
  t173 := Tryz.underlying181
  a173 := Tryz.isAgg181
  z173 := Tryz.sizeOf181
  v173 := Tryz.zeroValue181
  t175 := Tryz.underlying161
  a175 := Tryz.isAgg161
  z175 := Tryz.sizeOf161
  v175 := Tryz.zeroValue161
  t210 := Tryz.underlying165
  a210 := Tryz.isAgg165
  z210 := Tryz.sizeOf165
  v210 := Tryz.zeroValue165
  t212 := Tryz.underlying188
  a212 := Tryz.isAgg188
  z212 := Tryz.sizeOf188
  v212 := Tryz.zeroValue188
  t213 := Tryz.underlying189
  a213 := Tryz.isAgg189
  z213 := Tryz.sizeOf189
  t232 := Tryz.underlying193
  a232 := Tryz.isAgg193
  z232 := Tryz.sizeOf193
  v232 := Tryz.zeroValue193
  t233 := Tryz.underlying194
  a233 := Tryz.isAgg194
  z233 := Tryz.sizeOf194
  v233 := Tryz.zeroValue194
  g15 := by kernel_rfl
  g16 := by kernel_rfl
  g17 := by kernel_rfl
  g18 := by kernel_rfl
  g19 := by kernel_rfl
  t80 := Tryz.underlying79
  a80 := Tryz.isAgg79
  z80 := Tryz.sizeOf79
  v80 := Tryz.zeroValue79
  i0 := by kernel_rfl
  i2 := by kernel_rfl
  i3 := by kernel_rfl
  i4 := by kernel_rfl
  i5 := by kernel_rfl
  i9 := by kernel_rfl
  i20 := by kernel_rfl
  i21 := by kernel_rfl
  i37 := by kernel_rfl
  i46 := by kernel_rfl
  i51 := by kernel_rfl
  i53 := by kernel_rfl
  i75 := by kernel_rfl
  i76 := by kernel_rfl
  i80 := by kernel_rfl
  i85 := by kernel_rfl
  i127 := by kernel_rfl
  i143 := by kernel_rfl
  i145 := by kernel_rfl
  i167 := by kernel_rfl
  i168 := by kernel_rfl
  i171 := by kernel_rfl
  i173 := by kernel_rfl
  i175 := by kernel_rfl
  i210 := by kernel_rfl
  i212 := by kernel_rfl
  i232 := by kernel_rfl
  i233 := by kernel_rfl
  m15 := by kernel_rfl
  m16 := by kernel_rfl
  m17 := by kernel_rfl
  m18 := by kernel_rfl
  m19 := by kernel_rfl
  c0 := by kernel_rfl
  c2 := by kernel_rfl
  c3 := by kernel_rfl
  c4 := by kernel_rfl
  c5 := by kernel_rfl
  c9 := by kernel_rfl
  c20 := by kernel_rfl
  c21 := by kernel_rfl
  c37 := by kernel_rfl
  c46 := by kernel_rfl
  c51 := by kernel_rfl
  c53 := by kernel_rfl
  c75 := by kernel_rfl
  c76 := by kernel_rfl
  c80 := by kernel_rfl
  c85 := by kernel_rfl
  c127 := by kernel_rfl
  c143 := by kernel_rfl
  c145 := by kernel_rfl
  c167 := by kernel_rfl
  c168 := by kernel_rfl
  c171 := by kernel_rfl
  c173 := by kernel_rfl
  c175 := by kernel_rfl
  c210 := by kernel_rfl
  c212 := by kernel_rfl
  c213 := by kernel_rfl
  c232 := by kernel_rfl
  c233 := by kernel_rfl }
open Go.RowKit in
theorem Tryz.strconv_Atoi_ok (s : ByteArray) (hmax : s.size ≤ 9223372036854775806) (v : Int) (h : Lib.atoiAll s.data.toList = .ok v) (w : World) :
    Calls Tryz.prog 43 #[.string s] w fun e w' => e = .returned (.tuple #[.int .i64 v, .nilIface]) ∧ (w' = w ∨ ∃ t, w' = Lib.bytesWorld w 5 t) := Any.strconv_Atoi_ok Tryz.laysC172 s hmax v h w
open Go.RowKit in
theorem Tryz.strconv_Atoi_syntax (s : ByteArray) (hlim : s.size ≤ 281474976710656) (h : Lib.atoiAll s.data.toList = Lib.NumEnd.syntax) (ev : Value) (w : World) (hv : w.cell? ⟨17, 0, none⟩ = some ev) (hev : ev = .nilIface ∨ ∃ te pe, ev = .iface te pe) :
    Calls Tryz.prog 43 #[.string s] w fun e w' => ∃ N, e = .returned (.tuple #[.int .i64 (0), .iface 140 (.pointer (some ⟨N, 0, none⟩))]) ∧ w.heap.size ≤ N ∧ w'.heap[N]? = some (.cells #[.string ⟨#[65, 116, 111, 105]⟩, .string s, ev] 165 (0, 0)) ∧ Below w.heap.size w w' := Any.strconv_Atoi_syntax Tryz.laysC172 s hlim h ev w hv hev
open Go.RowKit in
theorem Tryz.strconv_Atoi_range (s : ByteArray) (hlim : s.size ≤ 281474976710656) (h : Lib.atoiAll s.data.toList = .range) (ev : Value) (w : World) (hv : w.cell? ⟨18, 0, none⟩ = some ev) (hev : ev = .nilIface ∨ ∃ te pe, ev = .iface te pe) :
    Calls Tryz.prog 43 #[.string s] w fun e w' => ∃ N, e = .returned (.tuple #[.int .i64 (Lib.atoiSat s.data.toList), .iface 140 (.pointer (some ⟨N, 0, none⟩))]) ∧ w.heap.size ≤ N ∧ w'.heap[N]? = some (.cells #[.string ⟨#[65, 116, 111, 105]⟩, .string s, ev] 165 (0, 0)) ∧ Below w.heap.size w w' := Any.strconv_Atoi_range Tryz.laysC172 s hlim h ev w hv hev
def Tryz.lays264_ren : Go.Shelf.Ren := ⟨fun | 264 => 53 | n => n, fun | 53 => 110 | 46 => 89 | n => n, fun | n => n⟩
theorem Tryz.lays264 : Go.Proofs.Lays.n264 Tryz.prog Tryz.lays264_ren := {
  mixed := by kernel_rfl
  f264 := Tryz.func53.trans (congrArg some (by kernel_rfl))
  t46 := Tryz.underlying89
  a46 := Tryz.isAgg89
  z46 := Tryz.sizeOf89
  v46 := Tryz.zeroValue89
  t53 := Tryz.underlying110
  a53 := Tryz.isAgg110
  z53 := Tryz.sizeOf110
  v53 := Tryz.zeroValue110 }
open Go.RowKit Go.Lib in
theorem Tryz.bits_Mul64 (x y : Nat) (hx : x < 18446744073709551616) (hy : y < 18446744073709551616) (w : World) :
    Calls Tryz.prog 53 #[.int .u64 x, .int .u64 y] w fun e w' => e = .returned (.tuple #[.int .u64 ((x * y / 18446744073709551616 : Nat) : Int), .int .u64 ((x * y % 18446744073709551616 : Nat) : Int)]) ∧ w' = w := Any.bits_Mul64 Tryz.lays264 x y hx hy w
def Tryz.lays212_ren : Go.Shelf.Ren := ⟨fun | 212 => 39 | 263 => 52 | 264 => 53 | n => n, fun | 46 => 89 | 51 => 107 | 146 => 108 | 53 => 110 | 148 => 111 | n => n, fun | n => n⟩
theorem Tryz.lays212 : Go.Proofs.Lays.n212 Tryz.prog Tryz.lays212_ren := {
  mixed := by kernel_rfl
  f212 := Tryz.func39.trans (congrArg some (by kernel_rfl))
  f263 := Tryz.func52.trans (congrArg some (by kernel_rfl))
  f264 := Tryz.func53.trans (congrArg some (by kernel_rfl))
  t46 := Tryz.underlying89
  a46 := Tryz.isAgg89
  z46 := Tryz.sizeOf89
  v46 := Tryz.zeroValue89
  t51 := Tryz.underlying107
  a51 := Tryz.isAgg107
  z51 := Tryz.sizeOf107
  v51 := Tryz.zeroValue107
  t53 := Tryz.underlying110
  a53 := Tryz.isAgg110
  z53 := Tryz.sizeOf110
  v53 := Tryz.zeroValue110
  t146 := Tryz.underlying108
  a146 := Tryz.isAgg108
  z146 := Tryz.sizeOf108
  v146 := Tryz.zeroValue108
  t148 := Tryz.underlying111
  a148 := Tryz.isAgg111
  z148 := Tryz.sizeOf111
  v148 := Tryz.zeroValue111 }
open Go.RowKit Go.Lib in
theorem Tryz.bits_Mul (x y : Nat) (hx : x < 18446744073709551616) (hy : y < 18446744073709551616) (w : World) :
    Calls Tryz.prog 39 #[.int .u64 x, .int .u64 y] w fun e w' => e = .returned (.tuple #[.int .u64 ((x * y / 18446744073709551616 : Nat) : Int), .int .u64 ((x * y % 18446744073709551616 : Nat) : Int)]) ∧ w' = w := Any.bits_Mul Tryz.lays212 x y hx hy w
def Tryz.lays105_ren : Go.Shelf.Ren := ⟨fun | 105 => 22 | 212 => 39 | 99 => 40 | 165 => 41 | 166 => 28 | 170 => 42 | 169 => 30 | 263 => 52 | 264 => 53 | 206 => 54 | 240 => 46 | 241 => 55 | 276 => 62 | 277 => 70 | n => n, fun | 9 => 9 | 3 => 3 | 4 => 4 | 20 => 20 | 0 => 0 | 46 => 89 | 109 => 90 | 5 => 5 | 72 => 74 | 76 => 75 | 51 => 107 | 146 => 108 | 53 => 110 | 148 => 111 | 70 => 71 | 37 => 72 | 75 => 27 | 127 => 98 | 164 => 121 | 80 => 79 | n => n, fun | n => n⟩
theorem Tryz.lays105 : Go.Proofs.Lays.n105 Tryz.prog Tryz.lays105_ren := {
  mixed := by kernel_rfl
  f99 := Tryz.func40.trans (congrArg some (by kernel_rfl))
  f105 := Tryz.func22.trans (congrArg some (by kernel_rfl))
  f165 := Tryz.func41.trans (congrArg some (by kernel_rfl))
  f166 := Tryz.func28.trans (congrArg some (by kernel_rfl))
  f169 := Tryz.func30.trans (congrArg some (by kernel_rfl))
  f170 := Tryz.func42.trans (congrArg some (by kernel_rfl))
  f206 := Tryz.func54.trans (congrArg some (by kernel_rfl))
  f212 := Tryz.func39.trans (congrArg some (by kernel_rfl))
  f240 := Tryz.func46.trans (congrArg some (by kernel_rfl))
  f241 := Tryz.func55.trans (congrArg some (by kernel_rfl))
  f263 := Tryz.func52.trans (congrArg some (by kernel_rfl))
  f264 := Tryz.func53.trans (congrArg some (by kernel_rfl))
  f276 := Tryz.func62.trans (congrArg some (by kernel_rfl))
  f277 := Tryz.func70.trans (congrArg some (by kernel_rfl))
  t0 := Tryz.underlying0
  a0 := Tryz.isAgg0
  z0 := Tryz.sizeOf0
  v0 := Tryz.zeroValue0
  t3 := Tryz.underlying3
  a3 := Tryz.isAgg3
  z3 := Tryz.sizeOf3
  v3 := Tryz.zeroValue3
  t4 := Tryz.underlying4
  a4 := Tryz.isAgg4
  z4 := Tryz.sizeOf4
  v4 := Tryz.zeroValue4
  t5 := Tryz.underlying5
  a5 := Tryz.isAgg5
  z5 := Tryz.sizeOf5
  v5 := Tryz.zeroValue5
  t9 := Tryz.underlying9
  a9 := Tryz.isAgg9
  z9 := Tryz.sizeOf9
  v9 := Tryz.zeroValue9
  t20 := Tryz.underlying20
  a20 := Tryz.isAgg20
  z20 := Tryz.sizeOf20
  v20 := Tryz.zeroValue20
  t37 := Tryz.underlying72
  a37 := Tryz.isAgg72
  z37 := Tryz.sizeOf72
  v37 := Tryz.zeroValue72
  t46 := Tryz.underlying89
  a46 := Tryz.isAgg89
  z46 := Tryz.sizeOf89
  v46 := Tryz.zeroValue89
  t51 := Tryz.underlying107
  a51 := Tryz.isAgg107
  z51 := Tryz.sizeOf107
  v51 := Tryz.zeroValue107
  t53 := Tryz.underlying110
  a53 := Tryz.isAgg110
  z53 := Tryz.sizeOf110
  v53 := Tryz.zeroValue110
  t70 := Tryz.underlying71
  a70 := Tryz.isAgg71
  z70 := Tryz.sizeOf71
  v70 := Tryz.zeroValue71
  t72 := Tryz.underlying74
  a72 := Tryz.isAgg74
  z72 := Tryz.sizeOf74
  v72 := Tryz.zeroValue74
  t75 := Tryz.underlying27
  a75 := Tryz.isAgg27
  z75 := Tryz.sizeOf27
  v75 := Tryz.zeroValue27
  t76 := Tryz.underlying75
  a76 := Tryz.isAgg75
  z76 := Tryz.sizeOf75
  v76 := Tryz.zeroValue75
  t109 := Tryz.underlying90
  a109 := Tryz.isAgg90
  z109 := Tryz.sizeOf90
  v109 := Tryz.zeroValue90
  t127 := Tryz.underlying98
  a127 := Tryz.isAgg98
  z127 := Tryz.sizeOf98
  v127 := Tryz.zeroValue98
  t146 := Tryz.underlying108
  a146 := Tryz.isAgg108
  z146 := Tryz.sizeOf108
  v146 := Tryz.zeroValue108
  t148 := Tryz.underlying111
  a148 := Tryz.isAgg111
  z148 := Tryz.sizeOf111
  v148 := Tryz.zeroValue111
  t164 := Tryz.underlying121
  a164 := Tryz.isAgg121
  z164 := Tryz.sizeOf121
  v164 := Tryz.zeroValue121 }
theorem Tryz.Builder_Extra_105 : Builder.Extra Tryz.prog Tryz.lays105_ren := {
  sizeBuilder := by kernel_rfl
  liesBuilder := by kernel_rfl
  t5 := Tryz.underlying5
  a5 := Tryz.isAgg5
  z5 := Tryz.sizeOf5
  v5 := Tryz.zeroValue5
  infoByte := by kernel_rfl
  cellsByte := by kernel_rfl
  sizeByte := by kernel_rfl
  neB5 := by decide }
open Go.RowKit Go.Lib in
theorem Tryz.strings_Repeat_main (s : ByteArray) (c : Nat) (w : World) (hc2 : 2 ≤ c) (hc : c ≤ 9223372036854775807) (hlen : s.size * c ≤ 140737488355328) (h0 : 0 < s.size) :
    Calls Tryz.prog 22 #[.string s, .int .i64 c] w fun e w' => e = .returned (.string ⟨(Lib.repeatL s.data.toList c).toArray⟩) ∧ Below w.heap.size w w' := Any.strings_Repeat_main Tryz.lays105 Tryz.Builder_Extra_105 s c w hc2 hc hlen h0
open Go.RowKit Go.Lib in
theorem Tryz.strings_Repeat_zero (s : ByteArray) (w : World) :
    Calls Tryz.prog 22 #[.string s, .int .i64 0] w fun e w' => e = .returned (.string ⟨#[]⟩) ∧ w' = w := Any.strings_Repeat_zero Tryz.lays105 s w
open Go.RowKit Go.Lib in
theorem Tryz.strings_Repeat_one (s : ByteArray) (w : World) :
    Calls Tryz.prog 22 #[.string s, .int .i64 1] w fun e w' => e = .returned (.string s) ∧ w' = w := Any.strings_Repeat_one Tryz.lays105 s w
open Go.RowKit Go.Lib in
theorem Tryz.strings_Repeat_empty (s : ByteArray) (c : Nat) (w : World) (hc2 : 2 ≤ c) (hc : c ≤ 9223372036854775807) (h0 : s.size = 0) :
    Calls Tryz.prog 22 #[.string s, .int .i64 c] w fun e w' => e = .returned (.string ⟨#[]⟩) ∧ w' = w := Any.strings_Repeat_empty Tryz.lays105 s c w hc2 hc h0
open Go.RowKit Go.Lib in
theorem Tryz.strings_Repeat (s : ByteArray) (c : Nat) (w : World) (hc : c ≤ 9223372036854775807) (hlen : s.size * c ≤ 140737488355328) :
    Calls Tryz.prog 22 #[.string s, .int .i64 c] w fun e w' => e = .returned (.string ⟨(Lib.repeatL s.data.toList c).toArray⟩) ∧ Below w.heap.size w w' := Any.strings_Repeat Tryz.lays105 Tryz.Builder_Extra_105 s c w hc hlen
end Go.Proofs

namespace Go.Proofs.YtemnibnlgimpkaaGreatDoor
open Go.RowKit
/- Go's library for package disk: strings.Repeat of a nought, slices.Repeat of one text, slices.Clone by contracts. -/

theorem repeatL_nul : ∀ c : Nat, Lib.repeatL [(0 : UInt8)] c = List.replicate c 0
  | 0 => by simp [Lib.repeatL]
  | c + 1 => by
    have h := repeatL_nul c
    show [(0 : UInt8)] ++ Lib.repeatL [0] c = _
    rw [h, List.replicate_succ]; rfl
theorem nuls_any (c : Nat) (w : World) (hc : c ≤ 1000) : Calls Tryz.prog 22 #[.string ⟨#[0]⟩, .int .i64 (c : Int)] w fun e w' => e = .returned (.string (zerosB c)) ∧ Chg Nil w w' := by
  refine (Go.Proofs.Tryz.strings_Repeat ⟨#[0]⟩ c w (by omega) (by show 1 * c ≤ _; omega)).mono ?_
  rintro e w' ⟨rfl, hb⟩
  refine ⟨?_, Chg.of_below hb (fun x h1 h2 => by omega)⟩
  have : Lib.repeatL (⟨#[0]⟩ : ByteArray).data.toList c = List.replicate c 0 := repeatL_nul c
  rw [this]; rfl

def strC (s : ByteArray) : List Value := [.string s]
theorem strC_len (s : ByteArray) : (strC s).length = 1 := rfl
theorem strC_ones (l : List ByteArray) : ∀ u ∈ l.flatMap strC, u.oneCell' = true := fun u hu => by
  obtain ⟨p, _, hp⟩ := List.mem_flatMap.1 hu
  simp [strC] at hp; subst hp; rfl
theorem info_str : (Tryz.prog.info? 9).map (fun i => (i.zero, i.size, i.bytes)) = some (some (.string ⟨#[]⟩), 1, 16) := by kernel_rfl

/-- A copy of a slice: the same elements, in new memory. -/
def ClonePost (w : World) (E size n : Nat) (xs : List Value) (e : Ending) (w' : World) : Prop :=
  ∃ v S, e = .returned v ∧ Chg Nil w w' ∧ SliceAt w' v E size n xs S ∧ ∀ x, S x → w.heap.size ≤ x ∧ x < w'.heap.size
theorem SliceAt.cellsOf {w : World} {g off n cap E size : Nat} {xs : List Value} {S : Nat → Prop} (h : SliceAt w (.slice (some ⟨g, off, none⟩) n cap) E size n xs S) : ∀ j u, xs[j]? = some u → w.cell? ((⟨g, off, none⟩ : Addr).add j) = some u := by
  intro j u hj
  obtain ⟨_, ⟨e, _⟩ | ⟨g', off', cap', cs, e, hb, _, _, _, h5, _⟩⟩ := h
  · cases e
  cases e
  rw [Addr.add_lit, cell_of hb]; exact h5 j u hj
theorem SliceAt.few {w : World} {g off n cap E size : Nat} {xs : List Value} {S : Nat → Prop} (h : SliceAt w (.slice (some ⟨g, off, none⟩) n cap) E size n xs S) : n ≤ maxLen := by
  obtain ⟨_, ⟨e, _⟩ | ⟨g', off', cap', cs, e, hb, h1, h2, _⟩⟩ := h
  · cases e
  cases e; omega
theorem clone_done {w w2 : World} {E size n : Nat} {xs : List Value} {v : Value} {S : Nat → Prop} {T : TypeId} (hs : SliceAt w2 v E size n xs S) (hc : Chg (· = w.heap.size) (w.alloc (.cells #[] T)) w2) (hg : Grow (· = w.heap.size) S (w.alloc (.cells #[] T)) w2) : ClonePost w E size n xs (.returned v) w2 := by
  have hz := hc.size
  simp at hz
  refine ⟨v, S, rfl, ((Chg.refl Nil w).alloc _).trans hc (fun x hx e => by have : x = w.heap.size := e; omega), hs, fun x hx => ?_⟩
  rcases hg x hx with h | h
  · have : x = w.heap.size := h; omega
  · simp at h; omega
theorem sliceAt_made (w : World) (T E size : Nat) : SliceAt (w.alloc (.cells #[] E)) (.slice (some ⟨w.heap.size, 0, none⟩) 0 0) E size 0 [] (· = w.heap.size) :=
  ⟨by simp, .inr ⟨w.heap.size, 0, 0, #[], rfl, block_alloc _ _, Nat.le_refl _, by unfold maxLen; omega, by simp, fun j u h => (by cases h), rfl⟩⟩

theorem clone_str (v : Value) (n : Nat) (xs : List Value) (S : Nat → Prop) (w : World) (hs : SliceAt w v 9 1 n xs S) (h1 : ∀ u ∈ xs, u.oneCell' = true) (hb : n * 16 ≤ 140737488355328) :
    Calls Tryz.prog 23 #[v] w (ClonePost w 9 1 n xs) := by
  have hl := hs.1
  have HS := Lib.hid hs
  obtain ⟨_, ⟨rfl, rfl⟩ | ⟨g, off, cap, cs, rfl, _⟩⟩ := hs
  · have hq := fun W => Lib.run_eql_slice_nil (P := Tryz.prog) W 31 9 none 0 0 0 0 Tryz.underlying31
    have hx : xs = [] := by simpa using hl
    subst hx
    clear hl
    go_enter Tryz.func23, Tryz.ntmps23
    go_wp2_with fail
    go_ret
    exact ⟨_, Nil, rfl, Chg.refl _ _, sliceAt_nil _ _ _ _, fun x f => f.elim⟩
  · have hq := fun W => Lib.run_eql_slice_nil (P := Tryz.prog) W 31 9 (some ⟨g, off, none⟩) n cap 0 0 Tryz.underlying31
    have HL := Lib.hid hl
    have hnm := HS.out.few
    clear hl
    go_enter Tryz.func23, Tryz.ntmps23
    go_wp2_with (at_builtin; refine wpList_appendS rfl _ _ 31 rfl Tryz.underlying31 info_str rfl (by decide) rfl (sliceAt_made w 9 9 1) rfl xs HL.out ((HS.out.keep ((Chg.refl Nil w).alloc _) (fun _ _ f => f)).cellsOf) h1 (by omega) (by omega) ?_; intro v2 w2 S2 hs2 hc2 hg2; simp only [Nat.zero_add, List.nil_append] at hs2)
    go_ret
    exact clone_done hs2 hc2 hg2

/-! ### slices.Repeat of one text -/
def repL (n k : Nat) (z : ByteArray) : List Value := List.replicate k (.string z) ++ List.replicate (n - k) (.string ⟨#[]⟩)
theorem repL_len (n k : Nat) (z : ByteArray) (hk : k ≤ n) : (repL n k z).length = n := by simp [repL]; omega
theorem repL_step (n k m : Nat) (z : ByteArray) (hm : k + m ≤ n) : splice (repL n k z) k (List.replicate m (.string z)) = repL n (k + m) z := by
  have h1 : (repL n k z).take k = List.replicate k (.string z) := by unfold repL; rw [List.take_left' (by simp)]
  have h2 : (repL n k z).drop (k + m) = List.replicate (n - (k + m)) (.string ⟨#[]⟩) := by
    unfold repL
    rw [List.drop_append, List.drop_eq_nil_of_le (by rw [List.length_replicate]; omega), List.nil_append, List.drop_replicate, List.length_replicate]
    congr 1; omega
  unfold splice
  rw [List.length_replicate, h1, h2]
  unfold repL
  rw [← List.append_assoc, List.replicate_append_replicate]
theorem mk_strs (w : World) (m : Nat) (hm : m ≤ 4000) :
    (Instr.makeSlice 31 (.int .i64 (m : Int)) (.int .i64 (m : Int))).run Tryz.prog w = .ok (.slice (some ⟨w.heap.size, 0, none⟩) m m) (w.alloc (.cells (repL m 0 ⟨#[]⟩).toArray 9)) := by
  obtain ⟨i, hi, hz0, hz1, hz2⟩ := info_parts info_str
  have h := run_make (P := Tryz.prog) w 31 9 i (.string ⟨#[]⟩) Tryz.underlying31 hi hz0 .i64 .i64 m m (by omega) (by omega) (by rw [hz2]; omega) (by omega)
  rw [h]
  have e : madeCells (Value.cells (.string ⟨#[]⟩)) ((m : Int).toNat * i.size) = (repL m 0 ⟨#[]⟩).toArray := by
    rw [hz1]
    apply Array.ext
    · simp [madeCells, repL]
    · intro i h1 h2
      simp [madeCells, Value.cells, Nat.mod_one, repL]
  rw [e]; simp
theorem size_str : (Tryz.prog.info? 9).map (·.size) = some 1 := by kernel_rfl
def RelRep (n : Nat) (z : ByteArray) (w : World) (v : Value) (wr : World) : Prop :=
  ∃ k : Nat, 1 ≤ k ∧ k ≤ n ∧ v = .int .i64 k ∧ Below w.heap.size w wr ∧ wr.heap[w.heap.size]? = some (.cells (repL n k z).toArray 9 (0, 0))

theorem srepeat_any (n xb : Nat) (z : ByteArray) (w : World) (h1 : 1 ≤ n) (h2 : n ≤ 4000) (hx : w.cell? ⟨xb, 0, none⟩ = some (.string z)) :
    Calls Tryz.prog 21 #[.slice (some ⟨xb, 0, none⟩) 1 1, .int .i64 n] w fun e w' =>
      e = .returned (.slice (some ⟨w.heap.size, 0, none⟩) n n) ∧ Chg Nil w w' ∧ w'.heap[w.heap.size]? = some (.cells (List.replicate n (.string z)).toArray 9 (0, 0)) := by
  have hxl := World.block_lt_of_cell? _ _ hx
  have hmk := mk_strs w n h2
  have hI1 : (0 : Int) ≤ (n : Int) := by omega
  have hI2 : (n : Int) ≤ 4000 := by omega
  go_enter Tryz.func21, Tryz.ntmps21
  go_wp2_with fail
  refine (Go.Proofs.Tryz.bits_Mul 1 n (by omega) (by omega) _).mono ?_
  rintro e w' ⟨rfl, hw⟩
  have hw2 := hw.symm
  clear hw
  subst hw2
  have e1 : 1 * n / 18446744073709551616 = 0 := by omega
  have e2 : 1 * n % 18446744073709551616 = n := by omega
  rw [e1, e2]
  clear e1 e2
  obtain ⟨g, hg⟩ : ∃ g, g = w.heap.size := ⟨_, rfl⟩
  have hba : (w.alloc (.cells (repL n 0 ⟨#[]⟩).toArray 9)).heap[g]? = some (.cells (repL n 0 ⟨#[]⟩).toArray 9 (0, 0)) := by rw [hg]; exact block_alloc _ _
  have hxa : (w.alloc (.cells (repL n 0 ⟨#[]⟩).toArray 9)).cell? ⟨xb, 0, none⟩ = some (.string z) := (((Chg.refl Nil w).alloc _).cell (p := ⟨xb, 0, none⟩) hxl (fun f => f)).trans hx
  have hz : ∀ j u, [Value.string z][j]? = some u → (w.alloc (.cells (repL n 0 ⟨#[]⟩).toArray 9)).cell? ((⟨xb, 0, none⟩ : Addr).add j) = some u := by
    intro j u hj
    rcases j with _ | j
    · simp only [List.getElem?_cons_zero, Option.some.injEq] at hj; subst hj; simpa [Addr.add] using hxa
    · simp at hj
  have HBA := Lib.hid hba
  have HHZ := Lib.hid hz
  have HGG := Lib.hid hg
  rw [← hg] at hmk
  clear hba hz hxa hg
  go_wp2_with (refine wpList_copy_splice (o := ⟨some 33, _, _, _, _, _⟩) rfl (.tmp 31) (.tmp 32) 31 31 rfl 9 Tryz.underlying31 size_str (some ⟨g, 0, none⟩) (some ⟨xb, 0, none⟩) n n 1 1 rfl rfl g 0 (repL n 0 ⟨#[]⟩) 9 HBA.out [.string z] (Nat.min_eq_left h1).symm (fun _ => ⟨rfl, _, rfl, HHZ.out⟩) (by rw [repL_len _ _ _ (by omega)]; show 0 + 1 ≤ n; omega) (by intro u hu; simp only [List.mem_singleton] at hu; subst hu; rfl) w.heap.size w ((Below.refl _ _).alloc (Nat.le_refl _) _) (by rw [HGG.out]; exact Nat.le_refl _) ?_; intro w2 HW2 hB2)
  have hE : splice (repL n 0 ⟨#[]⟩) 0 [.string z] = repL n 1 z := (show splice (repL n 0 z) 0 (List.replicate 1 (.string z)) = _ from repL_step n 0 1 z (by omega))
  have hW2 := HW2.out
  rw [hE] at hW2
  have HW := Lib.hid hW2
  have h1n : (1 : Nat) ≤ n := h1
  clear hE hW2
  go_loopw [8] (fun v wr => RelRep n z w v wr) (fun v _ => (n - intOf v).toNat)
  case atStart => exact ⟨1, Nat.le_refl _, h1n, rfl, hB2, by have := HW.out; rw [HGG.out] at this; exact this⟩
  case round =>
    clear hxl hx hB2 HW HW2 HBA HHZ
    obtain ⟨k, hk1, hk2, rfl, hBr, hbr⟩ := hrel
    rw [← HGG.out] at hbr
    have HBR := Lib.hid hbr
    clear hbr hmk
    rcases Nat.lt_or_ge k n with hlt | hge
    · obtain ⟨m, hm⟩ : ∃ m, m = Nat.min k (n - k) := ⟨_, rfl⟩
      have hm1 : m ≤ n - k := by rw [hm]; exact Nat.min_le_right _ _
      have hm2 : m ≤ k := by rw [hm]; exact Nat.min_le_left _ _
      have hm3 : 1 ≤ m := by rw [hm]; exact Nat.le_min.2 ⟨hk1, by omega⟩
      have hwr : IntKind.i64.wrap ((k : Int) + (m : Int)) = ((k + m : Nat) : Int) := by rw [IntWalk.i64_in _ (by omega)]; rfl
      have hnk : ¬ n = k := by omega
      have hlen : (List.replicate m (Value.string z)).length = Nat.min k (n - k) := by rw [List.length_replicate, hm]
      have HBD : wr.drew.heap[g]? = some (.cells (repL n k z).toArray 9 (0, 0)) := HBR.out
      have hBd : Below w.heap.size w wr.drew := hBr.drew
      have hcs : ∀ j v, (List.replicate m (Value.string z))[j]? = some v → wr.drew.cell? ((⟨g, 0, none⟩ : Addr).add j) = some v := by
        intro j v hj
        rw [List.getElem?_replicate] at hj
        split at hj
        · cases hj
          rw [Addr.add_lit, cell_of HBD, Nat.zero_add]
          simp only [List.getElem?_toArray]
          unfold repL
          rw [List.getElem?_append_left (by rw [List.length_replicate]; omega), List.getElem?_replicate, if_pos (by omega)]
        · cases hj
      have hfit : k + (List.replicate m (Value.string z)).length ≤ (repL n k z).length := by rw [List.length_replicate, repL_len _ _ _ hk2]; omega
      have HM := Lib.hid hm
      have HL := Lib.hid hlen
      have HCS := Lib.hid hcs
      have HF := Lib.hid hfit
      have HWR := Lib.hid hwr
      have HBD' := Lib.hid HBD
      clear hm hlen hcs hfit hwr HBD
      go_wp2_with fail
      go_region_law (refine step_copy_splice (by rfl) (.tmp 41) (.tmp 44) 31 31 (by rfl) 9 Tryz.underlying31 size_str (some ⟨g, k, none⟩) (some ⟨g, 0, none⟩) (n - k) (n - k) k n (by simp [Act.put, Act.eval]) (by simp [Act.put, Act.eval]) g k (repL n k z) 9 HBD'.out (List.replicate m (.string z)) HL.out (fun _ => ⟨rfl, _, rfl, HCS.out⟩) HF.out (by intro u hu; rw [List.eq_of_mem_replicate hu]; rfl) w.heap.size w hBd (by rw [HGG.out]; exact Nat.le_refl _) ?_; intro w3 HW3 hB3; rw [List.length_replicate])
      rw [HWR.out]
      go_simp
      go_roundw
      case rel =>
        refine ⟨_, _, _, _, _, _, _, _, _, _, _, _, _, _, ?_, rfl⟩
        refine ⟨k + m, by omega, by omega, rfl, hB3, ?_⟩
        have h3 := HW3.out
        rw [repL_step n k m z (by omega), HGG.out] at h3
        exact h3
      case measure => simp [intOf]; omega
    · obtain rfl : k = n := by omega
      go_wp2_with fail
      go_ret
      refine ⟨by rw [HGG.out]; rfl, Chg.of_below hBr (fun x h1 h2 => by omega), ?_⟩
      have := HBR.out
      rw [HGG.out] at this
      rw [this]; simp [repL]


section
/- package xdr: the Writer's calls by contract. -/
open Go.RowKit Go.Lib

theorem and3 (n : Nat) (h : n ≤ 9223372036854775807) : bits .and .i64 (-(n : Int)) 3 = (((4 - n % 4) % 4 : Nat) : Int) := by
  have h1 : ((BitVec.ofInt 64 (-(n : Int))) &&& (3#64)).toNat = (4 - n % 4) % 4 := by
    rw [BitVec.toNat_and, show (3#64).toNat = 2 ^ 2 - 1 from rfl, Nat.and_two_pow_sub_one_eq_mod, BitVec.toNat_ofInt]
    omega
  show IntKind.i64.wrap _ = _
  have h2 : (BitVec.ofInt IntKind.i64.bits (-(n : Int)) &&& BitVec.ofInt IntKind.i64.bits 3).toNat = (4 - n % 4) % 4 := h1
  rw [h2, IntWalk.i64_in _ (by omega)]

def wInt (t : List UInt8) (n : Int) : List UInt8 × Nat := if n < 0 ∨ 4294967296 ≤ n then (t, 2) else wPut t (bigB 4 n.toNat)
def wLong (t : List UInt8) (n : Int) : List UInt8 × Nat := if n < 0 then (t, 2) else wPut t (bigB 8 n.toNat)
def itemB (s : ByteArray) : ByteArray := bigB 4 s.size ++ s ++ zerosB ((4 - s.size % 4) % 4)
theorem itemB_size (s : ByteArray) : (itemB s).size = 4 + s.size + (4 - s.size % 4) % 4 := by unfold itemB; rw [ByteArray.size_append, ByteArray.size_append, bigB_size, zerosB_size]
theorem WrPost.step {S : Nat → Prop} {w w1 w2 : World} {b : Nat} {t : List UInt8} (c : Chg Nil w w1) (p : WrPost S w1 b t w2) (hS : ∀ x, S x → x < w.heap.size) : WrPost S w b t w2 := by
  obtain ⟨c2, S2, h2, g2⟩ := p
  have := c.size
  exact ⟨c.nil.trans c2 (fun _ _ h => h), S2, h2, fun x hx => (g2 x hx).imp id (fun h => ⟨by omega, h.2⟩)⟩
theorem wr_lt {w : World} {b : Nat} {t : List UInt8} {S : Nat → Prop} (h : WrTx w b t S) : ∀ x, S x → x < w.heap.size := by obtain ⟨_, _, _, _, _, _, _, _, h⟩ := h; exact h
def wBool (t : List UInt8) (x : Bool) : List UInt8 × Nat := wInt t (if x then 1 else 0)
def wBytes (t : List UInt8) (s : ByteArray) : List UInt8 × Nat := wPut t (itemB s)

end
section
/- package xdr: the Writer's Text; law1's four; the reference's Item and IsInt. -/
open Go.RowKit Go.Lib

theorem strOf_txt (t : List UInt8) : strOfNums (t.map fun b => (b.toNat : Int)) = ⟨t.toArray⟩ := by
  simp [strOfNums, List.map_map, Function.comp_def]
theorem wr_new (w : World) (T : TypeId) : WrTx (w.alloc (.cells #[.slice none 0 0] T)) w.heap.size [] (· = w.heap.size) :=
  ⟨_, T, Nil, block_alloc w _, ownAt_nil _ _ _, fun f => f, fun _ f => f.elim, rfl, fun x e => by subst e; simp⟩
theorem wInt_258 : wInt [] 258 = ([0, 0, 1, 2], 0) := by decide
def RelPad (p : Nat) (w : World) (i : Value) (wr : World) : Prop := ∃ k : Nat, k ≤ p ∧ i = .int .i64 k ∧ Chg Nil w wr

end
/- A row of bytes, owned from its head, to which texts are appended (rTxt); it is read as a text; a loop unrolled. Over any program, no condition. -/

def rTxt (v : Value) (E : TypeId) (t : List UInt8) : Res :=
  ⟨true, fun x => v.ownBlock = some x, fun w => w.ownsRow 0 E 1 v t.length (txtC t), fun w w' h _ hb => by
    obtain ⟨h1, h2 | ⟨g, cap, cur, e, h3, hg, h4⟩⟩ := h
    · exact ⟨h1, .inl h2⟩
    · exact ⟨h1, .inr ⟨g, cap, cur, e, h3, (hb g (by rw [e]; rfl)).trans hg, h4⟩⟩, fun w b h hb => OwnAt.lt (S := fun _ => True) ⟨h, fun _ _ => trivial⟩ b hb⟩
section
variable {P : Program} {w0 w : World} {En : Ent} {L M : List Res} {a : Act} {K : Act → World → Prop} {Q : Exit → Act → World → Prop} {rest : List Oper} {ops : Array Oper} {dst : Option Tmp} {T U : TypeId} {s x : Operand} {ty : TypeId} {pos : String} {after : Array Edge} {g : Option (Nat × Bool)} {v : Value} {E : TypeId} {t : List UInt8}
theorem Own.nilTxt (h : Own w0 En M w) (E : TypeId) : Own w0 En (rTxt (.slice none 0 0) E [] :: M) w :=
  ⟨h.chg, h.mono, fun r hr => by
    rcases List.mem_cons.1 hr with rfl | hr
    · exact World.ownsRow_nil w 0 E 1
    · exact h.facts r hr, List.pairwise_cons.2 ⟨fun r _ _ b hb => (by cases hb), h.apart⟩, fun r hr b hb => by
    rcases List.mem_cons.1 hr with rfl | hr
    · cases hb
    · exact h.may r hr b hb⟩
theorem Own.slvT (h : Own w0 En L w) (i : Nat) (hi : L[i]? = some (rTxt v E t)) : OneV v := by
  obtain ⟨_, ⟨rfl, _⟩ | ⟨g, cap, cur, rfl, _⟩⟩ := (h.fact i hi : w.ownsRow 0 E 1 v t.length (txtC t))
  · exact ⟨rfl, rfl⟩
  · exact ⟨rfl, rfl⟩
theorem op_apptxt (str : ByteArray) (hx : (a.eval s, a.eval x, P.underlying T, P.underlying U, (P.info? E).map (fun i => (i.zero, i.size, i.bytes))) = (v, .string str, some (.slice E), some .string, some (some (.int .u8 0), 1, 1))) (h : Own w0 En L w) (i : Nat) (hi : L[i]? = some (rTxt v E t)) (hb : t.length + str.size ≤ 140737488355328)
    (hK : ∀ v' w', Own w0 En (L.set i (rTxt v' E (t ++ str.data.toList))) w' → K (a.put dst v') w') : Oper.wp P ⟨dst, .call { callee := .builtin .append, args := #[s, x], argTypes := #[T, U] }, ty, pos, after, g⟩ a w K Q := by
  simp only [Prod.mk.injEq] at hx
  obtain ⟨h1, h2, h3, h4, h5⟩ := hx
  obtain ⟨v', w', S', hrun, ⟨ho, hs'⟩, hc, hg⟩ := run_appendT (P := P) (ty := ty) (S := fun y => v.ownBlock = some y) h3 h4 h5 (v := v) (n := t.length) (xs := txtC t) ⟨h.fact i hi, fun y e => e⟩ str hb
  unfold Oper.wp
  simp [execOp, resolve, invoke, builtin, h1, h2, hrun, Result.andThen, Oper.upon]
  refine hK _ _ (h.upd i hi rfl hc ?_ (fun b hb => ?_))
  · show w'.ownsRow 0 E 1 v' (t ++ str.data.toList).length (txtC (t ++ str.data.toList))
    rw [← txtC_app, List.length_append, Array.length_toList]
    exact ho
  · rcases hg b (hs' b hb) with h | h
    · exact .inl h
    · exact .inr h.1
theorem sq_apptxt (str : ByteArray) (hg : Region.wanted ⟨dst, .call { callee := .builtin .append, args := #[s, x], argTypes := #[T, U] }, ty, pos, after, g⟩ (yielded ops a.tmps) = true) (hx : (a.eval s, a.eval x, P.underlying T, P.underlying U, (P.info? E).map (fun i => (i.zero, i.size, i.bytes))) = (v, .string str, some (.slice E), some .string, some (some (.int .u8 0), 1, 1))) (h : Own w0 En L w) (i : Nat) (hi : L[i]? = some (rTxt v E t)) (hb : t.length + str.size ≤ 140737488355328)
    (hK : ∀ v' w', Own w0 En (L.set i (rTxt v' E (t ++ str.data.toList))) w' → LW P ops Q rest (a.put dst v') w') : LW P ops Q (⟨dst, .call { callee := .builtin .append, args := #[s, x], argTypes := #[T, U] }, ty, pos, after, g⟩ :: rest) a w := ⟨sqg hg (op_apptxt str hx h i hi hb fun v' w' h => (hK v' w' h).out)⟩
theorem g_lentxt (hx : (a.eval x, P.underlying T) = (v, some (.slice E))) (i : Nat) (hi : L[i]? = some (rTxt v E t)) : Gives P w0 En L ⟨dst, .call { callee := .builtin .len, args := #[x], argTypes := #[T] }, ty, pos, after, g⟩ a (.int .i64 (t.length : Int)) := fun w h => by
  obtain ⟨h1, h2⟩ : a.eval x = v ∧ P.underlying T = _ := by simpa using hx
  have hs : ∃ ad cap, v = .slice ad t.length cap := by
    obtain ⟨_, ⟨rfl, e⟩ | ⟨g, cap, cur, rfl, _⟩⟩ := (h.fact i hi : w.ownsRow 0 E 1 v t.length (txtC t))
    · exact ⟨none, 0, by rw [e]⟩
    · exact ⟨_, cap, rfl⟩
  obtain ⟨ad, cap, e⟩ := hs
  subst e
  simp [execOp, resolve, invoke, builtin, Builtin.len_, h1, Sem.run_bind, run_underlying h2, goInt]
theorem g_convtxt (hx : (a.eval x, P.underlying T, P.underlying U, P.underlying E) = (v, some (.slice E), some .string, some (.int .u8))) (i : Nat) (hi : L[i]? = some (rTxt v E t)) : Gives P w0 En L ⟨dst, .convert T U x, ty, pos, after, g⟩ a (.string ⟨t.toArray⟩) := fun w h => by
  simp only [Prod.mk.injEq] at hx
  obtain ⟨h1, h2, h3, h4⟩ := hx
  obtain ⟨hl, ⟨rfl, hn⟩ | ⟨g, cap, cur, rfl, _, hgk, hnc, hcm, hcs, htake⟩⟩ := (h.fact i hi : w.ownsRow 0 E 1 v t.length (txtC t))
  · obtain rfl : t = [] := List.eq_nil_of_length_eq_zero hn
    have hcv := run_convert_bytes_nil (P := P) w T E h2 h4 0 0 U h3
    simp [execOp, h1, hcv, Result.andThen] <;> rfl
  · have hcv : (convert T U (.slice (some ⟨g, 0, none⟩) t.length cap)).run P w = .ok (.string ⟨t.toArray⟩) w := by
      have := run_convert_bytes_arg (P := P) w T E h2 h4 g 0 t.length cap (t.map fun b => (b.toNat : Int)) (by simp) (fun i hi => by
        rw [cell_of hgk]
        have h8 : (txtC t)[i]? = some (.int .u8 ((t[i]'hi).toNat : Int)) := by simp [txtC, hi]
        rw [← htake, List.getElem?_take, if_pos (by omega)] at h8
        simp only [Nat.zero_add]
        rw [← Array.getElem?_toList, h8]
        simp [List.getD, hi]) U h3
      rw [this, strOf_txt]
    simp [execOp, h1, hcv, Result.andThen] <;> rfl
end
/-! ### A loop, round by round -/
section
variable {P : Program} {Q : Exit → Act → World → Prop} {a : Act} {w : World} {c : Code}
def Unr (P : Program) (c : Code) (Q : Exit → Act → World → Prop) (n : Nat) : Exit → Act → World → Prop
  | .normal, a, w => Code.rounds P c Q n a w
  | e, a, w => Q e a w
theorem c_unroll (n : Nat) (h : CW P c (Unr P c Q n) a w) : CW P (.loop c) Q a w :=
  ⟨wp_loop_rounds (n + 1) (by rw [rounds_succ]; exact wp_mono h.out fun e a w hq => by cases e <;> exact hq)⟩
theorem unr_n {n : Nat} (h : CW P c (Unr P c Q n) a w) : Unr P c Q (n + 1) .normal a w := by
  show Code.rounds P c Q (n + 1) a w
  rw [rounds_succ]
  exact wp_mono h.out fun e a w hq => by cases e <;> exact hq
theorem unr_e {n id : Nat} (h : Q (.exit id) a w) : Unr P c Q n (.exit id) a w := h
theorem unr_r {n : Nat} (h : Q .ret a w) : Unr P c Q n .ret a w := h
theorem qp_unr {n : Nat} (h : QP Q) : QP (Unr P c Q n) := fun ch a d v w hq => h ch a d v w hq
theorem unr_p {n : Nat} {ch : List PanicEntry} (h : Q (.panic ch) a w) : Unr P c Q n (.panic ch) a w := h
end

/- strings.Builder by what is owned: its cell and its row; numbers as texts, texts as numbers, texts repeated and trimmed. No condition. -/
theorem bld_size : (Tryz.prog.info? 74).map (·.size) = some 2 := by kernel_rfl
theorem ccheck_used (b : Nat) (w : World) (h0 : w.cell? ⟨b, 0, none⟩ = some (.pointer (some ⟨b, 0, none⟩))) :
    Calls Tryz.prog 46 #[.pointer (some ⟨b, 0, none⟩)] w fun e w' => e = .returned (.tuple #[]) ∧ w' = w := by
  obtain ⟨j, hj, _⟩ := Option.map_eq_some_iff.1 bld_size
  go_enter Tryz.func46, Tryz.ntmps46
  go_wp2
  rw [Lib.run_neq_ptr_same w _ Tryz.underlying71 hj]
  go_wp2
  go_end0
  exact ⟨rfl, rfl⟩
theorem ccheck_fresh (b : Nat) (w : World) (h0 : w.cell? ⟨b, 0, none⟩ = some (.pointer none)) (hsh : w.shape? b = some (74, 2)) (hfz : w.frozen? ⟨b, 0, none⟩ = false) :
    Calls Tryz.prog 46 #[.pointer (some ⟨b, 0, none⟩)] w fun e w' => e = .returned (.tuple #[]) ∧ w' = w.setCell ⟨b, 0, none⟩ (.pointer (some ⟨b, 0, none⟩)) := by
  obtain ⟨j, hj, hjs⟩ := Option.map_eq_some_iff.1 bld_size
  go_enter Tryz.func46, Tryz.ntmps46
  go_wp2
  rw [Lib.run_to_unsafe w ⟨b, 0, none⟩ Tryz.underlying71 Tryz.underlying121 hj (by rw [hjs]; decide) hsh (Nat.zero_lt_succ 1)]
  simp only [Result.andThen]
  rw [Oper.upon_value]
  go_wp2
  rw [run_callFunc_extern Tryz.func62 (by kernel_rfl) (by kernel_rfl) (by kernel_rfl) (e := Extern.AbiNoEscape.same) (by kernel_rfl)]
  rw [Lib.run_noEscape]
  simp only [Result.andThen]
  rw [Oper.upon_value]
  go_wp2
  rw [Lib.run_from_unsafe w ⟨b, 0, none⟩ Tryz.underlying121 Tryz.underlying71 hj hsh (by kernel_rfl)]
  simp only [Result.andThen]
  rw [Oper.upon_value]
  go_wp2
  go_end0
  exact ⟨rfl, rfl⟩
/-- A builder's cell. -/
abbrev rBld (b : Nat) (p v : Value) : Res := rCell true b [p, v] 74
theorem ccheck_spec (b : Nat) (p v : Value) (hp : p = .pointer none ∨ p = .pointer (some ⟨b, 0, none⟩)) : Spec Tryz.prog 46 #[.pointer (some ⟨b, 0, none⟩)] [rBld b p v] fun u L => u = .tuple #[] ∧ L = [rBld b (.pointer (some ⟨b, 0, none⟩)) v] := fun E w0 w ho => by
  have hb : w.heap[b]? = some (.cells #[p, v] 74 (0, 0)) := ho.fact 0 rfl
  rcases hp with rfl | rfl
  · refine (ccheck_fresh b w (by rw [cell_of hb]; rfl) (by simp [World.shape?, hb]) (by rw [free_of hb])).mono fun e w' ⟨he, hw⟩ => ?_
    subst hw
    refine ⟨_, _, ⟨rfl, rfl⟩, he, ?_⟩
    have hc : Chg (· = b) w (w.setCell ⟨b, 0, none⟩ (.pointer (some ⟨b, 0, none⟩))) := (Chg.refl (· = b) w).setCell (.inr rfl) _
    have hf : (w.setCell ⟨b, 0, none⟩ (.pointer (some ⟨b, 0, none⟩))).heap[b]? = some (.cells #[.pointer (some ⟨b, 0, none⟩), v] 74 (0, 0)) := by
      have := block_setCell hb 0 (.pointer (some ⟨b, 0, none⟩))
      simpa using this
    exact ho.upd (i := 0) (r' := rBld b (.pointer (some ⟨b, 0, none⟩)) v) rfl rfl hc hf fun x hx => .inl hx
  · refine (ccheck_used b w (by rw [cell_of hb]; rfl)).mono fun e w' ⟨he, hw⟩ => ?_
    subst hw
    exact ⟨_, _, ⟨rfl, rfl⟩, he, ho⟩
theorem bstr_nil (b : Nat) (p : Value) (w : World) (hbk : w.heap[b]? = some (.cells #[p, .slice none 0 0] 74 (0, 0))) :
    Calls Tryz.prog 30 #[.pointer (some ⟨b, 0, none⟩)] w fun e w' => e = .returned (.string ⟨#[]⟩) ∧ Chg Nil w w' := by
  have hUS : ∀ W : World, (Builtin.unsafeString_ #[98, 3] 9 #[.pointer none, .int .i64 0]).run Tryz.prog W = .ok (.string .empty) W := fun W => by rfl
  have c1 : w.drew.cell? ⟨b, 1, none⟩ = some (.slice none 0 0) := by
    have : w.drew.heap[b]? = some (.cells #[p, .slice none 0 0] 74 (0, 0)) := hbk
    rw [Lib.cell_of_heap this]; rfl
  have hSD : (Builtin.unsafeSliceData_ #[72] 98 #[.slice none 0 0]).run Tryz.prog w.drew = .ok (.pointer none) w.drew := rfl
  go_enter Tryz.func30, Tryz.ntmps30
  go_wp2
  have mixed : Tryz.prog.follows .mixedOrders = true := by kernel_rfl
  go_region_o
  all_goals (go_wp2; go_ret; exact ⟨rfl, (Chg.refl _ w).drew⟩)
theorem bstr_some (b g cap : Nat) (p : Value) (cur : Array Value) (l : List UInt8) (h0 : l ≠ []) (w : World) (hbk : w.heap[b]? = some (.cells #[p, .slice (some ⟨g, 0, none⟩) l.length cap] 74 (0, 0))) (hg : w.heap[g]? = some (.cells cur 5 (0, 0))) (hnc : l.length ≤ cap) (hcm : cap ≤ maxLen) (hcs : cur.size = cap * 1) (htake : cur.toList.take (l.length * 1) = txtC l) :
    Calls Tryz.prog 30 #[.pointer (some ⟨b, 0, none⟩)] w fun e w' => e = .returned (.string ⟨l.toArray⟩) ∧ w' = w.drew.freeze ⟨g, 0, none⟩ l.length := by
  have hl0 : l.length ≠ 0 := by simpa using h0
  have c1 : w.drew.cell? ⟨b, 1, none⟩ = some (.slice (some ⟨g, 0, none⟩) l.length cap) := by
    have : w.drew.heap[b]? = some (.cells #[p, .slice (some ⟨g, 0, none⟩) l.length cap] 74 (0, 0)) := hbk
    rw [Lib.cell_of_heap this]; rfl
  have hSD : (Builtin.unsafeSliceData_ #[72] 98 #[.slice (some ⟨g, 0, none⟩) l.length cap]).run Tryz.prog w.drew = .ok (.pointer (some ⟨g, 0, none⟩)) w.drew :=
    Lib.run_unsafeSliceData_row _ _ _ _ _ _ (by omega)
  have hUS : (Builtin.unsafeString_ #[98, 3] 9 #[.pointer (some ⟨g, 0, none⟩), .int .i64 l.length]).run Tryz.prog w.drew = .ok (.string ⟨l.toArray⟩) (w.drew.freeze ⟨g, 0, none⟩ l.length) := by
    refine Lib.run_unsafeString_row w.drew 98 3 9 5 Tryz.underlying98 (by kernel_rfl) g cur.size (by have hg' : w.drew.heap[g]? = some (.cells cur 5 (0, 0)) := hg; simp [World.shape?, hg']) l h0 (by omega) (by unfold maxLen at hcm; omega) ?_
    intro j x hx
    have hjl : j < l.length := (List.getElem?_eq_some_iff.1 hx).1
    have h8 : (txtC l)[j]? = some (.int .u8 (x.toNat : Int)) := by simp [txtC, hx]
    rw [← htake, List.getElem?_take, if_pos (by omega)] at h8
    have hg' : w.drew.heap[g]? = some (.cells cur 5 (0, 0)) := hg
    rw [Addr.add_lit, cell_of hg', ← Array.getElem?_toList]
    simpa using h8
  go_enter Tryz.func30, Tryz.ntmps30
  go_wp2
  have mixed : Tryz.prog.follows .mixedOrders = true := by kernel_rfl
  go_region_o
  all_goals (go_wp2; go_ret; exact ⟨rfl, rfl⟩)
theorem chg_freeze (w : World) (g n : Nat) : Chg (· = g) w (w.freeze ⟨g, 0, none⟩ n) := by
  unfold World.freeze
  split
  · exact Chg.refl _ _
  · refine ⟨rfl, rfl, rfl, by simp, fun k _ hk => ?_⟩
    simp only [Array.getElem?_modify]
    rw [if_neg (fun e => hk e.symm)]
def rNone : Res := ⟨true, fun _ => False, fun _ => True, fun _ _ _ _ _ => trivial, fun _ _ _ f => f.elim⟩
theorem bstr_spec (b : Nat) (p v : Value) (t : List UInt8) (ht : t = [] → v = .slice none 0 0) : Spec Tryz.prog 30 #[.pointer (some ⟨b, 0, none⟩)] [rBld b p v, rTxt v 5 t] fun u L => u = .string ⟨t.toArray⟩ ∧ L = [rBld b p v] := fun E w0 w ho => by
  have hb : w.heap[b]? = some (.cells #[p, v] 74 (0, 0)) := ho.fact 0 rfl
  by_cases h0 : t = []
  · obtain rfl := ht h0
    subst h0
    exact (bstr_nil b p w hb).mono fun e w' ⟨he, hc⟩ => ⟨_, _, ⟨rfl, rfl⟩, he, (ho.pick [0]).quiet hc⟩
  · obtain ⟨hl, ⟨rfl, hn⟩ | ⟨g, cap, cur, rfl, _, hgk, hnc, hcm, hcs, htake⟩⟩ := (ho.fact 1 rfl : w.ownsRow 0 5 1 v t.length (txtC t))
    · exact absurd (List.eq_nil_of_length_eq_zero hn) h0
    · refine (bstr_some b g cap p cur t h0 w hb hgk hnc hcm hcs htake).mono fun e w' ⟨he, hw⟩ => ⟨_, _, ⟨rfl, rfl⟩, he, ?_⟩
      subst hw
      have hc : Chg (· = g) w (w.drew.freeze ⟨g, 0, none⟩ t.length) := ((Chg.refl (· = g) w).drew).then (chg_freeze w.drew g t.length)
      have hc2 : Chg (rTxt (.slice (some ⟨g, 0, none⟩) t.length cap) 5 t).foot w (w.drew.freeze ⟨g, 0, none⟩ t.length) := hc.mono fun x _ hx => by rw [hx]; rfl
      have h2 := ho.upd (i := 1) (r' := rNone) rfl rfl hc2 trivial fun x hx => hx.elim
      exact h2.pick [0]

section
/- A log's texts, plainly: numbers of ten digits, heads, records. No condition. -/
open Go.Lib
/-! ### Numbers -/
abbrev Tx := List UInt8
def ten10 : Nat := 10000000000
/-- What digits tell. -/
def valD (acc : Nat) (l : Tx) : Nat := l.foldl (fun a c => a * 10 + (c.toNat - 48)) acc
def isD (c : UInt8) : Prop := 48 ≤ c.toNat ∧ c.toNat ≤ 57
theorem dig_of {k : Nat} (h : k < 10) : isD (UInt8.ofNat (48 + k)) ∧ (UInt8.ofNat (48 + k)).toNat - 48 = k := by
  have e : (UInt8.ofNat (48 + k)).toNat = 48 + k := by rw [UInt8.toNat_ofNat']; omega
  exact ⟨⟨by omega, by omega⟩, by omega⟩
theorem dec_dig : ∀ (u : Nat), ∀ c ∈ decDigits u, isD c := by
  intro u
  induction u using Nat.strongRecOn with
  | _ u ih =>
    rw [decDigits]
    split
    · rename_i h
      intro c hc
      rw [List.mem_singleton.1 hc]; exact (dig_of h).1
    · rename_i h
      intro c hc
      rcases List.mem_append.1 hc with hc | hc
      · exact ih (u / 10) (by omega) c hc
      · rw [List.mem_singleton.1 hc]; exact (dig_of (by omega)).1
theorem valD_app (acc : Nat) (a b : Tx) : valD acc (a ++ b) = valD (valD acc a) b := by unfold valD; rw [List.foldl_append]
theorem dec_val : ∀ (u : Nat), valD 0 (decDigits u) = u := by
  intro u
  induction u using Nat.strongRecOn with
  | _ u ih =>
    rw [decDigits]
    split
    · rename_i h
      show 0 * 10 + ((UInt8.ofNat (48 + u)).toNat - 48) = u
      rw [(dig_of h).2]; omega
    · rename_i h
      rw [valD_app, ih (u / 10) (by omega)]
      show (u / 10) * 10 + ((UInt8.ofNat (48 + u % 10)).toNat - 48) = u
      rw [(dig_of (by omega)).2]; omega
theorem zeros_val : ∀ (m : Nat), valD 0 (List.replicate m 48) = 0
  | 0 => rfl
  | m + 1 => by
    rw [List.replicate_succ]
    show valD (0 * 10 + ((48 : UInt8).toNat - 48)) (List.replicate m 48) = 0
    exact zeros_val m
theorem zeros_dig (m : Nat) : ∀ c ∈ List.replicate m (48 : UInt8), isD c := fun c hc => by
  rw [List.eq_of_mem_replicate hc]; exact ⟨by decide, by decide⟩
theorem nDigits_le : ∀ (k u : Nat), u < 10 ^ (k + 1) → nDigits u ≤ k + 1
  | 0, u, h => by rw [nDigits_small (by simpa using h)]; omega
  | k + 1, u, h => by
    by_cases c : u < 10
    · rw [nDigits_small c]; omega
    · rw [nDigits_big c]
      have := nDigits_le k (u / 10) (by rw [Nat.pow_succ] at h; omega)
      omega
theorem dec_len {u : Nat} (h : u < ten10) : (decDigits u).length ≤ 10 := by
  rw [decDigits_length]; exact nDigits_le 9 u (by simpa [ten10] using h)
theorem dec_pos (u : Nat) : 0 < (decDigits u).length := by rw [decDigits_length]; exact nDigits_pos u
/-- A number of ten digits. -/
def num10 (n : Nat) : Tx := List.replicate (10 - (decDigits n).length) 48 ++ decDigits n
theorem num10_len {n : Nat} (h : n < ten10) : (num10 n).length = 10 := by
  unfold num10; have := dec_len h; simp; omega
theorem num10_dig (n : Nat) : ∀ c ∈ num10 n, isD c := fun c hc => by
  rcases List.mem_append.1 hc with hc | hc
  · exact zeros_dig _ c hc
  · exact dec_dig n c hc
theorem num10_val (n : Nat) : valD 0 (num10 n) = n := by unfold num10; rw [valD_app, zeros_val, dec_val]
/-- What parses tells no more than its digits may. -/
theorem parse_lt : ∀ (l : Tx) (acc u : Nat), parseUint10 acc l = .ok u → u < (acc + 1) * 10 ^ l.length ∧ u = valD acc l ∧ ∀ c ∈ l, isD c
  | [], acc, u, h => by
    simp only [parseUint10] at h
    injection h with h
    subst h
    exact ⟨by simp, rfl, fun c hc => (by cases hc)⟩
  | c :: r, acc, u, h => by
    simp only [parseUint10] at h
    split at h
    · rename_i hd
      split at h
      · cases h
      · split at h
        · cases h
        · obtain ⟨h1, h2, h3⟩ := parse_lt r _ u h
          refine ⟨?_, h2, fun x hx => ?_⟩
          · rw [List.length_cons, Nat.pow_succ]
            have : acc * 10 + (c.toNat - 48) + 1 ≤ (acc + 1) * 10 := by omega
            calc u < (acc * 10 + (c.toNat - 48) + 1) * 10 ^ r.length := h1
              _ ≤ (acc + 1) * 10 * 10 ^ r.length := Nat.mul_le_mul_right _ this
              _ = (acc + 1) * (10 ^ r.length * 10) := by rw [Nat.mul_assoc, Nat.mul_comm 10]
          · rcases List.mem_cons.1 hx with rfl | hx
            · exact hd
            · exact h3 x hx
    · cases h
theorem parse_ok : ∀ (l : Tx) (acc : Nat), (∀ c ∈ l, isD c) → valD acc l < 1000000000000000000 → acc ≤ valD acc l → parseUint10 acc l = .ok (valD acc l)
  | [], acc, _, _, _ => rfl
  | c :: r, acc, hd, hv, ha => by
    have hc : 48 ≤ c.toNat ∧ c.toNat ≤ 57 := hd c (by simp)
    have hm : ∀ (l : Tx) (a : Nat), a ≤ valD a l := fun l => by
      induction l with
      | nil => exact fun a => Nat.le_refl _
      | cons x l ih => intro a; exact Nat.le_trans (by omega) (ih (a * 10 + (x.toNat - 48)))
    have e : valD acc (c :: r) = valD (acc * 10 + (c.toNat - 48)) r := rfl
    rw [e] at hv ⊢
    have h1 := hm r (acc * 10 + (c.toNat - 48))
    simp only [parseUint10]
    rw [if_pos hc, if_neg (by omega), if_neg (by omega)]
    exact parse_ok r _ (fun x hx => hd x (List.mem_cons_of_mem _ hx)) hv h1
theorem atoi_num {n : Nat} (h : n < ten10) : atoiAll (num10 n) = .ok (n : Int) := by
  have hl := num10_len h
  have hv := num10_val n
  have hd := num10_dig n
  obtain ⟨c, r, e⟩ : ∃ c r, num10 n = c :: r := by
    cases hq : num10 n with
    | nil => rw [hq] at hl; cases hl
    | cons c r => exact ⟨c, r, rfl⟩
  rw [e] at hl hv hd ⊢
  have hc := hd c (by simp)
  unfold isD at hc
  rw [atoiAll_plain c r (by omega) (by omega)]
  unfold parseMag
  rw [if_neg (by simp), parse_ok (c :: r) 0 hd (by rw [hv]; unfold ten10 at h; omega) (Nat.zero_le _), hv]
  show (if 9223372036854775808 ≤ n then NumEnd.range else .ok (n : Int)) = _
  rw [if_neg (by unfold ten10 at h; omega)]
theorem atoi_lt {l : Tx} {v : Int} (h : atoiAll l = .ok v) (hl : l.length ≤ 10) (h0 : 0 ≤ v) : v < 10000000000 := by
  have pw : ∀ k, k ≤ 10 → 10 ^ k ≤ 10000000000 := fun k hk => Nat.le_trans (Nat.pow_le_pow_right (by decide) hk) (by decide)
  have key : ∀ (m : Tx) (u : Nat), m.length ≤ 10 → parseMag m = .ok u → u < 10000000000 := fun m u hm hp => by
    unfold parseMag at hp
    split at hp
    · cases hp
    · have h1 := (parse_lt m 0 u hp).1
      have := pw m.length hm
      omega
  cases l with
  | nil => cases h
  | cons c r =>
    rw [List.length_cons] at hl
    by_cases h43 : c.toNat = 43
    · have e : c = 43 := UInt8.toNat_inj.1 h43
      subst e
      rw [atoiAll_plus] at h
      cases hp : parseMag r with
      | range => rw [hp] at h; cases h
      | ok u =>
        rw [hp] at h
        have := key r u (by omega) hp
        unfold signless at h
        simp only at h
        split at h
        · cases h
        · injection h with h; omega
      | _ => rw [hp] at h; cases h
    · by_cases h45 : c.toNat = 45
      · have e : c = 45 := UInt8.toNat_inj.1 h45
        subst e
        rw [atoiAll_minus] at h
        cases hp : parseMag r with
        | range => rw [hp] at h; cases h
        | ok u =>
          rw [hp] at h
          unfold signed at h
          simp only at h
          split at h
          · cases h
          · injection h with h; omega
        | _ => rw [hp] at h; cases h
      · rw [atoiAll_plain c r h43 h45] at h
        cases hp : parseMag (c :: r) with
        | range => rw [hp] at h; cases h
        | ok u =>
          rw [hp] at h
          have := key (c :: r) u (by rw [List.length_cons]; omega) hp
          unfold signless at h
          simp only at h
          split at h
          · cases h
          · injection h with h; omega
        | _ => rw [hp] at h; cases h
/-! ### Heads -/
def magicB : Tx := [112, 105, 103, 101, 111, 110, 104, 111, 108, 101, 115, 32, 108, 111, 103, 32]
def headB (c h z : Nat) : Tx := magicB ++ num10 c ++ num10 h ++ num10 z
/-- Three numbers of a head's text, whatever it be. -/
def head3 (s : Tx) : Option (Nat × Nat × Nat) :=
  match atoiAll ((s.drop 16).take 10), atoiAll ((s.drop 26).take 10), atoiAll ((s.drop 36).take 10) with
  | .ok a, .ok b, .ok c => if a < 0 ∨ b < 0 ∨ c < 0 then none else some (a.toNat, b.toNat, c.toNat)
  | _, _, _ => none
def headP (s : Tx) : Option (Nat × Nat × Nat) := match head3 s with
  | some (c, h, z) => if trimRightB s 0 = headB c h z ∧ h < 2 then some (c, h, z) else none
  | none => none
def padB (l : Tx) : Tx := l ++ List.replicate (64 - l.length) 0
theorem headB_len {c h z : Nat} (hc : c < ten10) (hh : h < ten10) (hz : z < ten10) : (headB c h z).length = 46 := by
  unfold headB; simp [num10_len hc, num10_len hh, num10_len hz, magicB]
theorem trim_pad {l : Tx} (m : Nat) (h : ∀ c, l.getLast? = some c → c ≠ 0) : trimRightB (l ++ List.replicate m 0) 0 = l := by
  unfold trimRightB
  rw [List.reverse_append, List.reverse_replicate]
  have e : ∀ m : Nat, (List.replicate m (0 : UInt8) ++ l.reverse).dropWhile (· == 0) = l.reverse.dropWhile (· == 0) := fun m => by
    induction m with
    | zero => rfl
    | succ m ih => rw [List.replicate_succ, List.cons_append, List.dropWhile_cons]; simp [ih]
  rw [e]
  cases hr : l.reverse with
  | nil => have : l = [] := by simpa using hr
           rw [this]; rfl
  | cons c r =>
    have hl : l.getLast? = some c := by rw [← List.head?_reverse, hr]; rfl
    have := h c hl
    rw [List.dropWhile_cons, if_neg (by simpa using this), ← hr, List.reverse_reverse]
theorem head3_pad {c h z : Nat} (hc : c < ten10) (hh : h < ten10) (hz : z < ten10) (p : Tx) : head3 (headB c h z ++ p) = some (c, h, z) := by
  have e1 : ((headB c h z ++ p).drop 16).take 10 = num10 c := by
    unfold headB
    rw [List.append_assoc, List.append_assoc, List.append_assoc, show (16 : Nat) = magicB.length from rfl, List.drop_left, List.take_left' (num10_len hc)]
  have e2 : ((headB c h z ++ p).drop 26).take 10 = num10 h := by
    unfold headB
    rw [show magicB ++ num10 c ++ num10 h ++ num10 z ++ p = (magicB ++ num10 c) ++ (num10 h ++ (num10 z ++ p)) by simp [List.append_assoc]]
    rw [List.drop_left' (by simp [num10_len hc, magicB]), List.take_left' (num10_len hh)]
  have e3 : ((headB c h z ++ p).drop 36).take 10 = num10 z := by
    unfold headB
    rw [show magicB ++ num10 c ++ num10 h ++ num10 z ++ p = (magicB ++ num10 c ++ num10 h) ++ (num10 z ++ p) by simp [List.append_assoc]]
    rw [List.drop_left' (by simp [num10_len hc, num10_len hh, magicB]), List.take_left' (num10_len hz)]
  unfold head3
  rw [e1, e2, e3, atoi_num hc, atoi_num hh, atoi_num hz]
  simp only
  rw [if_neg (by omega)]
  simp
theorem num10_last {n : Nat} {c : UInt8} (h : (num10 n).getLast? = some c) : c ≠ 0 := by
  have := num10_dig n c (List.mem_of_getLast? h)
  rintro rfl
  exact absurd this.1 (by decide)
theorem headP_pad {c h z : Nat} (hc : c < ten10) (hh : h < 2) (hz : z < ten10) (m : Nat) : headP (headB c h z ++ List.replicate m 0) = some (c, h, z) := by
  have hh' : h < ten10 := by unfold ten10; omega
  unfold headP
  rw [head3_pad hc hh' hz]
  simp only
  rw [trim_pad m fun x hx => ?_, if_pos ⟨rfl, hh⟩]
  unfold headB at hx
  rw [List.getLast?_append] at hx
  cases hq : (num10 z).getLast? with
  | none => rw [List.getLast?_eq_none_iff] at hq; have := num10_len hz; rw [hq] at this; cases this
  | some y => rw [hq] at hx; cases hx; exact num10_last hq
theorem head3_lt {s : Tx} {c h z : Nat} (h3 : head3 s = some (c, h, z)) : c < ten10 ∧ h < ten10 ∧ z < ten10 := by
  unfold head3 at h3
  split at h3
  · rename_i a b d e1 e2 e3
    split at h3
    · cases h3
    · rename_i hn
      have h1 := atoi_lt e1 (by simp; omega) (by omega)
      have h2 := atoi_lt e2 (by simp; omega) (by omega)
      have h4 := atoi_lt e3 (by simp; omega) (by omega)
      cases h3
      unfold ten10
      omega
  · cases h3
theorem headP_lt {s : Tx} {c h z : Nat} (hp : headP s = some (c, h, z)) : c < ten10 ∧ h < 2 ∧ z < ten10 := by
  unfold headP at hp
  split at hp
  · rename_i c' h' z' e
    split at hp
    · rename_i q
      cases hp
      have := head3_lt e
      exact ⟨this.1, q.2, this.2.2⟩
    · cases hp
  · cases hp
/-! ### Records -/
def recB (r : Tx) : Tx := num10 r.length ++ r
def packT (rs : List Tx) : Tx := rs.flatMap recB
def upTo (n : Nat) : Nat := (64 - n % 64) % 64
def packB (rs : List Tx) : Tx := packT rs ++ List.replicate (upTo (packT rs).length) 0
/-- The records of a text; none: they are none. -/
def recP (s : Tx) : Option (List Tx) :=
  match s with
  | [] => some []
  | c :: r =>
    if c = 0 then recP ((c :: r).drop (if (c :: r).length % 64 = 0 then 64 else (c :: r).length % 64))
    else if (c :: r).length < 10 then none
    else match atoiAll ((c :: r).take 10) with
      | .ok n => if n < 0 ∨ n > ((c :: r).length : Int) - 10 then none
        else (recP ((c :: r).drop (10 + n.toNat))).map ((((c :: r).drop 10).take n.toNat) :: ·)
      | _ => none
termination_by s.length
decreasing_by
  · rw [List.length_drop, List.length_cons]; split <;> omega
  · rw [List.length_drop, List.length_cons]; omega
theorem recP_nil : recP [] = some [] := by rw [recP]
theorem recP_rec {r : Tx} (hr : r.length < ten10) (p : Tx) : recP (recB r ++ p) = (recP p).map (r :: ·) := by
  have hl := num10_len hr
  obtain ⟨c, m, e⟩ : ∃ c m, num10 r.length = c :: m := by
    cases hq : num10 r.length with
    | nil => rw [hq] at hl; cases hl
    | cons c m => exact ⟨c, m, rfl⟩
  have hc : c ≠ 0 := by
    have := num10_dig r.length c (by rw [e]; simp)
    rintro rfl
    exact absurd this.1 (by decide)
  have e0 : recB r ++ p = c :: (m ++ (r ++ p)) := by unfold recB; rw [e]; simp
  have e1 : (c :: (m ++ (r ++ p))).take 10 = num10 r.length := by
    rw [← e0]; unfold recB; rw [List.append_assoc]; exact List.take_left' hl
  have e2 : (c :: (m ++ (r ++ p))).drop 10 = r ++ p := by
    rw [← e0]; unfold recB; rw [List.append_assoc]; exact List.drop_left' hl
  have e3 : (c :: (m ++ (r ++ p))).length = 10 + r.length + p.length := by rw [← e0]; unfold recB; simp [hl]; omega
  rw [e0, recP]
  rw [if_neg hc, if_neg (by omega), e1, atoi_num hr]
  simp only
  rw [if_neg (by omega)]
  have e4 : (c :: (m ++ (r ++ p))).drop (10 + r.length) = p := by
    rw [← List.drop_drop, e2, List.drop_left]
  have e5 : ((r.length : Int)).toNat = r.length := by omega
  rw [e5, e4, e2, List.take_left]
theorem recP_zero {k : Nat} (hk : 0 < k) (hk2 : k < 64) {p : Tx} (hp : p.length % 64 = 0) : recP (List.replicate k 0 ++ p) = recP p := by
  obtain ⟨k, rfl⟩ : ∃ j, k = j + 1 := ⟨k - 1, by omega⟩
  have e : List.replicate (k + 1) (0 : UInt8) ++ p = 0 :: (List.replicate k 0 ++ p) := by rw [List.replicate_succ]; rfl
  have el : (0 :: (List.replicate k 0 ++ p)).length = k + 1 + p.length := by simp; omega
  rw [e, recP]
  rw [if_pos rfl, el, if_neg (by omega)]
  have : (k + 1 + p.length) % 64 = k + 1 := by omega
  rw [this, ← e, List.drop_left' (by simp)]
theorem recP_pack {rs : List Tx} (hr : ∀ r ∈ rs, r.length < ten10) {p : Tx} (hp : p.length % 64 = 0) : recP (packB rs ++ p) = (recP p).map (rs ++ ·) := by
  have key : ∀ (rs : List Tx) (q : Tx), (∀ r ∈ rs, r.length < ten10) → recP (packT rs ++ q) = (recP q).map (rs ++ ·) := fun rs => by
    induction rs with
    | nil => intro q _; cases hq : recP q <;> simp [packT, hq]
    | cons r rs ih =>
      intro q h
      have e : packT (r :: rs) ++ q = recB r ++ (packT rs ++ q) := by unfold packT; rw [List.flatMap_cons, List.append_assoc]
      rw [e, recP_rec (h r (by simp)), ih q fun x hx => h x (List.mem_cons_of_mem _ hx)]
      cases recP q <;> rfl
  unfold packB
  rw [List.append_assoc, key rs _ hr]
  by_cases h0 : upTo (packT rs).length = 0
  · rw [h0]; rfl
  · rw [recP_zero (by omega) (by unfold upTo; omega) hp]
theorem packB_len (rs : List Tx) : (packB rs).length % 64 = 0 ∧ (packB rs).length < (packT rs).length + 64 := by
  unfold packB upTo
  rw [List.length_append, List.length_replicate]
  omega
theorem packT_len {rs : List Tx} (hr : ∀ r ∈ rs, r.length < ten10) : (packT rs).length = (rs.map fun r => 10 + r.length).sum := by
  induction rs with
  | nil => rfl
  | cons r rs ih =>
    have e : packT (r :: rs) = recB r ++ packT rs := by unfold packT; rw [List.flatMap_cons]
    rw [e, List.length_append, ih fun x hx => hr x (List.mem_cons_of_mem _ hx), List.map_cons, List.sum_cons]
    unfold recB
    rw [List.length_append, num10_len (hr r (by simp))]

end
/- package disk by contracts over a plain disk. -/

structure PDisk where
  left : Int
  kept : List ByteArray
  now : List ByteArray
  waits : List (Int × ByteArray)
def waitC (p : Int × ByteArray) : List Value := [.int .i64 p.1, .string p.2]
theorem waitC_len (p : Int × ByteArray) : (waitC p).length = 2 := rfl
theorem waitC_ones (l : List (Int × ByteArray)) : ∀ u ∈ l.flatMap waitC, u.oneCell' = true := fun u hu => by
  obtain ⟨p, _, hp⟩ := List.mem_flatMap.1 hu
  simp [waitC] at hp; rcases hp with rfl | rfl <;> rfl
/-- The disk d lies at block b; the blocks it owns lie in S. -/
def DiskAt (w : World) (b : Nat) (d : PDisk) (S : Nat → Prop) : Prop :=
  (∃ vk vn vw T Sk Sn Sw, w.heap[b]? = some (.cells #[.int .i64 d.left, vk, vn, vw] T (0, 0)) ∧
    SliceAt w vk 9 1 d.kept.length (d.kept.flatMap strC) Sk ∧ SliceAt w vn 9 1 d.now.length (d.now.flatMap strC) Sn ∧ SliceAt w vw 86 2 d.waits.length (d.waits.flatMap waitC) Sw ∧
    (¬ Sk b ∧ ¬ Sn b ∧ ¬ Sw b) ∧ (∀ x, Sk x → ¬ Sn x) ∧ (∀ x, Sk x → ¬ Sw x) ∧ (∀ x, Sn x → ¬ Sw x) ∧ (∀ x, Sk x ∨ Sn x ∨ Sw x → S x)) ∧ S b ∧ (∀ x, S x → x < w.heap.size) ∧ (-1 ≤ d.left ∧ d.left ≤ 9223372036854775807)
theorem DiskAt.keep {w w' : World} {b : Nat} {d : PDisk} {S T : Nat → Prop} (h : DiskAt w b d S) (c : Chg T w w') (hd : ∀ x, S x → ¬ T x) : DiskAt w' b d S := by
  obtain ⟨⟨vk, vn, vw, T', Sk, Sn, Sw, hb, hk, hn, hw, h1, h2, h3, h4, h5⟩, hS, hl, hi⟩ := h
  have hz := c.size
  exact ⟨⟨vk, vn, vw, T', Sk, Sn, Sw, c.keep hb (hd b hS), hk.keep c (fun x hx => hd x (h5 x (.inl hx))), hn.keep c (fun x hx => hd x (h5 x (.inr (.inl hx)))), hw.keep c (fun x hx => hd x (h5 x (.inr (.inr hx)))), h1, h2, h3, h4, h5⟩, hS, fun x hx => Nat.lt_of_lt_of_le (hl x hx) hz, hi⟩
def DiskPost (S : Nat → Prop) (w : World) (b : Nat) (d : PDisk) (w' : World) : Prop := Chg S w w' ∧ ∃ S', DiskAt w' b d S' ∧ Grow S S' w w'
theorem disk_same {S : Nat → Prop} {w : World} {b : Nat} {d : PDisk} (ht : DiskAt w b d S) : DiskPost S w b d w := ⟨Chg.refl _ _, S, ht, Grow.refl _ _ _⟩
/-- The count of acts stored anew. -/
theorem disk_left {S : Nat → Prop} {w : World} {b : Nat} {d : PDisk} {l : Int} (ht : DiskAt w b d S) (h1 : -1 ≤ l) (h2 : l ≤ 9223372036854775807) : DiskPost S w b { d with left := l } (w.setCell ⟨b, 0, none⟩ (.int .i64 l)) := by
  obtain ⟨⟨vk, vn, vw, T', Sk, Sn, Sw, hb, hk, hn, hw, ⟨n1, n2, n3⟩, h3, h4, h5, h6⟩, hS, hl, hi⟩ := ht
  have hb2 := block_setCell hb 0 (.int .i64 l)
  simp at hb2
  have hc : Chg (· = b) w (w.setCell ⟨b, 0, none⟩ (.int .i64 l)) := (Chg.refl (· = b) w).setCell (p := ⟨b, 0, none⟩) (.inr rfl) _
  have hc2 : Chg S w (w.setCell ⟨b, 0, none⟩ (.int .i64 l)) := (Chg.refl S w).setCell (p := ⟨b, 0, none⟩) (.inr hS) _
  exact ⟨hc2, S, ⟨⟨vk, vn, vw, T', Sk, Sn, Sw, hb2, hk.keep hc (fun x hx e => n1 (e ▸ hx)), hn.keep hc (fun x hx e => n2 (e ▸ hx)), hw.keep hc (fun x hx e => n3 (e ▸ hx)), ⟨n1, n2, n3⟩, h3, h4, h5, h6⟩, hS, fun x hx => Nat.lt_of_lt_of_le (hl x hx) hc.size, h1, h2⟩, fun x hx => .inl hx⟩

def pSpend (d : PDisk) : PDisk × Bool := if d.left = 0 then (d, false) else if 0 < d.left then ({ d with left := d.left - 1 }, true) else (d, true)
theorem spend_any (b : Nat) (d : PDisk) (S : Nat → Prop) (w : World) (ht : DiskAt w b d S) :
    Calls Tryz.prog 49 #[.pointer (some ⟨b, 0, none⟩)] w fun e w' => e = .returned (.bool (pSpend d).2) ∧ DiskPost S w b (pSpend d).1 w' := by
  have HT := Lib.hid ht
  obtain ⟨⟨vk, vn, vw, T', Sk, Sn, Sw, hb, _⟩, _, _, hi1, hi2⟩ := ht
  have hc0 := cell_of hb 0
  have hf0 := free_of hb 0
  have hbl := lt_of_block hb
  simp only [List.getElem?_toArray, List.getElem?_cons_zero] at hc0
  clear hb
  obtain ⟨l, hl⟩ : ∃ l, l = d.left := ⟨_, rfl⟩
  rw [← hl] at hc0 hi1 hi2
  unfold pSpend
  rw [← hl]
  have HL := Lib.hid hl
  clear hl
  have hgo : l = 0 ∨ 0 < l ∨ (l < 0 ∧ l = -1) := by omega
  rcases hgo with rfl | hp | ⟨_, rfl⟩
  · rw [if_pos rfl]
    go_enter Tryz.func49, Tryz.ntmps49
    go_wp2_with fail
    go_ret
    exact ⟨rfl, disk_same HT.out⟩
  · have h0 : ¬ l = 0 := by omega
    have hw1 : IntKind.i64.wrap (l - 1) = l - 1 := IntWalk.i64_in _ (by omega)
    rw [if_neg h0, if_pos hp]
    go_enter Tryz.func49, Tryz.ntmps49
    go_wp2_with fail
    go_ret
    exact ⟨rfl, disk_left HT.out (by omega) (by omega)⟩
  · rw [if_neg (by decide), if_neg (by decide)]
    go_enter Tryz.func49, Tryz.ntmps49
    go_wp2_with fail
    go_ret
    exact ⟨rfl, disk_same HT.out⟩

def pFail (d : PDisk) (n : Int) : PDisk × Nat := if n < 0 then (d, 2) else ({ d with left := n }, 0)
theorem fail_any {B : Nat} (ad : Nat → Addr) (b : Nat) (n : Int) (d : PDisk) (S : Nat → Prop) (w : World) (he : Env B ad [2] w) (ht : DiskAt w b d S) (hn : n ≤ 9223372036854775807) :
    Calls Tryz.prog 19 #[.pointer (some ⟨b, 0, none⟩), .int .i64 n] w fun e w' => e = .returned (errV ad (pFail d n).2) ∧ DiskPost S w b (pFail d n).1 w' := by
  have HT := Lib.hid ht
  obtain ⟨h2, h2l⟩ := he.get (c := 2) (by simp)
  simp only [gl] at h2 h2l
  obtain ⟨⟨vk, vn, vw, T', Sk, Sn, Sw, hb, _⟩, _⟩ := ht
  have hc0 := cell_of hb 0
  have hf0 := free_of hb 0
  have hbl := lt_of_block hb
  simp only [List.getElem?_toArray, List.getElem?_cons_zero] at hc0
  clear hb he
  unfold pFail
  by_cases h : n < 0
  · rw [if_pos h]
    go_enter Tryz.func19, Tryz.ntmps19
    go_wp2_with fail
    go_ret
    exact ⟨rfl, disk_same HT.out⟩
  · rw [if_neg h]
    go_enter Tryz.func19, Tryz.ntmps19
    go_wp2_with fail
    go_ret
    exact ⟨rfl, disk_left HT.out (by omega) (by omega)⟩

theorem sectors_any (b : Nat) (d : PDisk) (S : Nat → Prop) (w : World) (ht : DiskAt w b d S) :
    Calls Tryz.prog 24 #[.pointer (some ⟨b, 0, none⟩)] w fun e w' => e = .returned (.int .i64 d.now.length) ∧ w' = w := by
  obtain ⟨⟨vk, vn, vw, T', Sk, Sn, Sw, hb, _, hn, _⟩, _⟩ := ht
  obtain ⟨a, cap, rfl⟩ := hn.shape
  have hc2 := cell_of hb 2
  simp at hc2
  clear hb hn
  go_enter Tryz.func24, Tryz.ntmps24
  go_wp2_with fail
  go_ret
  exact ⟨rfl, rfl⟩
def pRead (d : PDisk) (n : Int) : ByteArray × Nat := if n < 0 ∨ d.now.length ≤ n then (⟨#[]⟩, 2) else (d.now.getD n.toNat ⟨#[]⟩, 0)
theorem kread_any {B : Nat} (ad : Nat → Addr) (b : Nat) (n : Int) (d : PDisk) (S : Nat → Prop) (w : World) (he : Env B ad [2] w) (ht : DiskAt w b d S) :
    Calls Tryz.prog 25 #[.pointer (some ⟨b, 0, none⟩), .int .i64 n] w fun e w' => e = .returned (.tuple #[.string (pRead d n).1, errV ad (pRead d n).2]) ∧ Chg Nil w w' := by
  obtain ⟨h2, h2l⟩ := he.get (c := 2) (by simp)
  simp only [gl] at h2 h2l
  obtain ⟨⟨vk, vn, vw, T', Sk, Sn, Sw, hb, _, hn, _⟩, _⟩ := ht
  have hbl := lt_of_block hb
  by_cases hbad : n < 0 ∨ d.now.length ≤ n
  · have e1 : pRead d n = (⟨#[]⟩, 2) := if_pos hbad
    rw [e1]
    obtain ⟨a, cap, rfl⟩ := hn.shape
    have hc2 := cell_of hb 2
    simp at hc2
    clear hb hn he e1
    have hgo : n < 0 ∨ (¬ n < 0 ∧ (d.now.length : Int) ≤ n) := by omega
    clear hbad
    rcases hgo with h | ⟨h, h'⟩
    all_goals
      go_enter Tryz.func25, Tryz.ntmps25
      go_wp2_with fail
      go_quiet (fail)
      go_wp2_with fail
      go_ret2
      exact ⟨rfl, Chg.drewN _ _⟩
  · have e1 : pRead d n = (d.now.getD n.toNat ⟨#[]⟩, 0) := if_neg hbad
    rw [e1]
    obtain ⟨k, rfl⟩ : ∃ k : Nat, n = k := ⟨n.toNat, by omega⟩
    have hk : k < d.now.length := by omega
    obtain ⟨z, hz⟩ : ∃ z, d.now[k]? = some z := ⟨d.now[k], List.getElem?_eq_getElem hk⟩
    have ez : d.now.getD (k : Int).toNat ⟨#[]⟩ = z := by simp [List.getD, hz]
    rw [ez]
    obtain ⟨g, off, cap, cs, rfl, hb9, hn9, hcm9, _, hcl9, hg9, hgl9⟩ := hn.place (by omega)
    have hel := SliceAt.elem strC_len hn hz 0 (.string z) rfl
    have hel1 := hel.1
    have hel2 := hel.2.1
    simp only [Nat.mul_one, Nat.add_zero] at hel1 hel2
    have hc2 := cell_of hb 2
    simp at hc2
    have h1 : ¬ ((k : Int) < 0) := by omega
    have h3 : ¬ ((d.now.length : Int) ≤ (k : Int)) := by omega
    have h4 : k < cap := by omega
    clear hb hn he e1 hbad hcl9 hel hb9 ez
    go_enter Tryz.func25, Tryz.ntmps25
    go_wp2_with fail
    go_ret2
    exact ⟨rfl, Chg.refl _ _⟩

/- disk.New, Flush by contracts. -/

def pNew (n : Nat) : PDisk := ⟨-1, List.replicate n (zerosB 64), List.replicate n (zerosB 64), []⟩
theorem new_bad {B : Nat} (ad : Nat → Addr) (n : Int) (w : World) (he : Env B ad [2] w) (hbad : n < 1 ∨ 4000 < n) :
    Calls Tryz.prog 8 #[.int .i64 n] w fun e w' => e = .returned (.tuple #[.pointer none, errV ad 2]) ∧ Chg Nil w w' := by
  obtain ⟨h2, h2l⟩ := he.get (c := 2) (by simp)
  simp only [gl] at h2 h2l
  clear he
  have hgo : n < 1 ∨ (¬ n < 1 ∧ 4000 < n) := by omega
  clear hbad
  rcases hgo with h | ⟨h, h'⟩
  all_goals
    go_enter Tryz.func8, Tryz.ntmps8
    go_wp2_with fail
    go_quiet (fail)
    go_wp2_with fail
    go_ret2
    exact ⟨rfl, Chg.drewN _ _⟩
theorem strs_len (l : List ByteArray) : (l.flatMap strC).length = l.length := by rw [flat_len strC strC_len]; simp
theorem rep_strs (n : Nat) (z : ByteArray) : (List.replicate n z).flatMap strC = List.replicate n (.string z) := by
  induction n with
  | zero => rfl
  | succ n ih => rw [List.replicate_succ, List.flatMap_cons, ih, List.replicate_succ]; rfl
theorem sliceAt_rep {w : World} {g n : Nat} {z : ByteArray} (hn : n ≤ 4000) (hb : w.heap[g]? = some (.cells (List.replicate n (.string z)).toArray 9 (0, 0))) : SliceAt w (.slice (some ⟨g, 0, none⟩) n n) 9 1 n ((List.replicate n z).flatMap strC) (· = g) := by
  refine ⟨by rw [strs_len]; simp, .inr ⟨g, 0, n, _, rfl, hb, Nat.le_refl _, by unfold maxLen; omega, by simp, fun j u hj => ?_, rfl⟩⟩
  rw [rep_strs] at hj
  rw [Nat.zero_add, List.getElem?_toArray]; exact hj
theorem new_done {w w1 w2 w3 : World} {n g : Nat} {v : Value} {S : Nat → Prop} (hn : n ≤ 4000) (h1 : Chg Nil w w1) (h2 : Chg Nil w1 w2) (hg : g = w1.heap.size) (hb : w2.heap[g]? = some (.cells (List.replicate n (.string (zerosB 64))).toArray 9 (0, 0)))
    (h3 : Chg Nil w2 w3) (hv : SliceAt w3 v 9 1 n ((List.replicate n (zerosB 64)).flatMap strC) S) (hS : ∀ x, S x → w2.heap.size ≤ x ∧ x < w3.heap.size) (T : TypeId) :
    ∃ b S', (Value.pointer (some ⟨w3.heap.size, 0, none⟩)) = .pointer (some ⟨b, 0, none⟩) ∧ Chg Nil w (w3.alloc (.cells #[.int .i64 (-1), .slice (some ⟨g, 0, none⟩) n n, v, .slice none 0 0] T)) ∧ DiskAt (w3.alloc (.cells #[.int .i64 (-1), .slice (some ⟨g, 0, none⟩) n n, v, .slice none 0 0] T)) b (pNew n) S' ∧ ∀ x, S' x → w.heap.size ≤ x := by
  have z1 := h1.size
  have z2 := h2.size
  have z3 := h3.size
  have hgl := lt_of_block hb
  have hc := (Chg.refl Nil w3).alloc (.cells #[.int .i64 (-1), .slice (some ⟨g, 0, none⟩) n n, v, .slice none 0 0] T)
  refine ⟨w3.heap.size, fun x => x = w3.heap.size ∨ x = g ∨ S x, rfl, ((h1.nil.trans h2.nil (fun x _ f => f)).trans h3.nil (fun x _ f => f)).alloc _, ⟨⟨_, _, _, T, (· = g), S, Nil, block_alloc _ _, ?_, ?_, sliceAt_nil _ _ _ _, ⟨?_, ?_, fun f => f⟩, ?_, fun x _ f => f, fun x _ f => f, ?_⟩, .inl rfl, ?_, (show (-1 : Int) ≤ -1 by omega), (show (-1 : Int) ≤ 9223372036854775807 by omega)⟩, ?_⟩
  · have := ((sliceAt_rep hn hb).keep h3 (fun _ _ f => f)).keep hc (fun _ _ f => f)
    simpa [pNew] using this
  · have := hv.keep hc (fun _ _ f => f)
    simpa [pNew] using this
  · intro e; have : w3.heap.size = g := e; omega
  · intro e; have := (hS _ e).2; omega
  · intro x e e2; have : x = g := e; have := (hS _ e2).1; omega
  · intro x h; rcases h with h | h | h
    · exact .inr (.inl h)
    · exact .inr (.inr h)
    · exact h.elim
  · intro x h; simp; rcases h with h | h | h
    · omega
    · omega
    · have := (hS _ h).2; omega
  · intro x h; rcases h with h | h | h
    · omega
    · omega
    · have := (hS _ h).1; omega
theorem new_good (n : Nat) (w : World) (h1 : 1 ≤ n) (h2 : n ≤ 4000) :
    Calls Tryz.prog 8 #[.int .i64 n] w fun e w' => ∃ b S, e = .returned (.tuple #[.pointer (some ⟨b, 0, none⟩), .nilIface]) ∧ Chg Nil w w' ∧ DiskAt w' b (pNew n) S ∧ ∀ x, S x → w.heap.size ≤ x := by
  have g1 : ¬ ((n : Int) < 1) := by omega
  have g2 : ¬ (4000 < (n : Int)) := by omega
  go_enter Tryz.func8, Tryz.ntmps8
  go_wp2_with fail
  refine (nuls_any 64 _ (by omega)).mono ?_
  rintro e w1 ⟨rfl, hc1⟩
  go_wp2_with fail
  refine (srepeat_any n w1.heap.size (zerosB 64) _ h1 h2 (by simp)).mono ?_
  rintro e w2 ⟨rfl, hc2, hb2⟩
  obtain ⟨g, hg⟩ : ∃ g, g = (w1.alloc (.cells #[.string (zerosB 64)] 9)).heap.size := ⟨_, rfl⟩
  rw [← hg] at hb2 ⊢
  have HB := Lib.hid hb2
  have HG := Lib.hid hg
  clear hb2 hg
  go_wp2_with fail
  refine (clone_str _ n _ _ w2 (sliceAt_rep h2 HB.out) (strC_ones _) (by omega)).mono ?_
  rintro e w3 ⟨v3, S3, rfl, hc3, hs3, hS3⟩
  obtain ⟨a3, c3, rfl⟩ := hs3.shape
  go_wp2_with fail
  go_ret2
  obtain ⟨b, S', e1, e2, e3, e4⟩ := new_done h2 (hc1.alloc _) hc2 HG.out HB.out hc3 hs3 hS3 57
  exact ⟨b, S', by rw [← e1]; rfl, e2, e3, e4⟩

/- disk.Flush, Write by contracts. -/

theorem pSpend_same (d : PDisk) : (pSpend d).1.kept = d.kept ∧ (pSpend d).1.now = d.now ∧ (pSpend d).1.waits = d.waits := by
  unfold pSpend; split
  · exact ⟨rfl, rfl, rfl⟩
  · split <;> exact ⟨rfl, rfl, rfl⟩
theorem DiskPost.trans {S : Nat → Prop} {w w1 w2 : World} {b : Nat} {d d' : PDisk} (hS : ∀ x, S x → x < w.heap.size) (p : DiskPost S w b d w1) (q : ∀ S1, DiskAt w1 b d S1 → DiskPost S1 w1 b d' w2) : DiskPost S w b d' w2 := by
  obtain ⟨c1, S1, a1, g1⟩ := p
  obtain ⟨c2, S2, a2, g2⟩ := q S1 a1
  have hz := c1.size
  have hz2 := c2.size
  refine ⟨c1.trans c2 (fun x hx h => by rcases g1 x h with h | h; exact h; omega), S2, a2, fun x hx => ?_⟩
  rcases g2 x hx with h | h
  · rcases g1 x h with h | h
    · exact .inl h
    · exact .inr ⟨h.1, by omega⟩
  · exact .inr ⟨by omega, h.2⟩
theorem flush_done {w1 w2 : World} {b : Nat} {d : PDisk} {v2 : Value} {S S2 : Nat → Prop} (ht : DiskAt w1 b d S) (hc : Chg Nil w1 w2) (hs : SliceAt w2 v2 9 1 d.now.length (d.now.flatMap strC) S2) (hS2 : ∀ x, S2 x → w1.heap.size ≤ x ∧ x < w2.heap.size) :
    DiskPost S w1 b { d with kept := d.now, waits := [] } ((w2.setCell ⟨b, 1, none⟩ v2).setCell ⟨b, 3, none⟩ (.slice none 0 0)) := by
  obtain ⟨⟨vk, vn, vw, T', Sk, Sn, Sw, hb, hk, hn, hw, ⟨n1, n2, n3⟩, h3, h4, h5, h6⟩, hS, hl, hi⟩ := ht
  have hz := hc.size
  have hbl := lt_of_block hb
  have hb2 := block_setCell (block_setCell (hc.keep hb (fun f => f)) 1 v2) 3 (.slice none 0 0)
  simp at hb2
  have c2 : Chg (· = b) w2 ((w2.setCell ⟨b, 1, none⟩ v2).setCell ⟨b, 3, none⟩ (.slice none 0 0)) := ((Chg.refl (· = b) w2).setCell (p := ⟨b, 1, none⟩) (.inr rfl) _).setCell (p := ⟨b, 3, none⟩) (.inr rfl) _
  have c3 : Chg S w1 ((w2.setCell ⟨b, 1, none⟩ v2).setCell ⟨b, 3, none⟩ (.slice none 0 0)) := (hc.nil.setCell (p := ⟨b, 1, none⟩) (.inr hS) _).setCell (p := ⟨b, 3, none⟩) (.inr hS) _
  have hz2 := c2.size
  refine ⟨c3, fun x => x = b ∨ Sn x ∨ S2 x, ⟨⟨v2, vn, _, T', S2, Sn, Nil, hb2, ?_, ?_, sliceAt_nil _ _ _ _, ⟨?_, n2, fun f => f⟩, ?_, fun x _ f => f, fun x _ f => f, ?_⟩, .inl rfl, ?_, hi⟩, ?_⟩
  · exact hs.keep c2 (fun x hx e => by have := (hS2 x hx).1; have : x = b := e; omega)
  · exact (hn.keep hc (fun _ _ f => f)).keep c2 (fun x hx e => n2 (e ▸ hx))
  · intro e; have := (hS2 _ e).1; omega
  · intro x e e2; have := (hS2 _ e).1; have := hl x (h6 x (.inr (.inl e2))); omega
  · intro x h; rcases h with h | h | h
    · exact .inr (.inr h)
    · exact .inr (.inl h)
    · exact h.elim
  · intro x h; rcases h with h | h | h
    · omega
    · have := hl x (h6 x (.inr (.inl h))); omega
    · have := (hS2 _ h).2; omega
  · intro x h; rcases h with h | h | h
    · subst h; exact .inl hS
    · exact .inl (h6 x (.inr (.inl h)))
    · exact .inr ⟨(hS2 _ h).1, by have := (hS2 _ h).2; omega⟩
def pFlush (d : PDisk) : PDisk × Nat := if (pSpend d).2 = true then ({ (pSpend d).1 with kept := (pSpend d).1.now, waits := [] }, 0) else ((pSpend d).1, 15)
theorem flush_any {B : Nat} (ad : Nat → Addr) (b : Nat) (d : PDisk) (S : Nat → Prop) (w : World) (he : Env B ad [15] w) (hB : ∀ x, S x → B ≤ x) (ht : DiskAt w b d S) (hf : d.now.length ≤ 4000) :
    Calls Tryz.prog 34 #[.pointer (some ⟨b, 0, none⟩)] w fun e w' => e = .returned (errV ad (pFlush d).2) ∧ DiskPost S w b (pFlush d).1 w' := by
  have hlt := ht.2.2.1
  have HE := Lib.hid he
  have hsp := spend_any b d S w ht
  obtain ⟨d1, hd1⟩ : ∃ d1, d1 = (pSpend d).1 := ⟨_, rfl⟩
  have hnow := (pSpend_same d).2.1
  unfold pFlush
  rw [← hd1] at hsp hnow ⊢
  rw [← hnow] at hf
  have hbl := lt_of_block ht.1.choose_spec.choose_spec.choose_spec.choose_spec.choose_spec.choose_spec.choose_spec.1
  clear ht hd1 hnow
  by_cases h : (pSpend d).2 = true
  · rw [h] at hsp
    rw [if_pos h]
    clear h he
    go_enter Tryz.func34, Tryz.ntmps34
    go_wp2_with fail
    refine hsp.mono ?_
    rintro e w1 ⟨rfl, hp1⟩
    have HP := Lib.hid hp1
    obtain ⟨hc1, S1, ht1, hg1⟩ := hp1
    have HT := Lib.hid ht1
    obtain ⟨⟨vk, vn, vw, T', Sk, Sn, Sw, hb, hk, hn, hw, ⟨n1, n2, n3⟩, h3, h4, h5, h6⟩, hS, hl, hi⟩ := ht1
    have HN := Lib.hid hn
    have HBL := Lib.hid hb
    have d2 := cell_of hb 2
    simp at d2
    obtain ⟨an, cn, rfl⟩ := hn.shape
    clear hb hk hn hw hc1 hg1 hi
    go_wp2_with fail
    refine (clone_str _ _ _ Sn w1 HN.out (strC_ones _) (by omega)).mono ?_
    rintro e w2 ⟨v2, S2, rfl, hc2, hs2, hS2⟩
    have hb2 := hc2.keep HBL.out (fun f => f)
    have f1 := free_of hb2 1
    have f3 := free_of hb2 3
    have k1 := cell_of hb2 1
    have k3 := cell_of hb2 3
    simp at k1 k3
    obtain ⟨a2, c2, rfl⟩ := hs2.shape
    have HC2 := Lib.hid hc2
    have HS2 := Lib.hid hs2
    have hbl2 := lt_of_block hb2
    clear hb2 hc2 hs2
    go_wp2_with fail
    go_ret
    exact ⟨rfl, HP.out.trans hlt (fun S1' h1 => flush_done h1 HC2.out HS2.out hS2)⟩
  · have h' : (pSpend d).2 = false := by simpa using h
    rw [h'] at hsp
    rw [if_neg h]
    clear h h' he
    go_enter Tryz.func34, Tryz.ntmps34
    go_wp2_with fail
    refine hsp.mono ?_
    rintro e w1 ⟨rfl, hp1⟩
    have HP := Lib.hid hp1
    obtain ⟨g1, g1l⟩ := (HE.out.keep hp1.1 hB).get (c := 15) (by simp)
    simp only [gl] at g1 g1l
    clear hp1
    go_wp2_with fail
    go_ret
    exact ⟨rfl, HP.out⟩

/- disk.Write by contract. -/

def padS (s : ByteArray) : ByteArray := s ++ zerosB (64 - s.size)
theorem info_dwrite : (Tryz.prog.info? 86).map (fun i => (i.zero, i.size, i.bytes)) = some (some (.agg #[.int .i64 0, .string ⟨#[]⟩]), 2, 24) := by kernel_rfl
theorem waitC_one (p : Int × ByteArray) : ∀ u ∈ waitC p, u.oneCell' = true := by
  intro u hu; simp [waitC] at hu; rcases hu with rfl | rfl <;> rfl
theorem DiskPost.step {S S1 : Nat → Prop} {w w1 w2 : World} {b : Nat} {d' : PDisk} (c1 : Chg S w w1) (g1 : Grow S S1 w w1) (q : DiskPost S1 w1 b d' w2) (hS : ∀ x, S x → x < w.heap.size) : DiskPost S w b d' w2 := by
  obtain ⟨c2, S2, a2, g2⟩ := q
  have hz := c1.size
  have hz2 := c2.size
  refine ⟨c1.trans c2 (fun x hx h => by rcases g1 x h with h | h; exact h; omega), S2, a2, fun x hx => ?_⟩
  rcases g2 x hx with h | h
  · rcases g1 x h with h | h
    · exact .inl h
    · exact .inr ⟨h.1, by omega⟩
  · exact .inr ⟨by omega, h.2⟩
theorem cell_new_at (w : World) {b : Nat} (news : List Value) (T : TypeId) (hb : b = w.heap.size) : ∀ j u, news[j]? = some u → (w.alloc (.cells news.toArray T)).cell? ((⟨b, 0, none⟩ : Addr).add j) = some u := by
  subst hb; exact cell_new_list w news T
theorem slice_len {w : World} {a : Option Addr} {n cap E size m : Nat} {xs : List Value} {S : Nat → Prop} (hn : SliceAt w (.slice a n cap) E size m xs S) : n = m := by
  obtain ⟨_, ⟨e, h⟩ | ⟨g', off', cap', cs, e, _⟩⟩ := hn
  · cases e; omega
  · cases e; rfl
/-- One sector stored anew. -/
theorem disk_sector {w : World} {b k g off n cap : Nat} {d : PDisk} {S : Nat → Prop} {vk vw : Value} {T' : TypeId} {Sk Sn Sw : Nat → Prop} {t : ByteArray}
    (hb : w.heap[b]? = some (.cells #[.int .i64 d.left, vk, .slice (some ⟨g, off, none⟩) n cap, vw] T' (0, 0)))
    (hk : SliceAt w vk 9 1 d.kept.length (d.kept.flatMap strC) Sk) (hn : SliceAt w (.slice (some ⟨g, off, none⟩) n cap) 9 1 d.now.length (d.now.flatMap strC) Sn) (hw : SliceAt w vw 86 2 d.waits.length (d.waits.flatMap waitC) Sw)
    (h1 : ¬ Sk b ∧ ¬ Sn b ∧ ¬ Sw b) (h2 : ∀ x, Sk x → ¬ Sn x) (h3 : ∀ x, Sk x → ¬ Sw x) (h4 : ∀ x, Sn x → ¬ Sw x) (h5 : ∀ x, Sk x ∨ Sn x ∨ Sw x → S x) (hS : S b) (hl : ∀ x, S x → x < w.heap.size) (hi : -1 ≤ d.left ∧ d.left ≤ 9223372036854775807) (hkl : k < d.now.length) :
    DiskPost S w b { d with now := d.now.set k t } (w.setCell ⟨g, off + k, none⟩ (.string t)) ∧ Sn g ∧ (w.setCell ⟨g, off + k, none⟩ (.string t)).heap[b]? = w.heap[b]? ∧ SliceAt (w.setCell ⟨g, off + k, none⟩ (.string t)) vw 86 2 d.waits.length (d.waits.flatMap waitC) Sw := by
  have hnn : n = d.now.length := slice_len hn
  obtain ⟨g', off', cap', cs, e, hb9, _, _, _, _, hg, hgl⟩ := hn.place (by omega)
  cases e
  have hset := SliceAt.setElem strC_len hn (k := k) hkl t
  have hse : w.setCells g (off + k * 1) (strC t) = w.setCell ⟨g, off + k, none⟩ (.string t) := by rw [Nat.mul_one]; rfl
  rw [hse] at hset
  have hgb : g ≠ b := fun e => h1.2.1 (e ▸ hg)
  have hc : Chg (· = g) w (w.setCell ⟨g, off + k, none⟩ (.string t)) := (Chg.refl (· = g) w).setCell (p := ⟨g, off + k, none⟩) (.inr rfl) _
  have hc2 : Chg S w (w.setCell ⟨g, off + k, none⟩ (.string t)) := (Chg.refl S w).setCell (p := ⟨g, off + k, none⟩) (.inr (h5 _ (.inr (.inl hg)))) _
  have hb2 := hc.keep hb (fun e => hgb e.symm)
  refine ⟨⟨hc2, S, ⟨⟨vk, _, vw, T', Sk, Sn, Sw, hb2, hk.keep hc (fun x hx e => h2 x hx (e ▸ hg)), ?_, hw.keep hc (fun x hx e => h4 g hg (e ▸ hx)), h1, h2, h3, h4, h5⟩, hS, fun x hx => Nat.lt_of_lt_of_le (hl x hx) hc.size, hi⟩, fun x hx => .inl hx⟩, hg, by rw [hb2, hb], hw.keep hc (fun x hx e => h4 g hg (e ▸ hx))⟩
  simpa using hset
def pWrite (d : PDisk) (n : Int) (s : ByteArray) : PDisk × Nat :=
  if n < 0 ∨ d.now.length ≤ n then (d, 2) else if 64 < s.size then (d, 3) else
  if (pSpend d).2 = true then ({ (pSpend d).1 with now := (pSpend d).1.now.set n.toNat (padS s), waits := (pSpend d).1.waits ++ [(n, padS s)] }, 0) else ((pSpend d).1, 15)
theorem write_done {w1 w2 w3 : World} {b k g off n cap : Nat} {d : PDisk} {S : Nat → Prop} {vk vw v3 : Value} {T' : TypeId} {Sk Sn Sw S3 : Nat → Prop} {t : ByteArray} {o : Obj}
    (hb : w1.heap[b]? = some (.cells #[.int .i64 d.left, vk, .slice (some ⟨g, off, none⟩) n cap, vw] T' (0, 0)))
    (hk : SliceAt w1 vk 9 1 d.kept.length (d.kept.flatMap strC) Sk) (hn : SliceAt w1 (.slice (some ⟨g, off, none⟩) n cap) 9 1 d.now.length (d.now.flatMap strC) Sn) (hw : SliceAt w1 vw 86 2 d.waits.length (d.waits.flatMap waitC) Sw)
    (h1 : ¬ Sk b ∧ ¬ Sn b ∧ ¬ Sw b) (h2 : ∀ x, Sk x → ¬ Sn x) (h3 : ∀ x, Sk x → ¬ Sw x) (h4 : ∀ x, Sn x → ¬ Sw x) (h5 : ∀ x, Sk x ∨ Sn x ∨ Sw x → S x) (hS : S b) (hl : ∀ x, S x → x < w1.heap.size) (hi : -1 ≤ d.left ∧ d.left ≤ 9223372036854775807) (hkl : k < d.now.length)
    (hc : Chg Nil w1 w2) (hs3 : SliceAt w3 v3 86 2 (d.waits.length + 1) (d.waits.flatMap waitC ++ waitC ((k : Int), t)) S3) (hc3 : Chg Sw ((w2.setCell ⟨g, off + k, none⟩ (.string t)).alloc o) w3) (hg3 : Grow Sw S3 ((w2.setCell ⟨g, off + k, none⟩ (.string t)).alloc o) w3) :
    DiskPost S w1 b { d with now := d.now.set k t, waits := d.waits ++ [((k : Int), t)] } (w3.setCell ⟨b, 3, none⟩ v3) := by
  obtain rfl := slice_len hn
  have z1 := hc.size
  have z3 := hc3.size
  simp at z3
  have hb' := hc.keep hb (fun f => f)
  have hbl := lt_of_block hb
  obtain ⟨⟨c4, S4, a4, g4⟩, hg, _, _⟩ := disk_sector (t := t) hb' (hk.keep hc (fun _ _ f => f)) (hn.keep hc (fun _ _ f => f)) (hw.keep hc (fun _ _ f => f)) h1 h2 h3 h4 h5 hS (fun x hx => Nat.lt_of_lt_of_le (hl x hx) z1) hi hkl
  have hgb : g ≠ b := fun e => h1.2.1 (e ▸ hg)
  have hset := SliceAt.setElem strC_len (hn.keep hc (fun _ _ f => f)) (k := k) hkl t
  have hse : w2.setCells g (off + k * 1) (strC t) = w2.setCell ⟨g, off + k, none⟩ (.string t) := by rw [Nat.mul_one]; rfl
  rw [hse] at hset
  have hc5 : Chg (· = g) w2 (w2.setCell ⟨g, off + k, none⟩ (.string t)) := (Chg.refl (· = g) w2).setCell (p := ⟨g, off + k, none⟩) (.inr rfl) _
  have hc6 : Chg (· = g) w2 ((w2.setCell ⟨g, off + k, none⟩ (.string t)).alloc o) := hc5.alloc _
  have hb6 := hc6.keep hb' (fun e => hgb e.symm)
  have hb3 := hc3.keep hb6 h1.2.2
  have hb7 := block_setCell hb3 3 v3
  simp at hb7
  have hc7 : Chg (· = b) w3 (w3.setCell ⟨b, 3, none⟩ v3) := (Chg.refl (· = b) w3).setCell (p := ⟨b, 3, none⟩) (.inr rfl) _
  have hgl : ∀ x, S x → x < w3.heap.size := fun x hx => by have := hl x hx; omega
  have hS3 : ∀ x, S3 x → S x ∨ (w1.heap.size ≤ x ∧ x < w3.heap.size) := fun x hx => by
    rcases hg3 x hx with h | h
    · exact .inl (h5 x (.inr (.inr h)))
    · simp at h; exact .inr ⟨by omega, h.2⟩
  have hS3b : ∀ x, S3 x → Sw x ∨ w1.heap.size ≤ x := fun x hx => by
    rcases hg3 x hx with h | h
    · exact .inl h
    · simp at h; exact .inr (by omega)
  have hS3n : ¬ S3 b := fun h => by rcases hS3b b h with h | h; exact h1.2.2 h; omega
  refine ⟨?_, fun x => S x ∨ S3 x, ⟨⟨vk, _, v3, T', Sk, Sn, S3, hb7, ?_, ?_, ?_, ⟨h1.1, h1.2.1, hS3n⟩, h2, ?_, ?_, ?_⟩, .inl hS, ?_, hi⟩, ?_⟩
  · have a1 : Chg S w1 ((w2.setCell ⟨g, off + k, none⟩ (.string t)).alloc o) := ((hc.nil).setCell (p := ⟨g, off + k, none⟩) (.inr (h5 _ (.inr (.inl hg)))) _).alloc _
    exact (a1.trans (hc3.mono (fun x _ hx => h5 x (.inr (.inr hx)))) (fun x _ h => h)).setCell (p := ⟨b, 3, none⟩) (.inr hS) _
  · exact (((hk.keep hc (fun _ _ f => f)).keep hc6 (fun x hx e => h2 x hx (e ▸ hg))).keep hc3 h3).keep hc7 (fun x hx e => h1.1 (e ▸ hx))
  · have := ((hset.keep ((Chg.refl Nil _).alloc o) (fun _ _ f => f)).keep hc3 h4).keep hc7 (fun x hx e => h1.2.1 (e ▸ hx))
    simpa using this
  · have := hs3.keep hc7 (fun x hx e => hS3n (e ▸ hx))
    simpa using this
  · intro x hx h; rcases hS3b x h with h | h
    · exact h3 x hx h
    · have := hl x (h5 x (.inl hx)); omega
  · intro x hx h; rcases hS3b x h with h | h
    · exact h4 x hx h
    · have := hl x (h5 x (.inr (.inl hx))); omega
  · intro x h; rcases h with h | h | h
    · exact .inl (h5 x (.inl h))
    · exact .inl (h5 x (.inr (.inl h)))
    · exact .inr h
  · intro x h; have hz7 := hc7.size; rcases h with h | h
    · have := hgl x h; omega
    · rcases hS3 x h with h | h
      · have := hgl x h; omega
      · omega
  · intro x h; have hz7 := hc7.size; rcases h with h | h
    · exact .inl h
    · rcases hS3 x h with h | h
      · exact .inl h
      · exact .inr ⟨h.1, by omega⟩

theorem write_any {B : Nat} (ad : Nat → Addr) (b : Nat) (n : Int) (s : ByteArray) (d : PDisk) (S : Nat → Prop) (w : World) (he : Env B ad [2, 3, 15] w) (hB : ∀ x, S x → B ≤ x) (ht : DiskAt w b d S) (hf : (d.waits.length + 1) * 24 ≤ 140737488355328) :
    Calls Tryz.prog 33 #[.pointer (some ⟨b, 0, none⟩), .int .i64 n, .string s] w fun e w' => e = .returned (errV ad (pWrite d n s).2) ∧ DiskPost S w b (pWrite d n s).1 w' := by
  have hlt := ht.2.2.1
  have HE := Lib.hid he
  have HT := Lib.hid ht
  obtain ⟨q2, q2l⟩ := he.get (c := 2) (by simp)
  obtain ⟨q3, q3l⟩ := he.get (c := 3) (by simp)
  simp only [gl] at q2 q2l q3 q3l
  obtain ⟨⟨vk, vn, vw, T', Sk, Sn, Sw, hb, _, hn, _⟩, _⟩ := ht
  obtain ⟨an, cn, rfl⟩ := hn.shape
  have hbl := lt_of_block hb
  have k2 := cell_of hb 2
  simp at k2
  clear hb hn he
  unfold pWrite
  by_cases hbad : n < 0 ∨ d.now.length ≤ n
  · rw [if_pos hbad]
    have hgo : n < 0 ∨ (¬ n < 0 ∧ (d.now.length : Int) ≤ n) := by omega
    clear hbad
    rcases hgo with h | ⟨h, h'⟩
    all_goals
      go_enter Tryz.func33, Tryz.ntmps33
      go_wp2_with fail
      go_ret
      exact ⟨rfl, disk_same HT.out⟩
  rw [if_neg hbad]
  obtain ⟨k, rfl⟩ : ∃ k : Nat, n = k := ⟨n.toNat, by omega⟩
  have g1 : ¬ ((k : Int) < 0) := by omega
  have g2 : ¬ ((d.now.length : Int) ≤ (k : Int)) := by omega
  have hkl : k < d.now.length := by omega
  clear hbad
  by_cases hs : 64 < s.size
  · rw [if_pos hs]
    have g3 : (64 : Int) < (s.size : Int) := by omega
    go_enter Tryz.func33, Tryz.ntmps33
    go_wp2_with fail
    go_ret
    exact ⟨rfl, disk_same HT.out⟩
  rw [if_neg hs]
  have g3 : ¬ ((64 : Int) < (s.size : Int)) := by omega
  have hs64 : s.size ≤ 64 := by omega
  have hsp := spend_any b d S w HT.out
  obtain ⟨d1, hd1⟩ : ∃ d1, d1 = (pSpend d).1 := ⟨_, rfl⟩
  have hnow := (pSpend_same d).2.1
  have hwt := (pSpend_same d).2.2
  rw [← hd1] at hsp hnow hwt ⊢
  clear hd1
  by_cases h : (pSpend d).2 = true
  · rw [h] at hsp
    rw [if_pos h]
    clear h
    go_enter Tryz.func33, Tryz.ntmps33
    go_wp2_with fail
    refine hsp.mono ?_
    rintro e w1 ⟨rfl, hp1⟩
    have HP := Lib.hid hp1
    obtain ⟨hc1, S1, ht1, hg1⟩ := hp1
    have HT1 := Lib.hid ht1
    obtain ⟨⟨vk, vn, vw, T', Sk, Sn, Sw, hb, hk, hn, hw, h1, h2, h3, h4, h5⟩, hS, hl, hi⟩ := ht1
    rw [← hnow] at hkl
    rw [← hwt] at hf
    clear hnow hwt
    obtain ⟨g, off, cap, cs, rfl, hb9, hn9, hcm9, _, hcl9, hg9, hgl9⟩ := hn.place (by omega)
    obtain ⟨z0, hz0⟩ : ∃ z, d1.now[k]? = some z := ⟨d1.now[k], List.getElem?_eq_getElem hkl⟩
    have hel := SliceAt.elem strC_len hn hz0 0 (.string z0) rfl
    have hgb : g ≠ b := fun e => h1.2.1 (e ▸ hg9)
    obtain ⟨aw, cw, rfl⟩ := hw.shape
    have HB := Lib.hid hb
    have HK := Lib.hid hk
    have HN := Lib.hid hn
    have HW := Lib.hid hw
    have HEL := Lib.hid hel
    have HH := Lib.hid (And.intro h1 (And.intro h2 (And.intro h3 (And.intro h4 h5))))
    have HS := Lib.hid (And.intro hS (And.intro hl hi))
    have hzz : ¬ (9223372036854775807 < s.size + (zerosB (64 - s.size)).size) := by rw [zerosB_size]; omega
    have hw1 : IntKind.i64.wrap (64 - (s.size : Int)) = ((64 - s.size : Nat) : Int) := by rw [IntWalk.i64_in _ (by omega)]; omega
    have HCG := Lib.hid (And.intro hc1 hg1)
    clear hb hk hn hw hc1 hg1 hi hcl9 hel hz0 h1 h2 h3 h4 h5 hS hl k2 q2 q2l q3 q3l hbl
    go_wp2_with fail
    refine (nuls_any (64 - s.size) _ (by omega)).mono ?_
    rintro e w2 ⟨rfl, hc2⟩
    have hb2 := hc2.keep HB.out (fun f => f)
    have e2 := (HN.out.keep hc2 (fun _ _ f => f)).elem strC_len (k := k) (List.getElem?_eq_getElem hkl) 0 _ rfl
    have e21 := e2.1
    have e22 := e2.2.1
    simp only [Nat.mul_one, Nat.add_zero] at e21 e22
    have k2 := cell_of hb2 2
    have k3 := cell_of hb2 3
    have f3 := free_of hb2 3
    simp at k2 k3
    obtain ⟨hDP, hg, hbS, hwS⟩ := disk_sector (t := s ++ zerosB (64 - s.size)) hb2 (HK.out.keep hc2 (fun _ _ f => f)) (HN.out.keep hc2 (fun _ _ f => f)) (HW.out.keep hc2 (fun _ _ f => f)) HH.out.1 HH.out.2.1 HH.out.2.2.1 HH.out.2.2.2.1 HH.out.2.2.2.2 HS.out.1 (fun x hx => Nat.lt_of_lt_of_le (HS.out.2.1 x hx) hc2.size) HS.out.2.2 hkl
    have HWS := Lib.hid hwS
    have HBS := Lib.hid (hbS.trans hb2)
    have HC2 := Lib.hid hc2
    have gb2 := lt_of_block hb2
    have gg2 := e2.2.2
    have g5 : k < cap := by omega
    clear hDP hg hbS hwS hb2 e2 hc2 hb9 hgl9 hn9
    go_wp2_with (at_builtin; go_loud (refine wpList_appendS (m := 1) (n := d1.waits.length) rfl _ _ 55 rfl Tryz.underlying55 info_dwrite rfl (by decide) rfl (HWS.out.keep ((Chg.refl Nil _).alloc _) (fun _ _ f => f)) rfl (waitC ((k : Int), s ++ zerosB (64 - s.size))) rfl (cell_new_at (w2.setCell ⟨g, off + k, none⟩ (.string (s ++ zerosB (64 - s.size)))) (waitC ((k : Int), s ++ zerosB (64 - s.size))) _ (by simp)) (waitC_one _) (by unfold maxLen; omega) (by omega) ?_); intro v3 w3 S3 hs3 hc3 hg3; obtain ⟨a3, c3, rfl⟩ := hs3.shape; have hb3 := hc3.keep (((Chg.refl Nil _).alloc _).keep HBS.out (fun f => f)) HH.out.1.2.2; have c33 := cell_of hb3 3; have f33 := free_of hb3 3; have gb3 := lt_of_block hb3; simp at c33; have HS3 := Lib.hid hs3; have HC3 := Lib.hid hc3; have HG3 := Lib.hid hg3; clear hb3 hs3 hc3 hg3)
    go_ret
    exact ⟨rfl, DiskPost.step HCG.out.1 HCG.out.2 (write_done HB.out HK.out HN.out HW.out HH.out.1 HH.out.2.1 HH.out.2.2.1 HH.out.2.2.2.1 HH.out.2.2.2.2 HS.out.1 HS.out.2.1 HS.out.2.2 hkl HC2.out HS3.out HC3.out HG3.out) hlt⟩
  · have h' : (pSpend d).2 = false := by simpa using h
    rw [h'] at hsp
    rw [if_neg h]
    clear h h'
    go_enter Tryz.func33, Tryz.ntmps33
    go_wp2_with fail
    refine hsp.mono ?_
    rintro e w1 ⟨rfl, hp1⟩
    have HP := Lib.hid hp1
    obtain ⟨g1, g1l⟩ := (HE.out.keep hp1.1 hB).get (c := 15) (by simp)
    simp only [gl] at g1 g1l
    clear hp1
    go_wp2_with fail
    go_ret
    exact ⟨rfl, HP.out⟩

/- disk.Copy by contract. -/

def DCopyPost (w : World) (d : PDisk) (e : Ending) (w' : World) : Prop := ∃ b S, e = .returned (.pointer (some ⟨b, 0, none⟩)) ∧ Chg Nil w w' ∧ DiskAt w' b d S ∧ ∀ x, S x → w.heap.size ≤ x
theorem dcopy_done {w w2 w3 w4 : World} {d : PDisk} {v2 v3 v4 : Value} {S2 S3 S4 : Nat → Prop} {T : TypeId} {z : Nat} (hz : w.heap.size ≤ z) (hz2 : z ≤ w2.heap.size) (c4 : Chg Nil w w4) (c23 : Chg Nil w2 w3) (c34 : Chg Nil w3 w4)
    (s2 : SliceAt w2 v2 9 1 d.kept.length (d.kept.flatMap strC) S2) (r2 : ∀ x, S2 x → z ≤ x ∧ x < w2.heap.size)
    (s3 : SliceAt w3 v3 9 1 d.now.length (d.now.flatMap strC) S3) (r3 : ∀ x, S3 x → w2.heap.size ≤ x ∧ x < w3.heap.size)
    (s4 : SliceAt w4 v4 86 2 d.waits.length (d.waits.flatMap waitC) S4) (r4 : ∀ x, S4 x → w3.heap.size ≤ x ∧ x < w4.heap.size) (hi : -1 ≤ d.left ∧ d.left ≤ 9223372036854775807) :
    DCopyPost w d (.returned (.pointer (some ⟨w4.heap.size, 0, none⟩))) (w4.alloc (.cells #[.int .i64 d.left, v2, v3, v4] T)) := by
  have z3 := c23.size
  have z4 := c34.size
  have hc := (Chg.refl Nil w4).alloc (.cells #[.int .i64 d.left, v2, v3, v4] T)
  refine ⟨w4.heap.size, fun x => x = w4.heap.size ∨ S2 x ∨ S3 x ∨ S4 x, rfl, c4.alloc _, ⟨⟨v2, v3, v4, T, S2, S3, S4, block_alloc _ _, ((s2.keep c23 (fun _ _ f => f)).keep c34 (fun _ _ f => f)).keep hc (fun _ _ f => f), (s3.keep c34 (fun _ _ f => f)).keep hc (fun _ _ f => f), s4.keep hc (fun _ _ f => f), ⟨fun h => ?_, fun h => ?_, fun h => ?_⟩, fun x h h' => ?_, fun x h h' => ?_, fun x h h' => ?_, fun x h => .inr h⟩, .inl rfl, fun x h => ?_, hi⟩, fun x h => ?_⟩
  · have := r2 _ h; omega
  · have := r3 _ h; omega
  · have := r4 _ h; omega
  · have := r2 _ h; have := r3 _ h'; omega
  · have := r2 _ h; have := r4 _ h'; omega
  · have := r3 _ h; have := r4 _ h'; omega
  · simp; rcases h with h | h | h | h
    · omega
    · have := r2 _ h; omega
    · have := r3 _ h; omega
    · have := r4 _ h; omega
  · rcases h with h | h | h | h
    · omega
    · have := r2 _ h; omega
    · have := r3 _ h; omega
    · have := r4 _ h; omega

/- disk.Crash by contract. -/

def flagC (x : Bool) : List Value := [.bool x]
theorem flagC_len (x : Bool) : (flagC x).length = 1 := rfl
def kStep (keep : List Bool) (l : List ByteArray) (k : Nat) (p : Int × ByteArray) : List ByteArray := if keep[k]? = some true then l.set p.1.toNat p.2 else l
def crashK (keep : List Bool) (waits : List (Int × ByteArray)) (kept : List ByteArray) : Nat → List ByteArray
  | 0 => kept
  | k + 1 => match waits[k]? with
    | some p => kStep keep (crashK keep waits kept k) k p
    | none => crashK keep waits kept k
theorem kStep_len (keep : List Bool) (l : List ByteArray) (k : Nat) (p : Int × ByteArray) : (kStep keep l k p).length = l.length := by
  unfold kStep; split <;> simp
theorem crashK_len (keep : List Bool) (waits : List (Int × ByteArray)) (kept : List ByteArray) : ∀ k, (crashK keep waits kept k).length = kept.length
  | 0 => rfl
  | k + 1 => by
    have := crashK_len keep waits kept k
    unfold crashK
    split
    · rw [kStep_len, this]
    · exact this
def pCrash (d : PDisk) (keep : List Bool) : PDisk :=
  { left := -1, kept := crashK keep d.waits d.kept d.waits.length, now := crashK keep d.waits d.kept d.waits.length, waits := [] }
def RelCr (keep : List Bool) (waits : List (Int × ByteArray)) (kept : List ByteArray) (vk : Value) (Sk : Nat → Prop) (w : World) (i : Value) (wr : World) : Prop :=
  ∃ k : Nat, k ≤ waits.length ∧ i = .int .i64 k ∧ Chg Sk w wr ∧ SliceAt wr vk 9 1 kept.length ((crashK keep waits kept k).flatMap strC) Sk

theorem crash_done {w wr w2 : World} {b : Nat} {l0 : Int} {K : List ByteArray} {n : Nat} {vk vn vw v2 : Value} {T' : TypeId} {S Sk S2 : Nat → Prop} (hb : w.heap[b]? = some (.cells #[.int .i64 l0, vk, vn, vw] T' (0, 0))) (hkr : SliceAt wr vk 9 1 n (K.flatMap strC) Sk) (hKn : K.length = n)
    (n1 : ¬ Sk b) (h5 : ∀ x, Sk x → S x) (hS : S b) (hl : ∀ x, S x → x < w.heap.size) (hC : Chg Sk w wr) (hc : Chg Nil wr w2) (hs : SliceAt w2 v2 9 1 n (K.flatMap strC) S2) (hS2 : ∀ x, S2 x → wr.heap.size ≤ x ∧ x < w2.heap.size) :
    DiskPost S w b ⟨-1, K, K, []⟩ (((w2.setCell ⟨b, 2, none⟩ v2).setCell ⟨b, 3, none⟩ (.slice none 0 0)).setCell ⟨b, 0, none⟩ (.int .i64 (-1))) := by
  subst hKn
  have z1 := hC.size
  have z2 := hc.size
  have hbl := lt_of_block hb
  have hb1 := hc.keep (hC.keep hb n1) (fun f => f)
  have hb2 := block_setCell (block_setCell (block_setCell hb1 2 v2) 3 (.slice none 0 0)) 0 (.int .i64 (-1))
  simp at hb2
  have c2 : Chg (· = b) w2 (((w2.setCell ⟨b, 2, none⟩ v2).setCell ⟨b, 3, none⟩ (.slice none 0 0)).setCell ⟨b, 0, none⟩ (.int .i64 (-1))) := (((Chg.refl (· = b) w2).setCell (p := ⟨b, 2, none⟩) (.inr rfl) _).setCell (p := ⟨b, 3, none⟩) (.inr rfl) _).setCell (p := ⟨b, 0, none⟩) (.inr rfl) _
  have c1 : Chg S w w2 := (hC.mono (fun x _ hx => h5 x hx)).trans hc.nil (fun x _ h => h)
  have c3 : Chg S w (((w2.setCell ⟨b, 2, none⟩ v2).setCell ⟨b, 3, none⟩ (.slice none 0 0)).setCell ⟨b, 0, none⟩ (.int .i64 (-1))) := ((c1.setCell (p := ⟨b, 2, none⟩) (.inr hS) _).setCell (p := ⟨b, 3, none⟩) (.inr hS) _).setCell (p := ⟨b, 0, none⟩) (.inr hS) _
  have z3 := c2.size
  refine ⟨c3, fun x => x = b ∨ Sk x ∨ S2 x, ⟨⟨vk, v2, _, T', Sk, S2, Nil, hb2, (hkr.keep hc (fun _ _ f => f)).keep c2 (fun x hx e => n1 (e ▸ hx)), hs.keep c2 (fun x hx e => by have := (hS2 x hx).1; have : x = b := e; omega), sliceAt_nil _ _ _ _, ⟨n1, ?_, fun f => f⟩, ?_, fun x _ f => f, fun x _ f => f, ?_⟩, .inl rfl, ?_, by show (-1 : Int) ≤ -1; omega, by show (-1 : Int) ≤ 9223372036854775807; omega⟩, ?_⟩
  · intro e; have := (hS2 _ e).1; omega
  · intro x e e2; have := (hS2 _ e2).1; have := hl x (h5 x e); omega
  · intro x h; rcases h with h | h | h
    · exact .inr (.inl h)
    · exact .inr (.inr h)
    · exact h.elim
  · intro x h; rcases h with h | h | h
    · omega
    · have := hl x (h5 x h); omega
    · have := (hS2 _ h).2; omega
  · intro x h; rcases h with h | h | h
    · subst h; exact .inl hS
    · exact .inl (h5 x h)
    · exact .inr ⟨by have := (hS2 _ h).1; omega, by have := (hS2 _ h).2; omega⟩

theorem crash_any (b : Nat) (d : PDisk) (S Kb : Nat → Prop) (w : World) (keep : List Bool) (vkeep : Value) (ht : DiskAt w b d S) (hkp : SliceAt w vkeep 4 1 keep.length (keep.flatMap flagC) Kb) (hKl : ∀ x, Kb x → x < w.heap.size) (hKb : ∀ x, Kb x → ¬ S x) (f1 : d.kept.length ≤ 4000) (hin : ∀ p ∈ d.waits, 0 ≤ p.1 ∧ p.1 < d.kept.length) :
    Calls Tryz.prog 13 #[.pointer (some ⟨b, 0, none⟩), vkeep] w fun e w' => e = .returned (.tuple #[]) ∧ DiskPost S w b (pCrash d keep) w' := by
  have hlt := ht.2.2.1
  have HT := Lib.hid ht
  obtain ⟨⟨vk, vn, vw, T', Sk, Sn, Sw, hb, hk, hn, hw, ⟨n1, n2, n3⟩, h2, h3, h4, h5⟩, hS, _, _⟩ := ht
  obtain ⟨ak, ck, rfl⟩ := hk.shape
  obtain ⟨aw, cw, rfl⟩ := hw.shape
  obtain ⟨ab, cb, rfl⟩ := hkp.shape
  have hbl := lt_of_block hb
  have c1 := cell_of hb 1
  have c3 := cell_of hb 3
  simp at c1 c3
  have hwl := hw.le
  have hkl := hkp.le
  have HB := Lib.hid hb
  have HK := Lib.hid hk
  have HW := Lib.hid hw
  have HKP := Lib.hid hkp
  have HIN := Lib.hid hin
  clear hb hk hn hw hkp hin
  go_enter Tryz.func13, Tryz.ntmps13
  go_wp2_with fail
  go_loopw [11] (fun i wr => RelCr keep d.waits d.kept (.slice ak d.kept.length ck) Sk w i wr) (fun i _ => (d.waits.length - intOf i).toNat)
  case atStart => exact ⟨0, Nat.zero_le _, rfl, Chg.refl _ _, HK.out⟩
  case round =>
    obtain ⟨k, hkn, rfl, hC, hsk⟩ := hrel
    have HSK := Lib.hid hsk
    have HC := Lib.hid hC
    have hz := hC.size
    have d1 := (hC.keep HB.out n1)
    have e1 := cell_of d1 1
    simp at e1
    clear hsk
    rcases Nat.lt_or_ge k d.waits.length with hlt2 | hge
    · obtain ⟨p, hp⟩ : ∃ p, d.waits[k]? = some p := ⟨d.waits[k], List.getElem?_eq_getElem hlt2⟩
      obtain ⟨g, off, cap, cs, e, hb9, hn9, hcm9, _, hcl9, hg9, hgl9⟩ := HW.out.place (by omega)
      cases e
      have hwr := HW.out.keep hC (fun x hx h => h3 x h hx)
      have w0 := (hwr.elem waitC_len hp 0 (.int .i64 p.1) rfl).1
      have w1 := (hwr.elem waitC_len hp 1 (.string p.2) rfl).1
      simp only [Nat.add_zero] at w0
      have hpin := HIN.out p (List.mem_of_getElem? hp)
      obtain ⟨p1, p2⟩ := p
      obtain ⟨q, rfl⟩ : ∃ q : Nat, p1 = q := ⟨p1.toNat, by have := hpin.1; simp at this; omega⟩
      have hq : q < d.kept.length := by have := hpin.2; simp at this; omega
      simp only at w0 w1
      have gwr := Nat.lt_of_lt_of_le hgl9 hz
      have bwr := Nat.lt_of_lt_of_le hbl hz
      have hkw : (k : Int) < (d.waits.length : Int) := by omega
      have hkc : k < cw := by omega
      have hw1 : IntKind.i64.wrap ((k : Int) + 1) = ((k + 1 : Nat) : Int) := by rw [IntWalk.i64_in _ (by omega)]; rfl
      have hstep : crashK keep d.waits d.kept (k + 1) = kStep keep (crashK keep d.waits d.kept k) k ((q : Int), p2) := by rw [crashK, hp]
      have HST := Lib.hid hstep
      clear hb9 hcl9 hwr hpin d1 hC hstep hp
      by_cases hkk : k < keep.length
      · obtain ⟨x, hx⟩ : ∃ x, keep[k]? = some x := ⟨keep[k], List.getElem?_eq_getElem hkk⟩
        obtain ⟨gb, offb, capb, csb, e, _, hnb, _, _, _, hgb, hgbl⟩ := HKP.out.place (by omega)
        cases e
        have hkr := HKP.out.keep HC.out (fun y hy h => hKb y hy (h5 y (.inl h)))
        have x0 := (hkr.elem flagC_len hx 0 (.bool x) rfl).1
        simp only [Nat.mul_one, Nat.add_zero] at x0
        have gbr := Nat.lt_of_lt_of_le hgbl hz
        have hkcb : k < cb := by omega
        have hkl2 : (k : Int) < (keep.length : Int) := by omega
        clear hkr
        rcases x with _ | _
        · go_wp2_with fail
          refine ⟨⟨k + 1, by omega, rfl, HC.out.alloc _, ?_⟩, by simp [intOf]; omega⟩
          rw [HST.out, kStep, if_neg (by rw [hx]; simp)]
          exact HSK.out.keep ((Chg.refl Nil wr).alloc _) (fun _ _ f => f)
        · obtain ⟨gk, offk, capk, csk, e, _, hnk, _, _, _, hgk, hgkl⟩ := HSK.out.place (by omega)
          cases e
          have hlq : q < (crashK keep d.waits d.kept k).length := by rw [crashK_len]; exact hq
          have y := HSK.out.elem strC_len (List.getElem?_eq_getElem hlq) 0 _ rfl
          have y0 := y.1
          have y1 := y.2.1
          simp only [Nat.mul_one, Nat.add_zero] at y0 y1
          have hqk : q < ck := by omega
          have hqI : (q : Int) < (d.kept.length : Int) := by omega
          clear y
          go_wp2_with fail
          go_region
          go_wp2_with fail
          refine ⟨⟨k + 1, by omega, rfl, ((HC.out.setCell (p := ⟨gk, offk + q, none⟩) (.inr hgk) _).alloc _).drew, ?_⟩, by simp [intOf]; omega⟩
          have hset := SliceAt.setElem strC_len (HSK.out.mono (fun _ h => h)) (k := q) hlq p2
          have hse : wr.setCells gk (offk + q * 1) (strC p2) = wr.setCell ⟨gk, offk + q, none⟩ (.string p2) := by rw [Nat.mul_one]; rfl
          rw [hse] at hset
          rw [HST.out, kStep, if_pos hx]
          exact hset.keep (((Chg.refl Nil _).alloc _).drew) (fun _ _ f => f)
      · have hkl2 : ¬ ((k : Int) < (keep.length : Int)) := by omega
        have hx : keep[k]? = none := List.getElem?_eq_none (by omega)
        go_wp2_with fail
        refine ⟨⟨k + 1, by omega, rfl, HC.out.alloc _, ?_⟩, by simp [intOf]; omega⟩
        rw [HST.out, kStep, if_neg (by rw [hx]; simp)]
        exact HSK.out.keep ((Chg.refl Nil wr).alloc _) (fun _ _ f => f)
    · have hk : k = d.waits.length := by omega
      subst hk
      go_wp2_with fail
      refine (clone_str _ _ _ Sk wr HSK.out (strC_ones _) (by omega)).mono ?_
      rintro e w2 ⟨v2, S2, rfl, hc2, hs2, hS2⟩
      obtain ⟨a2, c2, rfl⟩ := hs2.shape
      have hb2 := hc2.keep d1 (fun f => f)
      have f0 := free_of hb2 0
      have f2 := free_of hb2 2
      have f3 := free_of hb2 3
      have k0 := cell_of hb2 0
      have k2 := cell_of hb2 2
      have k3 := cell_of hb2 3
      simp at k0 k2 k3
      have gb2 := lt_of_block hb2
      have HC2 := Lib.hid hc2
      have HS2 := Lib.hid hs2
      clear hb2 hc2 hs2 d1 hC
      go_wp2_with fail
      go_end0
      exact ⟨rfl, crash_done HB.out HSK.out (crashK_len _ _ _ _) n1 (fun x hx => h5 x (.inl hx)) hS hlt HC.out HC2.out HS2.out hS2⟩

/- law4's spun: a closed fact of disks. -/

theorem spun_plain : pWrite (pNew 2) 1 ⟨#[120]⟩ = (⟨-1, List.replicate 2 (zerosB 64), [zerosB 64, padS ⟨#[120]⟩], [(1, padS ⟨#[120]⟩)]⟩, 0) := by
  unfold pWrite pSpend pNew
  simp [List.replicate, ByteArray.size, List.set]
theorem padx : (padS ⟨#[120]⟩).size = 64 ∧ (padS ⟨#[120]⟩).data[0]? = some 120 := by
  constructor
  · unfold padS; rw [ByteArray.size_append, zerosB_size]; rfl
  · unfold padS; rw [ByteArray.data_append, Array.getElem?_append_left (by decide)]; rfl

/- law4's bulky and doAct by contract. -/

def shXAct : Sh := .and .str (.and .int (.and .str (.and (.slice .bool) .unit)))
abbrev XAct := ByteArray × Int × ByteArray × (Option Addr × Nat × List Bool) × Unit
def kwW : ByteArray := ⟨#[119, 114, 105, 116, 101]⟩
def kwF : ByteArray := ⟨#[102, 108, 117, 115, 104]⟩
def kwP : ByteArray := ⟨#[102, 97, 105, 108]⟩
def kwC : ByteArray := ⟨#[99, 114, 97, 115, 104]⟩
def pAct (d : PDisk) (k : ByteArray) (n : Int) (s : ByteArray) (keep : List Bool) : PDisk × Nat :=
  if k = kwW then pWrite d n s else if k = kwF then pFlush d else if k = kwP then pFail d n else if k = kwC then (pCrash d keep, 0) else (d, 0)
theorem text_ne {k : ByteArray} {l : List UInt8} (h : ¬ k = ⟨l.toArray⟩) : (k.toList == l) = false := by
  rw [beq_eq_false_iff_ne]
  intro e
  apply h
  have e2 : k.data.toList = l := by rw [← e]; exact (ByteArray.toList_eq k).symm
  obtain ⟨d⟩ := k
  simp only at e2
  subst e2
  rfl
theorem xact_cells {W : World} {ab : Nat} {v0 v1 v2 v3 : Value} {T : TypeId} (hb : W.heap[ab]? = some (.cells #[v0, v1, v2, v3] T (0, 0))) :
    W.cell? ⟨ab, 1, none⟩ = some v1 ∧ W.cell? ⟨ab, 2, none⟩ = some v2 ∧ W.cell? ⟨ab, 3, none⟩ = some v3 := ⟨by simp [cell_of hb], by simp [cell_of hb], by simp [cell_of hb]⟩
theorem flag_ones (l : List Bool) : ∀ u ∈ l.flatMap flagC, u.oneCell' = true := fun u hu => by
  obtain ⟨p, _, hp⟩ := List.mem_flatMap.1 hu
  simp [flagC] at hp; subst hp; rfl
theorem flag_get (l : List Bool) (j : Nat) : (l.flatMap flagC)[j]? = (l[j]?).map (fun x => .bool x) := by
  rcases Nat.lt_or_ge j l.length with h | h
  · have := flat_get (size := 1) flagC flagC_len l j 0 _ (List.getElem?_eq_getElem h) (by omega)
    rw [Nat.mul_one, Nat.add_zero] at this
    rw [this, List.getElem?_eq_getElem h]; rfl
  · rw [List.getElem?_eq_none h, List.getElem?_eq_none (by rw [flat_len flagC flagC_len]; omega)]; rfl

theorem doAct_any {B B2 : Nat} (ad : Nat → Addr) (b : Nat) (k : ByteArray) (n : Int) (s : ByteArray) (ka : Option Addr) (kc : Nat) (keep : List Bool) (d : PDisk) (S : Nat → Prop) (w : World) (he : Env B ad [2, 3, 15] w) (hB : ∀ x, S x → B ≤ x) (ht : DiskAt w b d S)
    (hn : n ≤ 9223372036854775807) (hf : (d.waits.length + 1) * 24 ≤ 140737488355328) (hk : keep.length ≤ 140737488355327) (hB2 : B2 ≤ w.heap.size) (hks : (Sh.slice .bool).At w B2 (ka, kc, keep))
    (f1 : d.kept.length ≤ 4000) (f2 : d.now.length ≤ 4000) (hin : ∀ p ∈ d.waits, 0 ≤ p.1 ∧ p.1 < d.kept.length) :
    Calls Tryz.prog 12 #[.pointer (some ⟨b, 0, none⟩), .agg #[.string k, .int .i64 n, .string s, .slice ka keep.length kc]] w fun e w' => e = .returned (errV ad (pAct d k n s keep).2) ∧ DiskPost S w b (pAct d k n s keep).1 w' := by
  have hlt := ht.2.2.1
  have hSb := ht.2.1
  have hA := (Chg.refl Nil w).alloc (.cells #[.string k, .int .i64 n, .string s, .slice ka keep.length kc] 40)
  have HA := Lib.hid (hA)
  have hsz : (w.alloc (.cells #[.string k, .int .i64 n, .string s, .slice ka keep.length kc] 40)).heap.size = w.heap.size + 1 := by simp
  have HT := Lib.hid (ht.keep hA (fun _ _ f => f))
  have HE := Lib.hid (he.keepN hA)
  have HBK := Lib.hid (block_alloc w (.cells #[.string k, .int .i64 n, .string s, .slice ka keep.length kc] 40))
  have hst : ∀ (d' : PDisk) (w2 : World), DiskPost S (w.alloc (.cells #[.string k, .int .i64 n, .string s, .slice ka keep.length kc] 40)) b d' w2 → DiskPost S w b d' w2 := fun _ _ q => DiskPost.step (hA.nil) (Grow.refl _ _ _) q hlt
  have HST := Lib.hid hst
  have HIN := Lib.hid hin
  have HKS := Lib.hid hks
  have AA := Lib.hid hA
  clear hst hA ht he hin hks hsz
  unfold pAct
  by_cases k1 : k = kwW
  · rw [if_pos k1]
    subst k1
    unfold kwW at *
    go_enter Tryz.func12, Tryz.ntmps12
    go_wp2_with fail
    refine (write_any (B := B) ad b n s d S _ HE.out hB HT.out hf).mono ?_
    rintro e w2 ⟨rfl, hp⟩
    go_wp2_with fail
    go_ret
    exact ⟨rfl, HST.out _ _ hp⟩
  rw [if_neg k1]
  have q1 : (k.toList == [119, 114, 105, 116, 101]) = false := text_ne k1
  clear k1
  by_cases k2 : k = kwF
  · rw [if_pos k2]
    subst k2
    clear q1
    unfold kwF at *
    go_enter Tryz.func12, Tryz.ntmps12
    go_wp2_with fail
    refine (flush_any (B := B) ad b d S _ (HE.out.sub (by decide)) hB HT.out f2).mono ?_
    rintro e w2 ⟨rfl, hp⟩
    go_wp2_with fail
    go_ret
    exact ⟨rfl, HST.out _ _ hp⟩
  rw [if_neg k2]
  have q2 : (k.toList == [102, 108, 117, 115, 104]) = false := text_ne k2
  clear k2
  by_cases k3 : k = kwP
  · rw [if_pos k3]
    subst k3
    clear q1 q2
    unfold kwP at *
    have c1 := (xact_cells HBK.out).1
    go_enter Tryz.func12, Tryz.ntmps12
    go_wp2_with fail
    go_region_held3 (fun w' => w'.cell? ⟨w.heap.size, 1, none⟩ = some (.int .i64 n))
      (first | exact (xact_cells HBK.out).1 | exact HK2.out | go_keep)
      (first | (go_at_call 19; refine (fail_any (B := B) ad b n d S _ ?_ ?_ hn).mono ?_; exact (HE.out.keepN ((Chg.refl Nil _).drew)).sub (by decide); exact HT.out.keep ((Chg.refl Nil _).drew) (fun _ _ f => f); rintro e w2 ⟨rfl, hp⟩; have HK2 := Lib.hid ((xact_cells (hp.1.keep ((Chg.refl Nil _).drew.keep HBK.out (fun f => f)) (fun h => by have := hlt _ h; omega))).1)))
    go_wp2_with fail
    go_ret
    exact ⟨rfl, HST.out _ _ (DiskPost.step ((Chg.refl S _).drew) (Grow.refl _ _ _) hp (fun x hx => by have := hlt x hx; simp; omega))⟩
  rw [if_neg k3]
  have q3 : (k.toList == [102, 97, 105, 108]) = false := text_ne k3
  clear k3
  by_cases k4 : k = kwC
  · rw [if_pos k4]
    subst k4
    clear q1 q2 q3
    unfold kwC at *
    have c3 := (xact_cells HBK.out).2.2
    have done : ∀ (vkeep : Value) (Kb : Nat → Prop) (w2 : World), SliceAt w2 vkeep 4 1 keep.length (keep.flatMap flagC) Kb → (∀ x, Kb x → w.heap.size ≤ x ∧ x < w2.heap.size) → Chg Nil (w.alloc (.cells #[.string ⟨#[99, 114, 97, 115, 104]⟩, .int .i64 n, .string s, .slice ka keep.length kc] 40)) w2 →
        Calls Tryz.prog 13 #[.pointer (some ⟨b, 0, none⟩), vkeep] w2 fun e w' => e = .returned (.tuple #[]) ∧ DiskPost S w b (pCrash d keep) w' := by
      intro vkeep Kb w2 h1 h2 h3
      refine (crash_any b d S Kb w2 keep vkeep (HT.out.keep h3 (fun _ _ f => f)) h1 (fun x hx => (h2 x hx).2) (fun x hx h => by have := (h2 x hx).1; have := hlt x h; omega) f1 HIN.out).mono ?_
      rintro e w3 ⟨rfl, hp⟩
      exact ⟨rfl, HST.out _ _ (DiskPost.step (h3.nil) (Grow.refl _ _ _) hp (fun x hx => by have := hlt x hx; simp; omega))⟩
    have DONE := Lib.hid done
    clear done
    cases ka with
    | none =>
      have h0 : keep = [] := by
        rcases keep with _ | ⟨x, l⟩
        · rfl
        · obtain ⟨_, g, off, e, _⟩ := HKS.out.2.2 0 x rfl
          cases e
      subst h0
      go_enter Tryz.func12, Tryz.ntmps12
      go_wp2_with fail
      refine (DONE.out (.slice none 0 0) Nil _ (sliceAt_nil _ _ _ _) (fun x f => f.elim) (Chg.refl _ _)).mono ?_
      rintro e w2 ⟨rfl, hp⟩
      go_wp2_with fail
      go_ret
      exact ⟨rfl, hp⟩
    | some ka =>
      have hnews : ∀ j u, (keep.flatMap flagC)[j]? = some u → (w.alloc (.cells #[.string ⟨#[99, 114, 97, 115, 104]⟩, .int .i64 n, .string s, .slice (some ka) keep.length kc] 40)).cell? (ka.add j) = some u := by
        intro j u hu
        rw [flag_get] at hu
        obtain ⟨x, hx, rfl⟩ : ∃ x, keep[j]? = some x ∧ .bool x = u := by simpa using hu
        obtain ⟨_, g, off, e, hg, hc⟩ := HKS.out.2.2 j x hx
        cases e
        rw [Addr.add_lit]
        have := hc 0 (.bool x) rfl
        rw [show off + j * Sh.bool.size + 0 = off + j by simp [Sh.size]] at this
        exact (AA.out.cell (p := ⟨g, off + j, none⟩) (Nat.lt_of_lt_of_le hg hB2) (fun f => f)).trans this
      have HNEWS := Lib.hid hnews
      clear hnews
      go_enter Tryz.func12, Tryz.ntmps12
      go_wp2_with (at_builtin; go_loud (refine wpList_appendS (n := 0) (m := keep.length) rfl _ _ 38 rfl Tryz.underlying38 info_bool rfl (by decide) rfl (sliceAt_nil _ _ _ Nil) rfl (keep.flatMap flagC) (flat_len flagC flagC_len keep) HNEWS.out (flag_ones keep) (by unfold maxLen; omega) (by omega) ?_); intro v2 w2 S2 hs2 hc2 hg2; obtain ⟨a2, cap2, rfl⟩ := hs2.shape)
      rw [Nat.zero_add, List.nil_append] at hs2
      refine (DONE.out _ S2 w2 hs2 (fun x hx => ?_) hc2).mono ?_
      · rcases hg2 x hx with h | h
        · exact h.elim
        · exact ⟨by have := h.1; simp at this; omega, h.2⟩
      rintro e w3 ⟨rfl, hp⟩
      go_wp2_with fail
      go_ret
      exact ⟨rfl, hp⟩
  rw [if_neg k4]
  have q4 : (k.toList == [99, 114, 97, 115, 104]) = false := text_ne k4
  clear k4
  go_enter Tryz.func12, Tryz.ntmps12
  go_wp2_with fail
  go_ret
  exact ⟨rfl, HST.out _ _ (disk_same HT.out)⟩

/- law4's bulky by contract; what acts leave as it is. -/

def RelBk (n : Nat) (w : World) (v i : Value) (wr : World) : Prop := ∃ (k : Nat) (m : Int), k ≤ n ∧ v = .int .i64 m ∧ i = .int .i64 k ∧ Chg Nil w wr
/-- Acts as an argument. -/
def ActsAt (w : World) (B : Nat) (a0 : Option Addr) (cap : Nat) (acts : List XAct) : Prop := (Sh.slice shXAct).At w B (a0, cap, acts) ∧ (Sh.slice shXAct).Sz (a0, cap, acts)
theorem ActsAt.keep {w w' : World} {B : Nat} {a0 : Option Addr} {cap : Nat} {acts : List XAct} (h : ActsAt w B a0 cap acts) (hB : B ≤ w.heap.size) (c : Chg Nil w w') : ActsAt w' B a0 cap acts := ⟨Sh.At.keep c hB (fun _ f => f.elim) _ _ h.1, h.2⟩
theorem xact_read {w wr : World} {B : Nat} {a0 : Option Addr} {cap k : Nat} {acts : List XAct} {x : XAct} (h : ActsAt w B a0 cap acts) (hB : B ≤ w.heap.size) (hC : Chg Nil w wr) (hx : acts[k]? = some x) :
    ∃ g off, a0 = some ⟨g, off, none⟩ ∧ g < wr.heap.size ∧ wr.cell? ⟨g, off + k * 4, none⟩ = some (.string x.1) ∧ wr.cell? ⟨g, off + k * 4 + 1, none⟩ = some (.int .i64 x.2.1) ∧ wr.cell? ⟨g, off + k * 4 + 2, none⟩ = some (.string x.2.2.1) ∧
      wr.cell? ⟨g, off + k * 4 + 3, none⟩ = some (.slice x.2.2.2.1.1 x.2.2.2.1.2.2.length x.2.2.2.1.2.1) ∧ x.2.1 ≤ 9223372036854775807 ∧ x.2.2.1.size ≤ 140737488355327 ∧ x.2.2.2.1.2.2.length ≤ 140737488355327 ∧ (Sh.slice .bool).At w B x.2.2.2.1 := by
  obtain ⟨⟨h1, h2, h3⟩, h4, h5⟩ := h
  obtain ⟨hxa, g, off, e, hg, hcx⟩ := h3 k x hx
  have hxz := h5 k x hx
  obtain ⟨kind, n, s, ⟨ka, kc, kl⟩, u⟩ := x
  obtain ⟨_, ⟨_, hn⟩, _, hk, _⟩ := hxa
  obtain ⟨_, _, hs, ⟨hkz, _⟩, _⟩ := hxz
  have c0 := (hC.cell (p := ⟨g, off + k * 4 + 0, none⟩) (Nat.lt_of_lt_of_le hg hB) (fun f => f)).trans (hcx 0 _ rfl)
  have c1 := (hC.cell (p := ⟨g, off + k * 4 + 1, none⟩) (Nat.lt_of_lt_of_le hg hB) (fun f => f)).trans (hcx 1 _ rfl)
  have c2 := (hC.cell (p := ⟨g, off + k * 4 + 2, none⟩) (Nat.lt_of_lt_of_le hg hB) (fun f => f)).trans (hcx 2 _ rfl)
  have c3 := (hC.cell (p := ⟨g, off + k * 4 + 3, none⟩) (Nat.lt_of_lt_of_le hg hB) (fun f => f)).trans (hcx 3 _ rfl)
  have hk1 := hk.1
  simp only [Sh.bytes, Nat.mul_one] at hkz
  exact ⟨g, off, e, Nat.lt_of_lt_of_le hg (Nat.le_trans hB hC.size), c0, c1, c2, c3, hn, hs, Nat.le_trans hk1 hkz, hk⟩

theorem bulky_any {B : Nat} (a0 : Option Addr) (cap : Nat) (acts : List XAct) (w : World) (hB : B ≤ w.heap.size) (hs : ActsAt w B a0 cap acts) :
    Calls Tryz.prog 7 #[.slice a0 acts.length cap] w fun e w' => (∃ t : Bool, e = .returned (.bool t)) ∧ Chg Nil w w' := by
  have hl1 : acts.length ≤ 9223372036854775807 := Nat.le_trans hs.1.1 hs.1.2.1
  have hcap : acts.length ≤ cap := hs.1.1
  have HC := Lib.hid hs
  clear hs
  go_enter Tryz.func7, Tryz.ntmps7
  go_wp2_with fail
  go_loopw [3, 4] (fun v i wr => RelBk acts.length w v i wr) (fun _ i _ => (acts.length - intOf i).toNat)
  case atStart => exact ⟨0, 0, Nat.zero_le _, rfl, rfl, Chg.refl _ _⟩
  case round =>
    obtain ⟨k, m, hk, rfl, rfl, hC⟩ := hrel
    by_cases hlt : k < acts.length
    · obtain ⟨x, hx⟩ : ∃ x, acts[k]? = some x := ⟨acts[k], List.getElem?_eq_getElem hlt⟩
      obtain ⟨g, off, rfl, hg, c0, c1, c2, c3, _, _, _, _⟩ := xact_read HC.out hB hC hx
      obtain ⟨kind, n, s, ⟨ka, kc, kl⟩, u⟩ := x
      simp only at c0 c1 c2 c3
      have j1 : (k : Int) < (acts.length : Int) := by omega
      have j0 : (0 : Int) ≤ (k : Int) := by omega
      have j2 : k < cap := by omega
      clear hx c0 c1
      go_wp2_with fail
      go_quiet (fail)
      go_wp2_with fail
      go_roundw
      case rel => exact ⟨k + 1, _, by omega, rfl, by go_num, hC.drewsN _⟩
      case measure => simp [intOf]; omega
    · go_wp2_with fail
      go_ret
      exact ⟨⟨_, rfl⟩, hC⟩

/-- What acts keep: n sectors, waiting writes of them, so many at most. -/
structure POk (n m : Nat) (d : PDisk) : Prop where
  kept : d.kept.length = n
  now : d.now.length = n
  ins : ∀ p ∈ d.waits, 0 ≤ p.1 ∧ p.1 < n
  few : d.waits.length ≤ m
theorem pok_new (n : Nat) : POk n 0 (pNew n) := ⟨by simp [pNew], by simp [pNew], fun p hp => (by simp [pNew] at hp), Nat.le_refl _⟩
theorem POk.spend {n m : Nat} {d : PDisk} (h : POk n m d) : POk n m (pSpend d).1 := by
  obtain ⟨h1, h2, h3⟩ := pSpend_same d
  exact ⟨by rw [h1]; exact h.kept, by rw [h2]; exact h.now, by rw [h3]; exact h.ins, by rw [h3]; exact h.few⟩
theorem POk.more {n m : Nat} {d : PDisk} (h : POk n m d) : POk n (m + 1) d := ⟨h.kept, h.now, h.ins, Nat.le_succ_of_le h.few⟩
theorem POk.act {n m : Nat} {d : PDisk} (h : POk n m d) (k : ByteArray) (i : Int) (s : ByteArray) (keep : List Bool) : POk n (m + 1) (pAct d k i s keep).1 := by
  unfold pAct
  split
  · unfold pWrite
    split
    · exact h.more
    · rename_i hb
      split
      · exact h.more
      · split
        · have hs := h.spend
          refine ⟨hs.kept, by simp [hs.now], fun p hp => ?_, by simp; exact hs.few⟩
          simp only [List.mem_append, List.mem_singleton] at hp
          rcases hp with hp | rfl
          · exact hs.ins p hp
          · have := h.now; simp only; omega
        · exact h.spend.more
  · split
    · unfold pFlush
      split
      · exact ⟨h.spend.now, h.spend.now, fun p hp => (by cases hp), Nat.zero_le _⟩
      · exact h.spend.more
    · split
      · unfold pFail
        split
        · exact h.more
        · exact ⟨h.kept, h.now, h.ins, Nat.le_succ_of_le h.few⟩
      · split
        · exact ⟨by simp [pCrash, crashK_len, h.kept], by simp [pCrash, crashK_len, h.kept], fun p hp => (by cases hp), Nat.zero_le _⟩
        · exact h.more
theorem crashK_nil (waits : List (Int × ByteArray)) (kept : List ByteArray) : ∀ k, crashK [] waits kept k = kept
  | 0 => rfl
  | k + 1 => by
    unfold crashK
    have := crashK_nil waits kept k
    split
    · unfold kStep; rw [if_neg (by simp)]; exact this
    · exact this
theorem crash_nil (d : PDisk) : pCrash d [] = ⟨-1, d.kept, d.kept, []⟩ := by unfold pCrash; rw [crashK_nil]
theorem flush_then (K : List ByteArray) : pFlush ⟨-1, K, K, []⟩ = (⟨-1, K, K, []⟩, 0) := by unfold pFlush pSpend; simp
theorem write_then (K : List ByteArray) (at' : Nat) (s : ByteArray) (h : at' < K.length) (hs : s.size ≤ 64) : pWrite ⟨-1, K, K, []⟩ at' s = (⟨-1, K, K.set at' (padS s), [((at' : Int), padS s)]⟩, 0) := by
  unfold pWrite pSpend
  simp only
  rw [if_neg (by omega), if_neg (by omega)]; simp
theorem crash_one (K N : List ByteArray) (at' : Nat) (t : ByteArray) (keep : Bool) : pCrash ⟨-1, K, N, [((at' : Int), t)]⟩ [keep] = ⟨-1, if keep then K.set at' t else K, if keep then K.set at' t else K, []⟩ := by
  unfold pCrash
  cases keep <;> simp [crashK, kStep]
theorem read_in (d : PDisk) (i : Nat) (t : ByteArray) (h : d.now[i]? = some t) : pRead d i = (t, 0) := by
  obtain ⟨hl, rfl⟩ := List.getElem?_eq_some_iff.1 h
  unfold pRead
  rw [if_neg (by omega)]
  simp [List.getD, h]

/- The plain disk (package disk's own texts). -/

section
/- A log on a disk, plainly: what is told when it is opened; what a call makes of it; the power's going. (LogPd: the plain disk of package disk.) No condition. -/
open Go.Lib
theorem flatMap_same {α β : Type} {l : List α} {f g : α → List β} (h : ∀ x ∈ l, f x = g x) : l.flatMap f = l.flatMap g := by
  rw [List.flatMap_def, List.flatMap_def, List.map_congr_left h]
def tx (s : ByteArray) : Tx := s.data.toList
theorem tx_len (s : ByteArray) : (tx s).length = s.size := by unfold tx ByteArray.size; simp
theorem tx_inj {s t : ByteArray} (h : tx s = tx t) : s = t := by
  cases s; cases t; unfold tx at h; simpa using h
theorem tx_app (s t : ByteArray) : tx (s ++ t) = tx s ++ tx t := by unfold tx; simp
theorem tx_zeros (n : Nat) : tx (zerosB n) = List.replicate n 0 := by unfold tx zerosB; simp
theorem tx_pad (s : ByteArray) : tx (padS s) = tx s ++ List.replicate (64 - s.size) 0 := by unfold padS; rw [tx_app, tx_zeros]
theorem tx_cut (s : ByteArray) (a b : Nat) : tx (s.extract a b) = ((tx s).take b).drop a := by
  unfold tx
  rw [ByteArray.data_extract, Array.toList_extract]
  simp [List.extract, List.drop_take]
def ofT (l : Tx) : ByteArray := ⟨l.toArray⟩
theorem tx_of (l : Tx) : tx (ofT l) = l := by unfold tx ofT; simp
theorem size_of (l : Tx) : (ofT l).size = l.length := by rw [← tx_len, tx_of]
def halfOf (n : Nat) : Nat := (n - 2) / 2
/-- What a head's sector tells, where it may count. -/
def candP (now : List ByteArray) (k : Nat) : Option (Nat × Nat × Nat) := match now[k]? with
  | some s => match headP (tx s) with
    | some (c, h, z) => if z % 64 = 0 ∧ z ≤ halfOf now.length * 64 then some (c, h, z) else none
    | none => none
  | none => none
def betterP : Option (Nat × Nat × Nat) → Option (Nat × Nat × Nat) → Option (Nat × Nat × Nat)
  | none, b => b
  | some a, none => some a
  | some a, some b => if b.1 > a.1 then some b else some a
def bestP (now : List ByteArray) : Option (Nat × Nat × Nat) := betterP (candP now 0) (candP now 1)
def dataP (now : List ByteArray) (h z : Nat) : Tx := (List.range (z / 64)).flatMap fun i => tx (now.getD (2 + h * halfOf now.length + i) ⟨#[]⟩)
/-- What Open tells: none: no log. -/
def openP (now : List ByteArray) : Option ((Nat × Nat × Nat) × List Tx) := match bestP now with
  | none => none
  | some (c, h, z) => (recP (dataP now h z)).map fun rs => ((c, h, z), rs)
/-- The packs that lie behind one another. -/
def packs (pk : List (List Tx)) : Tx := pk.flatMap packB
theorem packs_mod : ∀ (pk : List (List Tx)), (packs pk).length % 64 = 0
  | [] => rfl
  | p :: pk => by
    have h1 := (packB_len p).1
    have h2 := packs_mod pk
    unfold packs at h2 ⊢
    rw [List.flatMap_cons, List.length_append]; omega
theorem recP_packs : ∀ (pk : List (List Tx)), (∀ p ∈ pk, ∀ r ∈ p, r.length < ten10) → recP (packs pk) = some pk.flatten
  | [], _ => recP_nil
  | p :: pk, h => by
    have e : packs (p :: pk) = packB p ++ packs pk := by unfold packs; rw [List.flatMap_cons]
    rw [e, recP_pack (h p (by simp)) (packs_mod pk), recP_packs pk fun q hq => h q (List.mem_cons_of_mem _ hq)]
    rfl
structure Valid (n : Nat) (now : List ByteArray) (c h z : Nat) (pk : List (List Tx)) : Prop where
  len : now.length = n
  n8 : 8 ≤ n
  n4 : n ≤ 4000
  sz : ∀ s ∈ now, s.size = 64
  hc : c < ten10
  hh : h < 2
  hz : z % 64 = 0 ∧ z ≤ halfOf n * 64
  head : candP now (c % 2) = some (c, h, z)
  other : ∀ x, candP now ((c + 1) % 2) = some x → x.1 < c
  data : dataP now h z = packs pk
  few : ∀ p ∈ pk, ∀ r ∈ p, r.length < ten10
section
variable {n c h z : Nat} {now : List ByteArray} {pk : List (List Tx)}
theorem Valid.open (v : Valid n now c h z pk) : openP now = some ((c, h, z), pk.flatten) := by
  have hb : bestP now = some (c, h, z) := by
    unfold bestP
    have h1 := v.head
    have h2 := v.other
    rcases Nat.mod_two_eq_zero_or_one c with e | e
    · have e' : (c + 1) % 2 = 1 := by omega
      rw [e] at h1; rw [e'] at h2
      rw [h1]
      cases hq : candP now 1 with
      | none => rfl
      | some x =>
        have := h2 x hq
        show (if x.1 > c then some x else some (c, h, z)) = _
        rw [if_neg (by omega)]
    · have e' : (c + 1) % 2 = 0 := by omega
      rw [e] at h1; rw [e'] at h2
      rw [h1]
      cases hq : candP now 0 with
      | none => rfl
      | some x =>
        have := h2 x hq
        show (if c > x.1 then some (c, h, z) else some x) = _
        rw [if_pos (by omega)]
  unfold openP
  rw [hb]
  simp only
  rw [v.data, recP_packs pk v.few]
  rfl
theorem cand_same {now now' : List ByteArray} (hl : now'.length = now.length) {k : Nat} (h : now'[k]? = now[k]?) : candP now' k = candP now k := by unfold candP; rw [h, hl]
theorem data_same {now now' : List ByteArray} (hl : now'.length = now.length) {h z : Nat} (hd : ∀ i, i < z / 64 → now'[2 + h * halfOf now.length + i]? = now[2 + h * halfOf now.length + i]?) : dataP now' h z = dataP now h z := by
  unfold dataP
  rw [hl]
  refine flatMap_same fun i hi => ?_
  rw [List.getD_eq_getElem?_getD, List.getD_eq_getElem?_getD, hd i (List.mem_range.1 hi)]
theorem Valid.same {now' : List ByteArray} (v : Valid n now c h z pk) (hl : now'.length = now.length) (hs : ∀ s ∈ now', s.size = 64) (hk : ∀ k, k < 2 → now'[k]? = now[k]?) (hd : ∀ i, i < z / 64 → now'[2 + h * halfOf n + i]? = now[2 + h * halfOf n + i]?) : Valid n now' c h z pk :=
  ⟨hl.trans v.len, v.n8, v.n4, hs, v.hc, v.hh, v.hz, (cand_same hl (hk _ (by omega))).trans v.head, fun x hx => v.other x ((cand_same hl (hk _ (by omega))).symm.trans hx), (data_same hl (by rw [v.len]; exact hd)).trans v.data, v.few⟩
def headS (c h z : Nat) : ByteArray := ofT (headB c h z)
theorem headS_size {c h z : Nat} (hc : c < ten10) (hh : h < 2) (hz : z < ten10) : (headS c h z).size = 46 := by unfold headS; rw [size_of, headB_len hc (by unfold ten10; omega) hz]
/-- The new head counts. -/
theorem Valid.commit {now2 : List ByteArray} {k z2 : Nat} {pk2 : List (List Tx)} (v : Valid n now c h z pk) (hl : now2.length = n) (hs : ∀ s ∈ now2, s.size = 64) (hn : now2[(c + 1) % 2]? = some (padS (headS (c + 1) k z2))) (ho : now2[c % 2]? = now[c % 2]?) (hk : k < 2) (hz2 : z2 % 64 = 0 ∧ z2 ≤ halfOf n * 64) (hc : c + 1 < ten10) (hd : dataP now2 k z2 = packs pk2) (hf : ∀ p ∈ pk2, ∀ r ∈ p, r.length < ten10) : Valid n now2 (c + 1) k z2 pk2 := by
  have hzt : z2 < ten10 := by have := v.n4; unfold halfOf at hz2; unfold ten10; omega
  refine ⟨hl, v.n8, v.n4, hs, hc, hk, hz2, ?_, fun x hx => ?_, hd, hf⟩
  · unfold candP
    rw [hn]
    simp only
    rw [tx_pad, show tx (headS (c + 1) k z2) = headB (c + 1) k z2 from tx_of _, headP_pad hc hk hzt]
    simp only
    rw [hl, if_pos hz2]
  · rw [show (c + 1 + 1) % 2 = c % 2 by omega, cand_same (hl.trans v.len.symm) ho, v.head] at hx
    cases hx; exact Nat.lt_succ_self c
/-! ### Writes -/
/-- A disk on which writes have gone to the sectors from lo to hi alone. -/
structure Gone (d d' : PDisk) (lo hi : Nat) : Prop where
  kept : d'.kept = d.kept
  len : d'.now.length = d.now.length
  out : ∀ k, k < lo ∨ hi ≤ k → d'.now[k]? = d.now[k]?
  waits : ∀ p ∈ d'.waits, p ∈ d.waits ∨ (lo ≤ p.1.toNat ∧ p.1.toNat < hi ∧ p.2.size = 64)
  sz : (∀ s ∈ d.now, s.size = 64) → ∀ s ∈ d'.now, s.size = 64
  left : d.left = -1 → d'.left = -1
theorem Gone.refl (d : PDisk) (lo hi : Nat) : Gone d d lo hi := ⟨rfl, rfl, fun _ _ => rfl, fun p hp => .inl hp, fun h => h, fun h => h⟩
theorem Gone.trans {d d1 d2 : PDisk} {lo hi : Nat} (a : Gone d d1 lo hi) (b : Gone d1 d2 lo hi) : Gone d d2 lo hi :=
  ⟨b.kept.trans a.kept, b.len.trans a.len, fun k hk => (b.out k hk).trans (a.out k hk), fun p hp => (b.waits p hp).elim (a.waits p) .inr, fun h => b.sz (a.sz h), fun h => b.left (a.left h)⟩
theorem Gone.wide {d d' : PDisk} {lo hi lo' hi' : Nat} (a : Gone d d' lo hi) (h1 : lo' ≤ lo) (h2 : hi ≤ hi') : Gone d d' lo' hi' :=
  ⟨a.kept, a.len, fun k hk => a.out k (by omega), fun p hp => (a.waits p hp).imp id fun q => ⟨by omega, by omega, q.2.2⟩, a.sz, a.left⟩
theorem spend_left {d : PDisk} (h : d.left = -1) : (pSpend d).2 = true ∧ (pSpend d).1.left = -1 := by
  unfold pSpend; rw [if_neg (by omega), if_neg (by omega)]; exact ⟨rfl, h⟩
theorem padS_size {s : ByteArray} (h : s.size ≤ 64) : (padS s).size = 64 := by unfold padS; rw [ByteArray.size_append, zerosB_size]; omega
/-- One write in its bounds. -/
theorem write_in {d : PDisk} {k : Nat} {s : ByteArray} (hk : k < d.now.length) (hs : s.size ≤ 64) : Gone d (pWrite d (k : Int) s).1 k (k + 1) ∧ ((pWrite d (k : Int) s).2 = 0 ∨ (pWrite d (k : Int) s).2 = 15) ∧ (d.left = -1 → (pWrite d (k : Int) s).2 = 0) ∧
    ((pWrite d (k : Int) s).2 = 0 → (pWrite d (k : Int) s).1.now[k]? = some (padS s) ∧ (pWrite d (k : Int) s).1.waits = d.waits ++ [((k : Int), padS s)]) := by
  obtain ⟨e1, e2, e3⟩ := pSpend_same d
  unfold pWrite
  rw [if_neg (by omega), if_neg (by omega)]
  split
  · rename_i hq
    refine ⟨⟨e1, by simp [e2], fun j hj => ?_, fun p hp => ?_, fun h s' hs' => ?_, fun h => (spend_left h).2⟩, .inl rfl, fun _ => rfl, fun _ => ⟨?_, by rw [e3]⟩⟩
    · show (List.set _ _ _)[j]? = _
      rw [e2, List.getElem?_set_ne (by omega)]
    · have hp : p ∈ (pSpend d).1.waits ++ [((k : Int), padS s)] := hp
      rw [e3] at hp
      rcases List.mem_append.1 hp with hp | hp
      · exact .inl hp
      · rw [List.mem_singleton.1 hp]
        exact .inr ⟨by simp, by simp, padS_size hs⟩
    · have hs' : s' ∈ (pSpend d).1.now.set (k : Int).toNat (padS s) := hs'
      rw [e2] at hs'
      rcases List.mem_or_eq_of_mem_set hs' with hm | rfl
      · exact h s' hm
      · exact padS_size hs
    · show (List.set _ _ _)[k]? = _
      rw [e2, show (k : Int).toNat = k by omega, List.getElem?_set_self hk]
  · rename_i hq
    refine ⟨⟨e1, by rw [e2], fun j hj => by rw [e2], fun p hp => .inl (by rw [e3] at hp; exact hp), fun h s' hs' => h s' (by rw [e2] at hs'; exact hs'), fun h => (spend_left h).2⟩, .inr rfl, fun h => absurd (spend_left h).1 hq, fun h => (by cases h)⟩
/-- A text's sectors, one behind the other. -/
def cut64 (s : ByteArray) (i : Nat) : ByteArray := s.extract (64 * i) (64 * i + 64)
theorem cut64_size {s : ByteArray} {m i : Nat} (hs : s.size = 64 * m) (hi : i < m) : (cut64 s i).size = 64 := by
  unfold cut64; rw [ByteArray.size_extract]; omega
theorem cut64_pad {s : ByteArray} {m i : Nat} (hs : s.size = 64 * m) (hi : i < m) : padS (cut64 s i) = cut64 s i := by
  refine tx_inj ?_
  rw [tx_pad, cut64_size hs hi]; simp
theorem cut64_all {s : ByteArray} {m : Nat} (hs : s.size = 64 * m) : ((List.range m).flatMap fun i => tx (cut64 s i)) = tx s := by
  have key : ∀ j, j ≤ m → ((List.range j).flatMap fun i => tx (cut64 s i)) = (tx s).take (64 * j) := fun j => by
    induction j with
    | zero => intro _; simp
    | succ j ih =>
      intro hj
      rw [List.range_succ, List.flatMap_append, ih (by omega)]
      have e : tx (cut64 s j) = ((tx s).take (64 * j + 64)).drop (64 * j) := tx_cut s _ _
      simp only [List.flatMap_cons, List.flatMap_nil, List.append_nil]
      rw [e, show 64 * (j + 1) = 64 * j + 64 by omega]
      have : (tx s).take (64 * j) = ((tx s).take (64 * j + 64)).take (64 * j) := by rw [List.take_take, Nat.min_eq_left (by omega)]
      rw [this, List.take_append_drop]
  rw [key m (Nat.le_refl _), List.take_of_length_le (by rw [tx_len]; omega)]
/-- So many of a text's sectors written. -/
def wrN (d : PDisk) (first : Nat) (s : ByteArray) : Nat → PDisk × Nat
  | 0 => (d, 0)
  | j + 1 => if (wrN d first s j).2 = 0 then pWrite (wrN d first s j).1 ((first + j : Nat) : Int) (cut64 s j) else wrN d first s j
theorem wrN_in {d : PDisk} {first m : Nat} {s : ByteArray} (hs : s.size = 64 * m) (hf : first + m ≤ d.now.length) : ∀ j, j ≤ m → Gone d (wrN d first s j).1 first (first + m) ∧ ((wrN d first s j).2 = 0 ∨ (wrN d first s j).2 = 15) ∧ (d.left = -1 → (wrN d first s j).2 = 0) ∧
    ((wrN d first s j).2 = 0 → ∀ i, i < j → (wrN d first s j).1.now[first + i]? = some (cut64 s i))
  | 0, _ => ⟨Gone.refl _ _ _, .inl rfl, fun _ => rfl, fun _ i hi => absurd hi (by omega)⟩
  | j + 1, hj => by
    obtain ⟨h1, h2, h3, h4⟩ := wrN_in hs hf j (by omega)
    unfold wrN
    split
    · rename_i h0
      have hl := h1.len
      obtain ⟨g1, g2, g3, g4⟩ := write_in (d := (wrN d first s j).1) (k := first + j) (s := cut64 s j) (by omega) (by rw [cut64_size hs (by omega)]; omega)
      refine ⟨h1.trans (g1.wide (by omega) (by omega)), g2, fun h => g3 (h1.left h), fun h i hi => ?_⟩
      by_cases e : i = j
      · subst e; rw [(g4 h).1, cut64_pad hs (by omega)]
      · rw [g1.out (first + i) (by omega)]; exact h4 h0 i (by omega)
    · rename_i h0
      exact ⟨h1, h2, h3, fun h => absurd h h0⟩
theorem flush_at (d : PDisk) : ((pFlush d).2 = 0 ∨ (pFlush d).2 = 15) ∧ (d.left = -1 → (pFlush d).2 = 0 ∧ (pFlush d).1.left = -1) ∧ (pFlush d).1.now = d.now ∧ ((pFlush d).2 = 0 → (pFlush d).1.kept = d.now ∧ (pFlush d).1.waits = []) ∧ ((pFlush d).2 = 15 → (pFlush d).1.kept = d.kept ∧ (pFlush d).1.waits = d.waits) := by
  obtain ⟨e1, e2, e3⟩ := pSpend_same d
  unfold pFlush
  split
  · exact ⟨.inl rfl, fun h => ⟨rfl, (spend_left h).2⟩, e2, fun _ => ⟨e2, rfl⟩, fun h => (by cases h)⟩
  · rename_i hq
    exact ⟨.inr rfl, fun h => absurd (spend_left h).1 hq, e2, fun h => (by cases h), fun _ => ⟨e1, e3⟩⟩
/-- What a log's write makes of a disk; an error's number. -/
def logWr (n : Nat) (d : PDisk) (c k z : Nat) (s : ByteArray) : PDisk × Nat :=
  let r1 := wrN d (2 + k * halfOf n + z / 64) s (s.size / 64)
  if r1.2 = 0 then
    let r2 := pFlush r1.1
    if r2.2 = 0 then
      let r3 := pWrite r2.1 (((c + 1) % 2 : Nat) : Int) (headS (c + 1) k (z + s.size))
      if r3.2 = 0 then pFlush r3.1 else r3
    else r2
  else r1
structure Quiet (d : PDisk) : Prop where
  kept : d.kept = d.now
  waits : d.waits = []
theorem crash_out {keep : List Bool} {waits : List (Int × ByteArray)} {kept : List ByteArray} {lo hi : Nat} (hw : ∀ p ∈ waits, lo ≤ p.1.toNat ∧ p.1.toNat < hi ∧ p.2.size = 64) : ∀ m, (∀ k, k < lo ∨ hi ≤ k → (crashK keep waits kept m)[k]? = kept[k]?) ∧ ((∀ s ∈ kept, s.size = 64) → ∀ s ∈ crashK keep waits kept m, s.size = 64)
  | 0 => ⟨fun _ _ => rfl, fun h => h⟩
  | m + 1 => by
    obtain ⟨h1, h2⟩ := crash_out (keep := keep) (kept := kept) hw m
    unfold crashK
    split
    · rename_i p hp
      have hq := hw p (List.mem_of_getElem? hp)
      unfold kStep
      split
      · refine ⟨fun k hk => ?_, fun h s hs => ?_⟩
        · rw [List.getElem?_set_ne (by omega)]; exact h1 k hk
        · rcases List.mem_or_eq_of_mem_set hs with hm | rfl
          · exact h2 h s hm
          · exact hq.2.2
      · exact ⟨h1, h2⟩
    · exact ⟨h1, h2⟩
/-- Where a call has to write: behind the records, or into the other half. -/
structure Place (n c h z k z1 : Nat) (pk pk1 : List (List Tx)) : Prop where
  at_ : (k = h ∧ z1 = z ∧ pk1 = pk) ∨ (k = 1 - h ∧ z1 = 0 ∧ pk1 = [])
theorem log_write {n c h z k z1 : Nat} {d : PDisk} {pk pk1 : List (List Tx)} {p : List Tx} {s : ByteArray} (v : Valid n d.now c h z pk) (q : Quiet d) (pl : Place n c h z k z1 pk pk1) (hs : tx s = packB p) (hp : ∀ r ∈ p, r.length < ten10) (hfit : z1 + s.size ≤ halfOf n * 64) (hc : c + 1 < ten10) :
    ((logWr n d c k z1 s).2 = 0 ∨ (logWr n d c k z1 s).2 = 15) ∧ (d.left = -1 → (logWr n d c k z1 s).2 = 0 ∧ (logWr n d c k z1 s).1.left = -1) ∧
    ((logWr n d c k z1 s).2 = 0 → Quiet (logWr n d c k z1 s).1 ∧ Valid n (logWr n d c k z1 s).1.now (c + 1) k (z1 + s.size) (pk1 ++ [p])) ∧
    ((logWr n d c k z1 s).2 = 15 → ∀ keep, (∃ h' z', Valid n (pCrash (logWr n d c k z1 s).1 keep).now c h' z' pk) ∨ (∃ h' z', Valid n (pCrash (logWr n d c k z1 s).1 keep).now (c + 1) h' z' (pk1 ++ [p]))) := by
  have hlen := v.len
  have hhalf : 2 + 2 * halfOf n ≤ n := by have := v.n8; unfold halfOf; omega
  have hm : s.size % 64 = 0 := by have := (packB_len p).1; rw [← hs, tx_len] at this; exact this
  obtain ⟨m, hsm⟩ : ∃ m, s.size = 64 * m := ⟨s.size / 64, by omega⟩
  have hmd : s.size / 64 = m := by omega
  have hk : k < 2 := by have := v.hh; rcases pl.at_ with ⟨rfl, _⟩ | ⟨rfl, _⟩ <;> omega
  have hz1 : z1 % 64 = 0 ∧ z1 ≤ halfOf n * 64 := by rcases pl.at_ with ⟨_, rfl, _⟩ | ⟨_, rfl, _⟩; exact v.hz; exact ⟨rfl, Nat.zero_le _⟩
  have hkb : k * halfOf n ≤ halfOf n := by rcases (show k = 0 ∨ k = 1 by omega) with rfl | rfl <;> omega
  have hkb2 : k * halfOf n + halfOf n ≤ 2 * halfOf n := by omega
  obtain ⟨first, hfirst⟩ : ∃ f, f = 2 + k * halfOf n + z1 / 64 := ⟨_, rfl⟩
  have hin : first + m ≤ d.now.length := by omega
  -- the old data lies elsewhere
  have hold : ∀ i, i < z / 64 → 2 + h * halfOf n + i < first ∨ first + m ≤ 2 + h * halfOf n + i := fun i hi => by
    have := v.hz
    have := v.hh
    rcases pl.at_ with ⟨rfl, rfl, _⟩ | ⟨rfl, rfl, _⟩
    · exact .inl (by omega)
    · rcases (show h = 0 ∨ h = 1 by omega) with rfl | rfl
      · left; simp at hfirst ⊢; omega
      · right; simp at hfirst ⊢; omega
  have keepOld : ∀ now', now'.length = d.now.length → (∀ s ∈ now', s.size = 64) → (∀ j, j < first ∨ first + m ≤ j → now'[j]? = d.now[j]?) → Valid n now' c h z pk := fun now' h1 h2 h3 => v.same h1 h2 (fun j hj => h3 j (by omega)) fun i hi => h3 _ (hold i hi)
  obtain ⟨g1, g2, g3, g4⟩ := wrN_in hsm hin m (Nat.le_refl _)
  obtain ⟨d1, e1, hr1⟩ : ∃ d1 e1, wrN d first s m = (d1, e1) := ⟨_, _, rfl⟩
  rw [hr1] at g1 g2 g3 g4
  simp only at g1 g2 g3 g4
  have hw1 : ∀ x ∈ d1.waits, first ≤ x.1.toNat ∧ x.1.toNat < first + m ∧ x.2.size = 64 := fun x hx => by
    rcases g1.waits x hx with hx | hx
    · rw [q.waits] at hx; cases hx
    · exact hx
  have hk1 : d1.kept = d.now := g1.kept.trans q.kept
  have crashOld : ∀ dd : PDisk, dd.kept = d1.kept → dd.waits = d1.waits → ∀ keep, Valid n (pCrash dd keep).now c h z pk := fun dd a b keep => by
    have hco := crash_out (keep := keep) (waits := dd.waits) (kept := dd.kept) (by rw [b]; exact hw1) dd.waits.length
    refine keepOld _ ?_ (hco.2 (by rw [a, hk1]; exact v.sz)) fun j hj => ?_
    · show (crashK _ _ _ _).length = _
      rw [crashK_len, a, hk1]
    · rw [show (pCrash dd keep).now[j]? = (crashK keep dd.waits dd.kept dd.waits.length)[j]? from rfl, hco.1 j hj, a, hk1]
  have elog : logWr n d c k z1 s = if e1 = 0 then (if (pFlush d1).2 = 0 then (if (pWrite (pFlush d1).1 (((c + 1) % 2 : Nat) : Int) (headS (c + 1) k (z1 + s.size))).2 = 0 then pFlush (pWrite (pFlush d1).1 (((c + 1) % 2 : Nat) : Int) (headS (c + 1) k (z1 + s.size))).1 else pWrite (pFlush d1).1 (((c + 1) % 2 : Nat) : Int) (headS (c + 1) k (z1 + s.size))) else pFlush d1) else (d1, e1) := by
    unfold logWr
    simp only
    rw [hmd, ← hfirst, hr1]
  rw [elog]
  by_cases c1 : e1 = 0
  case neg =>
    rw [if_neg c1]
    exact ⟨g2, fun hl => absurd (g3 hl) c1, fun he => absurd he c1, fun _ keep => .inl ⟨h, z, crashOld d1 rfl rfl keep⟩⟩
  rw [if_pos c1]
  obtain ⟨f1, f2, f3, f4, f5⟩ := flush_at d1
  obtain ⟨d2, e2, hr2⟩ : ∃ d2 e2, pFlush d1 = (d2, e2) := ⟨_, _, rfl⟩
  rw [hr2] at f1 f2 f3 f4 f5 ⊢
  simp only at f1 f2 f3 f4 f5 ⊢
  by_cases c2 : e2 = 0
  case neg =>
    rw [if_neg c2]
    exact ⟨f1, fun hl => absurd (f2 (g1.left hl)).1 c2, fun he => absurd he c2, fun he keep => .inl ⟨h, z, crashOld d2 (f5 he).1 (f5 he).2 keep⟩⟩
  rw [if_pos c2]
  obtain ⟨k2, w2⟩ := f4 c2
  have hzt : z1 + s.size < ten10 := by have := v.n4; unfold halfOf at hfit; unfold ten10; omega
  have hl2 : d2.now.length = n := by rw [f3, g1.len, hlen]
  have hs2 : ∀ t ∈ d2.now, t.size = 64 := by rw [f3]; exact g1.sz v.sz
  have hold2 : Valid n d2.now c h z pk := by rw [f3]; exact keepOld _ g1.len (g1.sz v.sz) g1.out
  obtain ⟨a1, a2, a3, a4⟩ := write_in (d := d2) (k := (c + 1) % 2) (s := headS (c + 1) k (z1 + s.size)) (by rw [hl2]; have := v.n8; omega) (by rw [headS_size hc hk hzt]; omega)
  obtain ⟨d3, e3, hr3⟩ : ∃ d3 e3, pWrite d2 (((c + 1) % 2 : Nat) : Int) (headS (c + 1) k (z1 + s.size)) = (d3, e3) := ⟨_, _, rfl⟩
  rw [hr3] at a1 a2 a3 a4 ⊢
  simp only at a1 a2 a3 a4 ⊢
  -- the data of the new log
  have hdat : ∀ now3 : List ByteArray, now3.length = n → (∀ j, 2 ≤ j → now3[j]? = d2.now[j]?) → dataP now3 k (z1 + s.size) = packs (pk1 ++ [p]) := fun now3 hl3 h3 => by
    have e : (z1 + s.size) / 64 = z1 / 64 + m := by omega
    unfold dataP
    rw [e, hl3]
    have hsplit : List.range (z1 / 64 + m) = List.range (z1 / 64) ++ (List.range m).map (z1 / 64 + ·) := List.range_add
    rw [hsplit, List.flatMap_append, List.flatMap_map]
    have p2 : ((List.range m).flatMap fun i => tx (now3.getD (2 + k * halfOf n + (z1 / 64 + i)) ⟨#[]⟩)) = tx s := by
      rw [← cut64_all hsm]
      refine flatMap_same fun i hi => ?_
      have hi := List.mem_range.1 hi
      rw [List.getD_eq_getElem?_getD, h3 _ (by omega), f3, show 2 + k * halfOf n + (z1 / 64 + i) = first + i by omega, g4 c1 i hi]
      rfl
    have p1 : ((List.range (z1 / 64)).flatMap fun i => tx (now3.getD (2 + k * halfOf n + i) ⟨#[]⟩)) = packs pk1 := by
      rcases pl.at_ with ⟨r1, r2, r3⟩ | ⟨_, r2, r3⟩
      · have := v.data
        unfold dataP at this
        rw [hlen] at this
        rw [r3, ← this, r1, r2]
        refine flatMap_same fun i hi => ?_
        have hi := List.mem_range.1 hi
        rw [List.getD_eq_getElem?_getD, List.getD_eq_getElem?_getD, h3 _ (by omega), f3, g1.out _ (.inl (by rw [hfirst, r1, r2]; omega))]
      · rw [r2, r3]; rfl
    rw [p1, p2, hs]
    unfold packs
    rw [List.flatMap_append]; simp
  have hfew : ∀ x ∈ pk1 ++ [p], ∀ r ∈ x, r.length < ten10 := fun x hx r hr => by
    rcases List.mem_append.1 hx with hx | hx
    · rcases pl.at_ with ⟨_, _, r3⟩ | ⟨_, _, r3⟩
      · rw [r3] at hx; exact v.few x hx r hr
      · rw [r3] at hx; cases hx
    · rw [List.mem_singleton.1 hx] at hr; exact hp r hr
  have hnew : ∀ now3 : List ByteArray, now3.length = n → (∀ t ∈ now3, t.size = 64) → now3[(c + 1) % 2]? = some (padS (headS (c + 1) k (z1 + s.size))) → (∀ j, j ≠ (c + 1) % 2 → now3[j]? = d2.now[j]?) → Valid n now3 (c + 1) k (z1 + s.size) (pk1 ++ [p]) := fun now3 b1 b2 b3 b4 =>
    hold2.commit b1 b2 b3 (b4 _ (by omega)) hk ⟨by omega, hfit⟩ hc (hdat now3 b1 fun j hj => b4 j (by omega)) hfew
  by_cases c3 : e3 = 0
  case neg =>
    rw [if_neg c3]
    refine ⟨a2, fun hl => absurd (a3 (f2 (g1.left hl)).2) c3, fun he => absurd he c3, fun he keep => .inl ⟨h, z, ?_⟩⟩
    -- nothing was written
    have hw3 : ∀ x ∈ d3.waits, (c + 1) % 2 ≤ x.1.toNat ∧ x.1.toNat < (c + 1) % 2 + 1 ∧ x.2.size = 64 := fun x hx => by
      rcases a1.waits x hx with hx | hx
      · rw [w2] at hx; cases hx
      · exact hx
    have e : d3.waits = [] := by
      have he2 : (pWrite d2 (((c + 1) % 2 : Nat) : Int) (headS (c + 1) k (z1 + s.size))).2 = 15 := by rw [hr3]; exact he
      have : (pWrite d2 (((c + 1) % 2 : Nat) : Int) (headS (c + 1) k (z1 + s.size))).1.waits = d2.waits := by
        revert he2
        unfold pWrite
        split
        · exact fun _ => rfl
        · split
          · exact fun _ => rfl
          · split
            · intro h; cases h
            · exact fun _ => (pSpend_same d2).2.2
      rw [hr3] at this; rw [this, w2]
    have : (pCrash d3 keep).now = d2.now := by
      show crashK keep d3.waits d3.kept d3.waits.length = _
      rw [e]; show d3.kept = _; rw [a1.kept, k2, f3]
    rw [this]; exact hold2
  rw [if_pos c3]
  obtain ⟨w3a, w3b⟩ := a4 c3
  rw [w2, List.nil_append] at w3b
  obtain ⟨b1, b2, b3, b4, b5⟩ := flush_at d3
  have hv3 : Valid n d3.now (c + 1) k (z1 + s.size) (pk1 ++ [p]) := hnew _ (a1.len.trans hl2) (a1.sz hs2) w3a fun j hj => a1.out j (by omega)
  refine ⟨b1, fun hl => b2 (a1.left (f2 (g1.left hl)).2), fun he => ⟨⟨?_, (b4 he).2⟩, ?_⟩, fun he keep => ?_⟩
  · rw [(b4 he).1, b3]
  · rw [b3]; exact hv3
  · obtain ⟨x1, x2⟩ := b5 he
    have hcr : (pCrash (pFlush d3).1 keep).now = if keep[0]? = some true then d2.now.set ((c + 1) % 2) (padS (headS (c + 1) k (z1 + s.size))) else d2.now := by
      show crashK keep (pFlush d3).1.waits (pFlush d3).1.kept (pFlush d3).1.waits.length = _
      rw [x1, x2, w3b, a1.kept, k2, ← f3]
      show kStep keep (crashK keep _ d2.now 0) 0 _ = _
      unfold kStep crashK
      simp only [Int.toNat_natCast]
    rw [hcr]
    split
    · refine .inr ⟨k, _, hnew _ (by rw [List.length_set]; exact hl2) (fun t ht => ?_) ?_ fun j hj => ?_⟩
      · rcases List.mem_or_eq_of_mem_set ht with hm | rfl
        · exact hs2 t hm
        · exact padS_size (by rw [headS_size hc hk hzt]; omega)
      · rw [List.getElem?_set_self (by rw [hl2]; have := v.n8; omega)]
      · rw [List.getElem?_set_ne (Ne.symm hj)]
    · exact .inl ⟨h, z, hold2⟩
end

end
section
/- A log's room, plainly. No condition. -/
open Go.Lib
def wt10 (rs : List Tx) : Nat := (rs.map fun r => 10 + r.length).sum
def wt16 (rs : List Tx) : Nat := (rs.map fun r => 16 + r.length).sum
theorem wt_app (a b : List Tx) : wt10 (a ++ b) = wt10 a + wt10 b := by unfold wt10; rw [List.map_append, List.sum_append]
theorem wt_app16 (a b : List Tx) : wt16 (a ++ b) = wt16 a + wt16 b := by unfold wt16; rw [List.map_append, List.sum_append]
theorem wt_le : ∀ (rs : List Tx), wt10 rs ≤ wt16 rs
  | [] => Nat.le_refl _
  | r :: rs => by have := wt_le rs; unfold wt10 wt16 at *; rw [List.map_cons, List.sum_cons, List.map_cons, List.sum_cons]; omega
theorem packB_room {p : List Tx} (hf : ∀ r ∈ p, r.length < ten10) : (packB p).length ≤ wt10 p + 63 := by
  have h1 := (packB_len p).2
  rw [packT_len hf] at h1
  unfold wt10; omega
theorem packs_room : ∀ (pk : List (List Tx)), (∀ p ∈ pk, ∀ r ∈ p, r.length < ten10) → (packs pk).length ≤ wt10 pk.flatten + 63 * pk.length
  | [], _ => Nat.le_refl _
  | p :: pk, h => by
    have e : packs (p :: pk) = packB p ++ packs pk := by unfold packs; rw [List.flatMap_cons]
    have h1 := packB_room (h p (by simp))
    have h2 := packs_room pk fun q hq => h q (List.mem_cons_of_mem _ hq)
    rw [e, List.length_append, List.flatten_cons, wt_app, List.length_cons]; omega
theorem flat_lenL {α : Type} {f : α → Tx} {k : Nat} : ∀ (l : List α), (∀ x ∈ l, (f x).length = k) → (l.flatMap f).length = l.length * k
  | [], _ => by simp
  | x :: l, h => by rw [List.flatMap_cons, List.length_append, h x (by simp), flat_lenL l fun y hy => h y (List.mem_cons_of_mem _ hy), List.length_cons, Nat.succ_mul]; omega
theorem Valid.zlen {n c h z : Nat} {now : List ByteArray} {pk : List (List Tx)} (v : Valid n now c h z pk) : z = (packs pk).length := by
  rw [← v.data]
  unfold dataP
  rw [flat_lenL (k := 64) _ fun i hi => ?_]
  · rw [List.length_range]; have := v.hz.1; omega
  · have hi := List.mem_range.1 hi
    have hb : 2 + h * halfOf now.length + i < now.length := by
      rw [v.len]
      have := v.hz.2
      have := v.n8
      rcases (show h = 0 ∨ h = 1 by have := v.hh; omega) with rfl | rfl <;> (unfold halfOf at *; omega)
    rw [tx_len, List.getD_eq_getElem?_getD, List.getElem?_eq_getElem hb]
    exact v.sz _ (List.getElem_mem hb)
theorem room_le {n z N : Nat} (h8 : 8 ≤ n) (hm : z % 64 = 0) (hz : z ≤ N) (hN : 3 * N ≤ n * 64) : z ≤ halfOf n * 64 := by unfold halfOf; omega
/-- Where there must be room, there is: records added. -/
theorem room_add {n c h z adds : Nat} {now : List ByteArray} {pk : List (List Tx)} (v : Valid n now c h z pk) (hk : pk.length ≤ adds + 1) {p : List Tx} (hf : ∀ r ∈ p, r.length < ten10) (hfit : 3 * (64 + 64 * (adds + 1) + wt16 (pk.flatten ++ p)) ≤ n * 64) : z + (packB p).length ≤ halfOf n * 64 := by
  have h1 := packs_room pk v.few
  have h2 := packB_room hf
  have h3 := wt_le (pk.flatten ++ p)
  rw [wt_app] at h3
  have h4 := v.zlen
  refine room_le v.n8 (by have := (packB_len p).1; have := v.hz.1; omega) (N := 64 + 64 * (adds + 1) + wt16 (pk.flatten ++ p)) (by omega) hfit
/-- .. these alone. -/
theorem room_clear {n : Nat} (h8 : 8 ≤ n) {p : List Tx} (hf : ∀ r ∈ p, r.length < ten10) (hfit : 3 * (64 + wt16 p) ≤ n * 64) : (packB p).length ≤ halfOf n * 64 := by
  have h2 := packB_room hf
  have h3 := wt_le p
  exact room_le h8 (packB_len p).1 (N := 64 + wt16 p) (by omega) hfit
/-- A new log. -/
theorem zeros_cand {now : List ByteArray} {k : Nat} (h : now[k]? = some (zerosB 64)) : candP now k = none := by
  unfold candP
  rw [h]
  simp only
  rw [show headP (tx (zerosB 64)) = none by rw [tx_zeros]; decide +kernel]
def noB : ByteArray := ⟨#[]⟩
theorem pad_none : padS noB = zerosB 64 := by
  refine tx_inj ?_
  rw [tx_pad, tx_zeros]; rfl
/-- What Format makes of a disk. -/
def pFormat (n : Nat) (d : PDisk) : PDisk := (logWr n (pFlush (pWrite (pWrite d 0 noB).1 1 noB).1).1 0 0 0 noB).1
theorem format_ok {n : Nat} {d : PDisk} (hl : d.left = -1) (hn : d.now.length = n) (h8 : 8 ≤ n) (h4 : n ≤ 4000) (hs : ∀ s ∈ d.now, s.size = 64) :
    (pWrite d 0 noB).2 = 0 ∧ (pWrite (pWrite d 0 noB).1 1 noB).2 = 0 ∧ (pFlush (pWrite (pWrite d 0 noB).1 1 noB).1).2 = 0 ∧ (logWr n (pFlush (pWrite (pWrite d 0 noB).1 1 noB).1).1 0 0 0 noB).2 = 0 ∧
    (pFormat n d).left = -1 ∧ Quiet (pFormat n d) ∧ Valid n (pFormat n d).now 1 0 0 [] := by
  obtain ⟨a1, _, a3, a4⟩ := write_in (d := d) (k := 0) (s := noB) (by omega) (by decide)
  have a3 := a3 hl
  obtain ⟨a4, _⟩ := a4 a3
  obtain ⟨d1, hd1⟩ : ∃ d1, (pWrite d 0 noB).1 = d1 := ⟨_, rfl⟩
  have a1 : Gone d d1 0 1 := hd1 ▸ a1
  have a4 : d1.now[0]? = some (padS noB) := hd1 ▸ a4
  obtain ⟨b1, _, b3, b4⟩ := write_in (d := d1) (k := 1) (s := noB) (by rw [a1.len]; omega) (by decide)
  have b3 := b3 (a1.left hl)
  obtain ⟨b4, _⟩ := b4 b3
  obtain ⟨d2, hd2⟩ : ∃ d2, (pWrite d1 1 noB).1 = d2 := ⟨_, rfl⟩
  have b1 : Gone d1 d2 1 2 := hd2 ▸ b1
  obtain ⟨_, f2, f3, f4, _⟩ := flush_at d2
  obtain ⟨f2, f5⟩ := f2 (b1.left (a1.left hl))
  obtain ⟨d3, hd3⟩ : ∃ d3, (pFlush d2).1 = d3 := ⟨_, rfl⟩
  rw [hd3] at f3 f5
  obtain ⟨_, g2, g3, _, _⟩ := flush_at d3
  obtain ⟨g2, g5⟩ := g2 f5
  obtain ⟨d4, hd4⟩ : ∃ d4, (pFlush d3).1 = d4 := ⟨_, rfl⟩
  rw [hd4] at g3 g5
  have hl4 : d4.now.length = n := by rw [g3, f3, b1.len, a1.len, hn]
  have hs4 : ∀ t ∈ d4.now, t.size = 64 := by rw [g3, f3]; exact b1.sz (a1.sz hs)
  obtain ⟨h1, _, h3, h4'⟩ := write_in (d := d4) (k := 1) (s := headS 1 0 0) (by omega) (by rw [headS_size (by decide) (by decide) (by decide)]; decide)
  have h3 := h3 g5
  obtain ⟨h4', _⟩ := h4' h3
  obtain ⟨d5, hd5⟩ : ∃ d5, (pWrite d4 1 (headS 1 0 0)).1 = d5 := ⟨_, rfl⟩
  have h1 : Gone d4 d5 1 2 := hd5 ▸ h1
  have h4' : d5.now[1]? = some (padS (headS 1 0 0)) := hd5 ▸ h4'
  obtain ⟨_, k2, k3, k4, _⟩ := flush_at d5
  obtain ⟨k2, k5⟩ := k2 (h1.left g5)
  obtain ⟨k4, k6⟩ := k4 k2
  have e1 : pWrite d 0 noB = (d1, 0) := Prod.ext hd1 a3
  have e2 : pWrite d1 1 noB = (d2, 0) := Prod.ext hd2 b3
  have e3 : pFlush d2 = (d3, 0) := Prod.ext hd3 f2
  have e4 : pFlush d3 = (d4, 0) := Prod.ext hd4 g2
  have e5 : pWrite d4 1 (headS 1 0 0) = (d5, 0) := Prod.ext hd5 h3
  have el : logWr n d3 0 0 0 noB = pFlush d5 := by
    unfold logWr
    simp only [show noB.size / 64 = 0 from rfl, wrN, if_pos, e4]
    show (if (pWrite d4 1 (headS 1 0 0)).2 = 0 then pFlush (pWrite d4 1 (headS 1 0 0)).1 else pWrite d4 1 (headS 1 0 0)) = _
    rw [e5, if_pos rfl]
  unfold pFormat
  rw [e1]
  simp only
  rw [e2]
  simp only
  rw [e3]
  simp only
  rw [el]
  have hn0 : d5.now[0]? = some (zerosB 64) := by
    rw [h1.out 0 (by omega), g3, f3, b1.out 0 (by omega), a4, pad_none]
  have hl5 : d5.now.length = n := h1.len.trans hl4
  refine ⟨trivial, trivial, trivial, k2, k5, ⟨by rw [k4, k3], k6⟩, ?_⟩
  rw [k3]
  refine ⟨hl5, h8, h4, h1.sz hs4, by decide, by decide, ⟨by decide, Nat.zero_le _⟩, ?_, fun x hx => ?_, rfl, fun p hp => (by cases hp)⟩
  · show candP d5.now 1 = _
    unfold candP
    rw [h4']
    simp only
    rw [tx_pad, show tx (headS 1 0 0) = headB 1 0 0 from tx_of _, headP_pad (by decide) (by decide) (by decide)]
    exact if_pos ⟨rfl, Nat.zero_le _⟩
  · rw [show (1 + 1) % 2 = 0 from rfl, zeros_cand hn0] at hx
    cases hx
/-- A new disk has no log. -/
theorem open_new {n : Nat} {now : List ByteArray} (h : now = List.replicate n (zerosB 64)) : openP now = none := by
  have hc : ∀ k, candP now k = none := fun k => by
    cases hk : now[k]? with
    | none => unfold candP; rw [hk]
    | some s =>
      have : s = zerosB 64 := by rw [h] at hk; exact List.eq_of_mem_replicate (List.mem_of_getElem? hk)
      subst this; exact zeros_cand hk
  unfold openP bestP
  rw [hc 0, hc 1]; rfl

end
/- Go's library for package log by what is owned: numbers as texts, texts as numbers, texts repeated and trimmed. No condition. -/
/-- The library's table of tens. -/
def rTab : Res := ⟨false, (· = 21), fun w => Lib.TabIs Tryz.prog w "internal/strconv.uint64pow10" .u64 Lib.pow10Tab, fun w w' h _ hb => by
    unfold Lib.TabIs World.var? at h ⊢
    rw [show Tryz.prog.globalNamed "internal/strconv.uint64pow10" = some 21 by kernel_rfl] at h ⊢
    simp only [Option.bind_some] at h ⊢
    rw [hb _ rfl]; exact h, fun w b h e => by
    unfold Lib.TabIs World.var? at h
    rw [show Tryz.prog.globalNamed "internal/strconv.uint64pow10" = some 21 by kernel_rfl] at h
    simp only [Option.bind_some] at h
    rw [e]
    cases hq : w.heap[21]? with
    | none => rw [hq] at h; cases h
    | some o => exact (Array.getElem?_eq_some_iff.1 hq).1⟩
theorem chg_grow (w : World) (k : Nat) (os : Array Obj) : Chg Nil w (Go.Sort.grow (w.drewN k) os) := by
  refine ⟨rfl, rfl, rfl, ?_, fun j hj _ => ?_⟩
  · unfold Go.Sort.grow; simp [World.drewN]
  · unfold Go.Sort.grow; simp [World.drewN, Array.getElem?_append_left hj]
theorem itoa_spec (n : Nat) (hn : n ≤ 9223372036854775807) : Spec Tryz.prog 69 #[.int .i64 (n : Int)] [rTab] fun u L => u = .string (ofT (Lib.decDigits n)) ∧ L = [rTab] := fun E w0 w ho =>
  (Go.Proofs.Tryz.strconv_Itoa (n : Int) (by omega) (by omega) w (ho.fact 0 rfl)).mono fun e w' ⟨he, k, os, hw⟩ => by
    subst hw
    refine ⟨_, _, ⟨rfl, rfl⟩, ?_, ho.quiet (chg_grow w k os)⟩
    rw [he]
    unfold Lib.itoa ofT
    rw [if_neg (by omega)]; rfl
theorem repeatL_one (c : UInt8) : ∀ n : Nat, Lib.repeatL [c] n = List.replicate n c
  | 0 => by simp [Lib.repeatL]
  | n + 1 => by
    have h := repeatL_one c n
    show [c] ++ Lib.repeatL [c] n = _
    rw [h, List.replicate_succ]; rfl
theorem repeat_spec (c : UInt8) (x : Int) (n : Nat) (hx : x = (n : Int)) (hn : n ≤ 100000) : Spec Tryz.prog 22 #[.string ⟨#[c]⟩, .int .i64 x] [] fun u L => u = .string (ofT (List.replicate n c)) ∧ L = [] := by
  subst hx
  refine spec_quiet fun w => (Go.Proofs.Tryz.strings_Repeat ⟨#[c]⟩ n w (by omega) (by show 1 * n ≤ _; omega)).mono ?_
  rintro e w' ⟨rfl, hb⟩
  refine ⟨?_, Chg.of_below hb (fun x h1 h2 => by omega)⟩
  have : Lib.repeatL (⟨#[c]⟩ : ByteArray).data.toList n = List.replicate n c := repeatL_one c n
  rw [this]; rfl
theorem trim_spec (s : ByteArray) (hs : s.size ≤ 9223372036854775807) : Spec Tryz.prog 44 #[.string s, .string ⟨#[0]⟩] [] fun u L => u = .string (ofT (Lib.trimRightB (tx s) 0)) ∧ L = [] :=
  spec_quiet fun w => (Go.Proofs.Tryz.strings_TrimRight_one s 0 (by decide) w hs).mono fun e w' ⟨he, hw⟩ => ⟨he, hw ▸ Chg.refl _ _⟩
/-- The library's two errors of numbers: some values. -/
def rNumE (a1 a2 : Addr) : Res := ⟨false, fun b => b = 17 ∨ b = 18, fun w => w.cell? ⟨17, 0, none⟩ = some (.iface 171 (.pointer (some a1))) ∧ w.cell? ⟨18, 0, none⟩ = some (.iface 171 (.pointer (some a2))),
  fun w w' h _ hb => ⟨by rw [World.cell?_of_block (w := w) (hb _ (.inl rfl))]; exact h.1, by rw [World.cell?_of_block (w := w) (hb _ (.inr rfl))]; exact h.2⟩,
  fun w b h e => by rcases e with rfl | rfl; exact World.block_lt_of_cell? w _ h.1; exact World.block_lt_of_cell? w _ h.2⟩
theorem atoi_spec (a1 a2 : Addr) (s : ByteArray) (hs : s.size ≤ 1000000) : Spec Tryz.prog 43 #[.string s] [rNumE a1 a2] fun u L => (∃ v : Int, Lib.atoiAll (tx s) = .ok v ∧ u = .tuple #[.int .i64 v, .nilIface] ∧ L = [rNumE a1 a2]) ∨ (∃ (v : Int) (N : Nat), (∀ x, Lib.atoiAll (tx s) ≠ .ok x) ∧ u = .tuple #[.int .i64 v, .iface 140 (.pointer (some ⟨N, 0, none⟩))] ∧ L = [rNumE a1 a2]) := fun E w0 w ho => by
  obtain ⟨f1, f2⟩ := ho.fact 0 rfl
  rcases hq : Lib.atoiAll (tx s) with v | _ | _
  · skip
    refine (Go.Proofs.Tryz.strconv_Atoi_ok s (by omega) v hq w).mono fun e w' ⟨he, hw⟩ => ⟨_, _, .inl ⟨v, rfl, rfl, rfl⟩, he, ho.quiet ?_⟩
    rcases hw with rfl | ⟨t, rfl⟩
    · exact Chg.refl _ _
    · exact Chg.of_below (Lib.bytesWorld_below _ _ _) (fun x h1 h2 => by omega)
  · skip
    refine (Go.Proofs.Tryz.strconv_Atoi_syntax s (by omega) hq _ w f1 (.inr ⟨_, _, rfl⟩)).mono fun e w' ⟨N, he, _, _, hb⟩ => ⟨_, _, .inr ⟨0, N, fun x h => (by cases h), rfl, rfl⟩, he, ho.quiet (Chg.of_below hb (fun x h1 h2 => by omega))⟩
  · skip
    refine (Go.Proofs.Tryz.strconv_Atoi_range s (by omega) hq _ w f2 (.inr ⟨_, _, rfl⟩)).mono fun e w' ⟨N, he, _, _, hb⟩ => ⟨_, _, .inr ⟨_, N, fun x h => (by cases h), rfl, rfl⟩, he, ho.quiet (Chg.of_below hb (fun x h1 h2 => by omega))⟩

/- A disk by what is owned. No condition. -/
theorem SliceAt.stab {w w' : World} {v : Value} {E k n : Nat} {xs : List Value} {S : Nat → Prop} (h : SliceAt w v E k n xs S) (hb : ∀ b, S b → w'.heap[b]? = w.heap[b]?) : SliceAt w' v E k n xs S := by
  obtain ⟨h1, h2 | ⟨g, off, cap, cs, e, hbk, a, b, c, d, s⟩⟩ := h
  · exact ⟨h1, .inl h2⟩
  · exact ⟨h1, .inr ⟨g, off, cap, cs, e, (hb g s).trans hbk, a, b, c, d, s⟩⟩
theorem diskAt_stab {w w' : World} {b : Nat} {d : PDisk} {S : Nat → Prop} (h : DiskAt w b d S) (hs : w.heap.size ≤ w'.heap.size) (hb : ∀ x, S x → w'.heap[x]? = w.heap[x]?) : DiskAt w' b d S := by
  obtain ⟨⟨vk, vn, vw, T', Sk, Sn, Sw, h0, hk, hn, hw, h1, h2, h3, h4, h5⟩, hS, hl, hi⟩ := h
  exact ⟨⟨vk, vn, vw, T', Sk, Sn, Sw, (hb b hS).trans h0, hk.stab fun x hx => hb x (h5 x (.inl hx)), hn.stab fun x hx => hb x (h5 x (.inr (.inl hx))), hw.stab fun x hx => hb x (h5 x (.inr (.inr hx))), h1, h2, h3, h4, h5⟩, hS, fun x hx => Nat.lt_of_lt_of_le (hl x hx) hs, hi⟩
/-- A disk: its cell and its three rows, in the blocks S. -/
def rDisk (B b : Nat) (d : PDisk) (S : Nat → Prop) : Res := ⟨true, S, fun w => DiskAt w b d S ∧ ∀ x, S x → B ≤ x, fun w w' h hs hb => ⟨diskAt_stab h.1 hs hb, h.2⟩, fun w x h hx => h.1.2.2.1 x hx⟩
section
variable {w0 w w' : World} {E : Ent} {M : List Res} {B b : Nat} {d d' : PDisk} {S : Nat → Prop} (ad : Nat → Addr)
theorem Own.diskTo (h : Own w0 E (rDisk B b d S :: M) w) (p : DiskPost S w b d' w') : ∃ S', Own w0 E (rDisk B b d' S' :: M) w' := by
  obtain ⟨c, S', h1, hg⟩ := p
  obtain ⟨hf1, hf2⟩ : DiskAt w b d S ∧ ∀ x, S x → B ≤ x := h.fact 0 rfl
  have hB : B ≤ w.heap.size := Nat.le_of_lt (Nat.lt_of_le_of_lt (hf2 b hf1.2.1) (hf1.2.2.1 b hf1.2.1))
  have hf' : (rDisk B b d' S').fact w' := ⟨h1, fun x hx => (hg x hx).elim (hf2 x) fun q => Nat.le_trans hB q.1⟩
  exact ⟨S', h.upd (i := 0) (r' := rDisk B b d' S') rfl rfl c hf' fun x hx => (hg x hx).imp id fun q => q.1⟩
theorem dsectors_spec : Spec Tryz.prog 24 #[.pointer (some ⟨b, 0, none⟩)] [rDisk B b d S] fun u L => u = .int .i64 (d.now.length : Int) ∧ L = [rDisk B b d S] := fun E w0 w ho =>
  (sectors_any b d S w (ho.fact 0 rfl).1).mono fun e w' ⟨he, hw⟩ => ⟨_, _, ⟨rfl, rfl⟩, he, by subst hw; exact ho⟩
theorem dread_spec (n : Int) : Spec Tryz.prog 25 #[.pointer (some ⟨b, 0, none⟩), .int .i64 n] [rDisk B b d S, rEnv B ad [2]] fun u L => u = .tuple #[.string (pRead d n).1, errV ad (pRead d n).2] ∧ L = [rDisk B b d S, rEnv B ad [2]] := fun E w0 w ho =>
  (kread_any ad b n d S w (ho.fact 1 rfl) (ho.fact 0 rfl).1).mono fun e w' ⟨he, hc⟩ => ⟨_, _, ⟨rfl, rfl⟩, he, ho.quiet hc⟩
theorem dwrite_spec (n : Int) (s : ByteArray) (hf : (d.waits.length + 1) * 24 ≤ 140737488355328) : Spec Tryz.prog 33 #[.pointer (some ⟨b, 0, none⟩), .int .i64 n, .string s] [rDisk B b d S, rEnv B ad [2, 3, 15]] fun u L => ∃ S', u = errV ad (pWrite d n s).2 ∧ L = [rDisk B b (pWrite d n s).1 S', rEnv B ad [2, 3, 15]] := fun E w0 w ho =>
  (write_any ad b n s d S w (ho.fact 1 rfl) (ho.fact 0 rfl).2 (ho.fact 0 rfl).1 hf).mono fun e w' ⟨he, hp⟩ => by
    obtain ⟨S', h'⟩ := ho.diskTo hp
    exact ⟨_, _, ⟨S', rfl, rfl⟩, he, h'⟩
theorem dflush_spec (hf : d.now.length ≤ 4000) : Spec Tryz.prog 34 #[.pointer (some ⟨b, 0, none⟩)] [rDisk B b d S, rEnv B ad [15]] fun u L => ∃ S', u = errV ad (pFlush d).2 ∧ L = [rDisk B b (pFlush d).1 S', rEnv B ad [15]] := fun E w0 w ho =>
  (flush_any ad b d S w (ho.fact 1 rfl) (ho.fact 0 rfl).2 (ho.fact 0 rfl).1 hf).mono fun e w' ⟨he, hp⟩ => by
    obtain ⟨S', h'⟩ := ho.diskTo hp
    exact ⟨_, _, ⟨S', rfl, rfl⟩, he, h'⟩
theorem dfail_spec (n : Int) (hn : n ≤ 9223372036854775807) : Spec Tryz.prog 19 #[.pointer (some ⟨b, 0, none⟩), .int .i64 n] [rDisk B b d S, rEnv B ad [2]] fun u L => ∃ S', u = errV ad (pFail d n).2 ∧ L = [rDisk B b (pFail d n).1 S', rEnv B ad [2]] := fun E w0 w ho =>
  (fail_any ad b n d S w (ho.fact 1 rfl) (ho.fact 0 rfl).1 hn).mono fun e w' ⟨he, hp⟩ => by
    obtain ⟨S', h'⟩ := ho.diskTo hp
    exact ⟨_, _, ⟨S', rfl, rfl⟩, he, h'⟩
theorem dcrash_spec (v : Value) (keep : List Bool) (hk : d.kept.length ≤ 4000) (hin : ∀ p ∈ d.waits, 0 ≤ p.1 ∧ p.1 < d.kept.length) : Spec Tryz.prog 13 #[.pointer (some ⟨b, 0, none⟩), v] [rDisk B b d S, rRows true v 4 1 flagC keep] fun u L => ∃ S', u = .tuple #[] ∧ L = [rDisk B b (pCrash d keep) S', rRows true v 4 1 flagC keep] := fun E w0 w ho =>
  (crash_any b d S (blkOf v) w keep v (ho.fact 0 rfl).1 (ho.fact 1 rfl) (fun x hx => (rRows true v 4 1 flagC keep).alive w x (ho.fact 1 rfl) hx) (fun x hx hs => (List.pairwise_cons.1 ho.apart).1 (rRows true v 4 1 flagC keep) (List.mem_singleton.2 rfl) (.inl rfl) x hs hx) hk hin).mono fun e w' ⟨he, hp⟩ => by
    obtain ⟨S', h'⟩ := ho.diskTo hp
    exact ⟨_, _, ⟨S', rfl, rfl⟩, he, h'⟩
theorem dnew_spec (n : Nat) (h1 : 1 ≤ n) (h4 : n ≤ 4000) : Spec Tryz.prog 8 #[.int .i64 (n : Int)] [rEnv B ad [2]] fun u L => ∃ b S, u = .tuple #[.pointer (some ⟨b, 0, none⟩), .nilIface] ∧ L = [rDisk B b (pNew n) S, rEnv B ad [2]] := fun E w0 w ho =>
  (new_good n w h1 h4).mono fun e w' ⟨b, S, he, hc, ht, hS⟩ => by
    have hB : B ≤ w.heap.size := (ho.fact 0 rfl : Env B ad [2] w).size
    have hf : (rDisk B b (pNew n) S).fact w' := ⟨ht, fun x hx => Nat.le_trans hB (hS x hx)⟩
    exact ⟨_, _, ⟨b, S, rfl, rfl⟩, he, ho.push hc hf hS⟩
end

section
/- A head's text as it is read; builders' lengths; half of a disk. No condition. -/
open Go.RowKit Go.Lib
def numS (n : Nat) : ByteArray := ofT (num10 n)
theorem numS_size {n : Nat} (h : n < ten10) : (numS n).size = 10 := by unfold numS; rw [size_of, num10_len h]
theorem piece (s : ByteArray) (a : Nat) : tx (s.extract a (a + 10)) = ((tx s).drop a).take 10 := by
  rw [tx_cut, List.drop_take]; congr 1; omega
section
variable {s : ByteArray}
theorem hd_none1 (h : ∀ x, atoiAll (tx (s.extract 16 26)) ≠ .ok x) : headP (tx s) = none := by
  rw [piece s 16] at h
  unfold headP head3
  cases hq : atoiAll (((tx s).drop 16).take 10) with
  | ok x => exact absurd hq (h x)
  | range => rfl
  | _ => rfl
theorem hd_none2 (h : ∀ x, atoiAll (tx (s.extract 26 36)) ≠ .ok x) : headP (tx s) = none := by
  rw [piece s 26] at h
  unfold headP head3
  cases hq : atoiAll (((tx s).drop 26).take 10) with
  | ok x => exact absurd hq (h x)
  | range => cases atoiAll (((tx s).drop 16).take 10) <;> rfl
  | _ => cases atoiAll (((tx s).drop 16).take 10) <;> rfl
theorem hd_none3 (h : ∀ x, atoiAll (tx (s.extract 36 46)) ≠ .ok x) : headP (tx s) = none := by
  rw [piece s 36] at h
  unfold headP head3
  cases hq : atoiAll (((tx s).drop 36).take 10) with
  | ok x => exact absurd hq (h x)
  | range => cases atoiAll (((tx s).drop 16).take 10) <;> cases atoiAll (((tx s).drop 26).take 10) <;> rfl
  | _ => cases atoiAll (((tx s).drop 16).take 10) <;> cases atoiAll (((tx s).drop 26).take 10) <;> rfl
theorem hd_neg {v : Int} (hv : v < 0) (h : atoiAll (tx (s.extract 16 26)) = .ok v ∨ atoiAll (tx (s.extract 26 36)) = .ok v ∨ atoiAll (tx (s.extract 36 46)) = .ok v) : headP (tx s) = none := by
  rw [piece s 16, piece s 26, piece s 36] at h
  have : head3 (tx s) = none := by
    unfold head3
    split
    · rename_i a b c e1 e2 e3
      rw [e1, e2, e3] at h
      rw [if_pos]
      rcases h with h | h | h <;> (injection h with h; omega)
    · rfl
  unfold headP
  rw [this]
theorem hd_all {a b c : Int} (h1 : atoiAll (tx (s.extract 16 26)) = .ok a) (h2 : atoiAll (tx (s.extract 26 36)) = .ok b) (h3 : atoiAll (tx (s.extract 36 46)) = .ok c) (ha : 0 ≤ a) (hb : 0 ≤ b) (hc : 0 ≤ c) :
    headP (tx s) = if ofT (trimRightB (tx s) 0) = headS a.toNat b.toNat c.toNat ∧ b < 2 then some (a.toNat, b.toNat, c.toNat) else none := by
  rw [piece s 16] at h1
  rw [piece s 26] at h2
  rw [piece s 36] at h3
  unfold headP head3
  rw [h1, h2, h3]
  simp only
  rw [if_neg (by omega)]
  simp only
  have e : (ofT (trimRightB (tx s) 0) = headS a.toNat b.toNat c.toNat ∧ b < 2) ↔ (trimRightB (tx s) 0 = headB a.toNat b.toNat c.toNat ∧ b.toNat < 2) := by
    constructor
    · rintro ⟨q, r⟩
      refine ⟨?_, by omega⟩
      have := congrArg tx q
      unfold headS at this
      rwa [tx_of, tx_of] at this
    · rintro ⟨q, r⟩
      exact ⟨by unfold headS; rw [q], by omega⟩
  by_cases q : trimRightB (tx s) 0 = headB a.toNat b.toNat c.toNat ∧ b.toNat < 2
  · rw [if_pos q, if_pos (e.2 q)]
  · rw [if_neg q, if_neg (fun r => q (e.1 r))]
theorem at_lt {a : Nat} {v : Int} (h : atoiAll (tx (s.extract a (a + 10))) = .ok v) (h0 : 0 ≤ v) : v < 10000000000 := atoi_lt h (by rw [piece]; simp; omega) h0
end
theorem txt_shape {w : World} {v : Value} {E : TypeId} {t : List UInt8} (h : (rTxt v E t).fact w) : ∃ a c, v = .slice a t.length c := by
  obtain ⟨_, ⟨rfl, e⟩ | ⟨g, cap, cur, rfl, _⟩⟩ := (h : w.ownsRow 0 E 1 v t.length (txtC t))
  · exact ⟨none, 0, by rw [e]⟩
  · exact ⟨_, cap, rfl⟩
theorem blen_any (b : Nat) (p : Value) (a : Option Addr) (n c : Nat) (w : World) (hb : w.heap[b]? = some (.cells #[p, .slice a n c] 74 (0, 0))) :
    Calls Tryz.prog 42 #[.pointer (some ⟨b, 0, none⟩)] w fun e w' => e = .returned (.int .i64 (n : Int)) ∧ w' = w := by
  have c1 := cell_of hb 1
  simp at c1
  have hbl := lt_of_block hb
  clear hb
  go_enter Tryz.func42, Tryz.ntmps42
  go_wp2_with fail
  go_ret
  exact ⟨rfl, rfl⟩
theorem blen_spec (b : Nat) (p v : Value) (n : Nat) (hv : ∃ a c, v = .slice a n c) : Spec Tryz.prog 42 #[.pointer (some ⟨b, 0, none⟩)] [rBld b p v] fun u L => u = .int .i64 (n : Int) ∧ L = [rBld b p v] := fun E w0 w ho => by
  obtain ⟨a, c, rfl⟩ := hv
  exact (blen_any b p a n c w (ho.fact 0 rfl)).mono fun e w' ⟨he, hw⟩ => ⟨_, _, ⟨rfl, rfl⟩, he, by subst hw; exact ho⟩
theorem half_one (b : Nat) (d : PDisk) (S : Nat → Prop) (w : World) (ht : DiskAt w b d S) (h1 : d.now.length = 1) :
    Calls Tryz.prog 27 #[.pointer (some ⟨b, 0, none⟩)] w fun e w' => e = .returned (.int .i64 0) ∧ w' = w := by
  go_enter Tryz.func27, Tryz.ntmps27
  go_wp2_with fail
  refine (sectors_any b d S w ht).mono ?_
  rintro e w' ⟨rfl, hw⟩
  subst hw
  rw [h1]
  go_wp2_with fail
  go_ret
  exact ⟨rfl, rfl⟩

end
section
/- Entries of directories compared, by value. -/
open Go.RowKit Go.MapKept
section
variable {P : Program} {a : Act} {w w0 : World} {E : Ent} {L : List Res} {dst : Option Tmp} {x y : Operand} {T T2 ty : TypeId} {pos : String} {after : Array Edge} {g : Option (Nat × Bool)}
theorem strq (s t : ByteArray) : (s.toList == t.toList) = decide (s = t) := by
  by_cases h : s = t
  · subst h; simp
  · rw [decide_eq_false h, ← beq_toListBytes, Bool.eq_false_iff]; exact fun e => h ((MapKept.bytes_beq _ _).1 e)
end

end
section
/- Parts of a text. No condition. -/
variable {P : Program} {w0 : World} {E : Ent} {L : List Res} {w : World} {a : Act}
theorem boundsT_run {LV HV : Option Value} {l h n : Nat} (hlo : boundOf 0 LV = some (l : Int)) (hhi : boundOf (n : Int) HV = some (h : Int)) (hlh : l ≤ h) (hn : h ≤ n) : (Instr.sliceBounds false n n LV HV none).run P w = .ok (l, h, n) w := by
  have e1 : (0 : Int) ≤ (l : Int) ∧ (l : Int) ≤ (h : Int) := by omega
  have e2 : (0 : Int) ≤ (h : Int) ∧ (h : Int) ≤ (n : Int) := by omega
  have e3 : (l : Int).toNat = l := Int.toNat_natCast l
  have e4 : (h : Int).toNat = h := Int.toNat_natCast h
  rcases bound_some hlo with ⟨rfl, hl⟩ | ⟨kl, rfl⟩ <;> rcases bound_some hhi with ⟨rfl, hh⟩ | ⟨kh, rfl⟩
  · obtain rfl : l = 0 := by omega
    obtain rfl : h = n := by omega
    rfl
  · obtain rfl : l = 0 := by omega
    simp only [Instr.sliceBounds, Instr.sliceBound, asIntOf, Sem.run_bind, Sem.run_pure, Result.andThen_ok]
    simp [e2, hn, hlh]
  · obtain rfl : h = n := by omega
    simp [Instr.sliceBounds, Instr.sliceBound, asIntOf, e1, hlh, hn]
  · simp [Instr.sliceBounds, Instr.sliceBound, asIntOf, e1, e2, hlh, hn]
/-- s[lo:hi]. -/
theorem g_subT {dst : Option Tmp} {T : TypeId} {x : Operand} {lo hi : Option Operand} {ty : TypeId} {pos : String} {after : Array Edge} {g : Option (Nat × Bool)} (s : ByteArray) {LV HV : Option Value} (l h : Nat)
    (hx : (a.eval x, P.underlying T, lo.map a.eval, hi.map a.eval) = (.string s, some .string, LV, HV)) (hlo : boundOf 0 LV = some (l : Int)) (hhi : boundOf (s.size : Int) HV = some (h : Int)) (hlh : l ≤ h) (hn : h ≤ s.size) :
    Gives P w0 E L ⟨dst, .slice T x lo hi none, ty, pos, after, g⟩ a (.string (s.extract l h)) := fun w ho => by
  simp only [Prod.mk.injEq] at hx
  obtain ⟨h1, h3, e4, e5⟩ := hx
  have hb := boundsT_run (P := P) (w := w) hlo hhi hlh hn
  simp only [execOp, Instr.sliceAt, h1, e4, e5, Option.map_none, Sem.run_bind, run_underlying h3, Result.andThen_ok, Instr.slice, hb, Sem.run_pure, Option.isSome_none, Bool.false_eq_true, if_false]
/-- A number parted by a constant. -/
theorem quo_run {T : TypeId} {n k : Nat} (hT : P.underlying T = some (.int .i64)) (hk : 0 < k) (hn : n ≤ 9223372036854775807) : (binOp .quo T (.int .i64 (n : Int)) (.int .i64 (k : Int))).run P w = .ok (.int .i64 ((n / k : Nat) : Int)) w := by
  have h1 : ¬ (k : Int) = 0 := by omega
  have h2 : ((n : Int)).tdiv (k : Int) = ((n / k : Nat) : Int) := by rw [Int.tdiv_eq_ediv_of_nonneg (by omega)]; rfl
  have h3 : n / k ≤ n := Nat.div_le_self n k
  have h4 : IntKind.i64.wrap ((n : Int) / (k : Int)) = ((n / k : Nat) : Int) := by
    have e : (n : Int) / (k : Int) = ((n / k : Nat) : Int) := rfl
    rw [e]; generalize n / k = q at h3 ⊢; exact IntWalk.i64_in _ ⟨by omega, by omega⟩
  have h5 : ¬ k = 0 := by omega
  simp [binOp, run_underlying hT, Op.intDiv, h1, h2, h4, h5]
theorem g_quo {dst : Option Tmp} {T ty' : TypeId} {x y : Operand} {ty : TypeId} {pos : String} {after : Array Edge} {g : Option (Nat × Bool)} (n k : Nat)
    (hx : (a.eval x, a.eval y, P.underlying T) = (.int .i64 (n : Int), .int .i64 (k : Int), some (.int .i64))) (hk : 0 < k) (hn : n ≤ 9223372036854775807) :
    Gives P w0 E L ⟨dst, .binOp .quo T x y ty', ty, pos, after, g⟩ a (.int .i64 ((n / k : Nat) : Int)) := fun w ho => by
  simp only [Prod.mk.injEq] at hx
  obtain ⟨h1, h2, h3⟩ := hx
  simp only [execOp, h1, h2, Sem.run_bind, quo_run h3 hk hn, Result.andThen_ok, Sem.run_pure, eqGuard]
  rfl
/-- A slice's value, as it is built. -/
theorem Own.shape {r : Res} {v : Value} {n : Nat} {xs : List Value} (h : Own w0 E L w) (i : Nat) (hi : L[i]? = some r) (hr : SlRd r v n xs) : ∃ ad cap, v = .slice ad n cap := by
  obtain ⟨⟨ad, cap, e, _⟩, _⟩ := hr w (h.fact i hi)
  exact ⟨ad, cap, e⟩

end
/- Two texts joined, by what is owned. Over any program, no condition. -/
theorem g_cat {P : Program} {a : Act} {w0 : World} {E : Ent} {L : List Res} {dst : Option Tmp} {x y : Operand} {T T2 ty : TypeId} {pos : String} {after : Array Edge} {g : Option (Nat × Bool)} {s t : ByteArray} (hx : (a.eval x, a.eval y) = (.string s, .string t)) (hl : s.size + t.size ≤ 9223372036854775807) :
    Gives P w0 E L ⟨dst, .binOp .add T x y T2, ty, pos, after, g⟩ a (.string (s ++ t)) := fun w _ => by
  simp only [Prod.mk.injEq] at hx
  simp [execOp, hx.1, hx.2, binOp_string_add, run_string_add_sum w s t hl, Result.andThen, eqGuard]

/- logp: contracts by what is owned (printed by walk.py). -/
theorem bwrite_spec (b : Nat) (p v : Value) (hp : p = .pointer none ∨ p = .pointer (some ⟨b, 0, none⟩)) (t : Tx) (s : ByteArray) (hts : t.length + s.size ≤ 100000000)  : Spec Tryz.prog 28 #[.pointer (some ⟨b, 0, none⟩), .string s] [rCell true b [p, v] 74, rTxt v 5 t] (fun u L => ∃ v', u = .tuple #[.int .i64 (s.size : Int), .nilIface] ∧ L = [rCell true b [.pointer (some ⟨b, 0, none⟩), v'] 74, rTxt v' 5 (t ++ s.data.toList)]) := by
  refine spec_of (#[.pointer (some ⟨b, 0, none⟩), .string s, undef, undef, undef, undef, undef, undef, undef, undef, undef, undef, undef, undef, undef, undef, undef, undef, undef]) Tryz.func28 rfl (by kernel_rfl) fun E w0 w h => ?_
  refine c_seq ?_
  refine c_reg ?_
  refine sq_p (.int .i64 0) rfl (fun _ => by kernel_rfl) ?_
  refine sq_p (.nilIface) rfl (fun _ => by kernel_rfl) ?_
  refine lnil ?_
  refine thn_n ?_
  refine c_seq ?_
  refine c_reg ?_
  refine sq_p (.pointer (some ⟨b, 0, none⟩)) rfl (fun _ => by kernel_rfl) ?_
  refine sq_call #[.pointer (some ⟨b, 0, none⟩)] [0] rfl (ccheck_spec b p v hp) (fun _ => by kernel_rfl) h ?_; rintro v_ L_ w ⟨rfl, rfl⟩ h
  refine lnil ?_
  refine thn_n ?_
  refine c_seq ?_
  refine c_reg ?_
  refine sq_p (.pointer (some ⟨b, 0, none⟩)) rfl (fun _ => by kernel_rfl) ?_
  refine sq_p (.pointer (some ⟨b, 0, none⟩)) rfl (fun _ => by kernel_rfl) ?_
  refine sq_p (.pointer (some ⟨b, 0, none⟩)) rfl (fun _ => by kernel_rfl) ?_
  refine sq_p (.pointer (some ⟨b, 1, none⟩)) rfl (fun _ => by kernel_rfl) ?_
  refine sq_q rfl h (g_ld 1 [v] (v) (by kernel_rfl) 0 rfl) ?_
  refine sq_p (.string s) rfl (fun _ => by kernel_rfl) ?_
  refine sq_apptxt s rfl (by kernel_rfl) h 1 rfl (by omega) ?_; intro v1 w h
  refine sq_p (.pointer (some ⟨b, 0, none⟩)) rfl (fun _ => by kernel_rfl) ?_
  refine sq_p (.pointer (some ⟨b, 1, none⟩)) rfl (fun _ => by kernel_rfl) ?_
  refine sq_sto rfl (h.slvT 1 rfl) 1 [.pointer (some ⟨b, 0, none⟩), v1] h 0 rfl (by kernel_rfl) ?_; intro w h
  refine lnil ?_
  refine thn_n ?_
  refine c_seq ?_
  refine c_reg ?_
  refine sq_p (.string s) rfl (fun _ => by kernel_rfl) ?_
  refine sq_p (.int .i64 (s.size : Int)) rfl (fun _ => by kernel_rfl) ?_
  refine sq_p (.int .i64 (s.size : Int)) rfl (fun _ => by kernel_rfl) ?_
  refine sq_p (.nilIface) rfl (fun _ => by kernel_rfl) ?_
  refine lnil ?_
  refine thn_n ?_
  refine c_ret ?_
  refine ret_end [.int .i64 (s.size : Int), .nilIface] [0, 0] h (by kernel_rfl) (res_t (by kernel_rfl) (res_t (by kernel_rfl) res_n)) ?_
  exact ⟨_, rfl, rfl⟩
theorem half_two {B : Nat} (db : Nat) (d : PDisk) (Sd : Nat → Prop) (h2 : 2 ≤ d.now.length) (h4 : d.now.length ≤ 4000)  : Spec Tryz.prog 27 #[.pointer (some ⟨db, 0, none⟩)] [rDisk B db d Sd] (fun u L => u = .int .i64 (halfOf d.now.length : Int) ∧ L = [rDisk B db d Sd]) := by
  refine spec_of (#[.pointer (some ⟨db, 0, none⟩), undef, undef, undef, undef, undef, undef]) Tryz.func27 rfl (by kernel_rfl) fun E w0 w h => ?_
  refine c_seq ?_
  refine c_reg ?_
  refine sq_p (.int .i64 0) rfl (fun _ => by kernel_rfl) ?_
  refine lnil ?_
  refine thn_n ?_
  refine c_seq ?_
  refine c_reg ?_
  refine sq_p (.pointer (some ⟨db, 0, none⟩)) rfl (fun _ => by kernel_rfl) ?_
  refine sq_call #[.pointer (some ⟨db, 0, none⟩)] [0] rfl (dsectors_spec (B := B) (d := d) (S := Sd)) (fun _ => by kernel_rfl) h ?_; rintro v_ L_ w ⟨rfl, rfl⟩ h
  refine sq_q rfl h (g_eq (v := .int .i64 (IntKind.i64.wrap ((d.now.length : Int) - 2))) (v' := .int .i64 ((d.now.length : Int) - 2)) (g_pure fun _ => by kernel_rfl) (wr (by omega))) ?_
  obtain ⟨j1, hj1⟩ : ∃ n : Nat, (d.now.length : Int) - 2 = (n : Int) := ⟨((d.now.length : Int) - 2).toNat, by omega⟩
  refine sq_q rfl h (g_quo j1 2 (by rw [hj1]; kernel_rfl) (by omega) (by omega)) ?_
  refine sq_p (.int .i64 ((j1 / 2 : Nat) : Int)) rfl (fun _ => by kernel_rfl) ?_
  refine lnil ?_
  refine thn_n ?_
  refine c_ret ?_
  refine ret_end [.int .i64 ((j1 / 2 : Nat) : Int)] [0] h (by kernel_rfl) (res_t (by kernel_rfl) res_n) ?_
  refine ⟨?_, rfl⟩
  show Value.int .i64 _ = _
  congr 1
  unfold halfOf
  omega

theorem half_spec {B : Nat} (db : Nat) (d : PDisk) (Sd : Nat → Prop) (h1 : 1 ≤ d.now.length) (h4 : d.now.length ≤ 4000) : Spec Tryz.prog 27 #[.pointer (some ⟨db, 0, none⟩)] [rDisk B db d Sd] fun u L => u = .int .i64 (halfOf d.now.length : Int) ∧ L = [rDisk B db d Sd] := by
  by_cases h : 2 ≤ d.now.length
  · exact half_two db d Sd h h4
  · have e : d.now.length = 1 := by omega
    intro E w0 w ho
    exact (half_one db d Sd w (ho.fact 0 rfl).1 e).mono fun e' w' ⟨he, hw⟩ => ⟨_, _, ⟨by rw [e]; rfl, rfl⟩, he, by subst hw; exact ho⟩

theorem number_spec (n : Nat) (hn : n < 10000000000)  : Spec Tryz.prog 51 #[.int .i64 (n : Int)] [rTab] (fun u L => u = .string (numS n) ∧ L = [rTab]) := by
  have hdl : (ofT (Lib.decDigits n)).size ≤ 10 := by rw [size_of]; exact dec_len hn
  have hdl2 : (Lib.decDigits n).length ≤ 10 := dec_len hn
  refine spec_of (#[.int .i64 (n : Int), undef, undef, undef, undef, undef, undef, undef, undef, undef, undef, undef]) Tryz.func51 rfl (by kernel_rfl) fun E w0 w h => ?_
  refine c_seq ?_
  refine c_reg ?_
  refine sq_p (.string (⟨#[]⟩ : ByteArray)) rfl (fun _ => by kernel_rfl) ?_
  refine lnil ?_
  refine thn_n ?_
  refine c_seq ?_
  refine c_reg ?_
  refine sq_p (.int .i64 (n : Int)) rfl (fun _ => by kernel_rfl) ?_
  refine sq_call #[.int .i64 (n : Int)] [0] rfl (itoa_spec n (by omega)) (fun _ => by kernel_rfl) h ?_; rintro v_ L_ w ⟨rfl, rfl⟩ h
  refine sq_p (.string (ofT (Lib.decDigits n))) rfl (fun _ => by kernel_rfl) ?_
  refine lnil ?_
  refine thn_n ?_
  refine c_seq ?_
  refine c_reg ?_
  refine sq_p (.string (ofT (Lib.decDigits n))) rfl (fun _ => by kernel_rfl) ?_
  refine sq_p (.int .i64 ((ofT (Lib.decDigits n)).size : Int)) rfl (fun _ => by kernel_rfl) ?_
  refine sq_q rfl h (g_eq (v := .int .i64 (IntKind.i64.wrap (10 - ((ofT (Lib.decDigits n)).size : Int)))) (v' := .int .i64 (10 - ((ofT (Lib.decDigits n)).size : Int))) (g_pure fun _ => by kernel_rfl) (wr (by omega))) ?_
  obtain ⟨rc1, hrc2⟩ : ∃ m_ : Nat, 10 - ((ofT (Lib.decDigits n)).size : Int) = (m_ : Int) := ⟨(10 - ((ofT (Lib.decDigits n)).size : Int)).toNat, by omega⟩
  refine sq_call #[.string (⟨#[48]⟩ : ByteArray), .int .i64 (10 - ((ofT (Lib.decDigits n)).size : Int))] [] rfl (repeat_spec 48 (10 - ((ofT (Lib.decDigits n)).size : Int)) rc1 hrc2 (by omega)) (fun _ => by kernel_rfl) h ?_; rintro v_ L_ w ⟨rfl, rfl⟩ h
  refine sq_p (.string (ofT (Lib.decDigits n))) rfl (fun _ => by kernel_rfl) ?_
  refine sq_q rfl h (g_cat (s := (ofT (List.replicate rc1 48))) (t := (ofT (Lib.decDigits n))) (by kernel_rfl) (by (try simp only [size_of, List.length_replicate]); omega)) ?_
  refine sq_p (.string ((ofT (List.replicate rc1 48)) ++ (ofT (Lib.decDigits n)))) rfl (fun _ => by kernel_rfl) ?_
  refine lnil ?_
  refine thn_n ?_
  refine c_ret ?_
  refine ret_end [.string ((ofT (List.replicate rc1 48)) ++ (ofT (Lib.decDigits n)))] [0] h (by kernel_rfl) (res_t (by kernel_rfl) res_n) ?_
  refine ⟨?_, rfl⟩
  show Value.string _ = _
  congr 1
  refine tx_inj ?_
  have hrs : (ofT (Lib.decDigits n)).size = (Lib.decDigits n).length := size_of _
  have hrn : rc1 = 10 - (Lib.decDigits n).length := by omega
  rw [tx_app, tx_of, tx_of, hrn]; unfold numS num10; rw [tx_of]
theorem head_spec (c k z : Nat) (hc : c < 10000000000) (hk : k < 10000000000) (hz : z < 10000000000)  : Spec Tryz.prog 45 #[.int .i64 (c : Int), .int .i64 (k : Int), .int .i64 (z : Int)] [rTab] (fun u L => u = .string (headS c k z) ∧ L = [rTab]) := by
  have hs1 : (numS c).size = 10 := numS_size hc
  have hs2 : (numS k).size = 10 := numS_size hk
  have hs3 : (numS z).size = 10 := numS_size hz
  have hs0 : ((⟨#[112, 105, 103, 101, 111, 110, 104, 111, 108, 101, 115, 32, 108, 111, 103, 32]⟩ : ByteArray)).size = 16 := rfl
  refine spec_of (#[.int .i64 (c : Int), .int .i64 (k : Int), .int .i64 (z : Int), undef, undef, undef, undef, undef, undef, undef, undef, undef, undef, undef, undef, undef]) Tryz.func45 rfl (by kernel_rfl) fun E w0 w h => ?_
  refine c_seq ?_
  refine c_reg ?_
  refine sq_p (.string (⟨#[]⟩ : ByteArray)) rfl (fun _ => by kernel_rfl) ?_
  refine lnil ?_
  refine thn_n ?_
  refine c_seq ?_
  refine c_reg ?_
  refine sq_p (.int .i64 (c : Int)) rfl (fun _ => by kernel_rfl) ?_
  refine sq_call #[.int .i64 (c : Int)] [0] rfl (number_spec c (by omega)) (fun _ => by kernel_rfl) h ?_; rintro v_ L_ w ⟨rfl, rfl⟩ h
  refine sq_q rfl h (g_cat (s := (⟨#[112, 105, 103, 101, 111, 110, 104, 111, 108, 101, 115, 32, 108, 111, 103, 32]⟩ : ByteArray)) (t := (numS c)) (by kernel_rfl) (by (try simp only [ByteArray.size_append]); omega)) ?_
  refine sq_p (.int .i64 (k : Int)) rfl (fun _ => by kernel_rfl) ?_
  refine sq_call #[.int .i64 (k : Int)] [0] rfl (number_spec k (by omega)) (fun _ => by kernel_rfl) h ?_; rintro v_ L_ w ⟨rfl, rfl⟩ h
  refine sq_q rfl h (g_cat (s := ((⟨#[112, 105, 103, 101, 111, 110, 104, 111, 108, 101, 115, 32, 108, 111, 103, 32]⟩ : ByteArray) ++ (numS c))) (t := (numS k)) (by kernel_rfl) (by (try simp only [ByteArray.size_append]); omega)) ?_
  refine sq_p (.int .i64 (z : Int)) rfl (fun _ => by kernel_rfl) ?_
  refine sq_call #[.int .i64 (z : Int)] [0] rfl (number_spec z (by omega)) (fun _ => by kernel_rfl) h ?_; rintro v_ L_ w ⟨rfl, rfl⟩ h
  refine sq_q rfl h (g_cat (s := (((⟨#[112, 105, 103, 101, 111, 110, 104, 111, 108, 101, 115, 32, 108, 111, 103, 32]⟩ : ByteArray) ++ (numS c)) ++ (numS k))) (t := (numS z)) (by kernel_rfl) (by (try simp only [ByteArray.size_append]); omega)) ?_
  refine sq_p (.string ((((⟨#[112, 105, 103, 101, 111, 110, 104, 111, 108, 101, 115, 32, 108, 111, 103, 32]⟩ : ByteArray) ++ (numS c)) ++ (numS k)) ++ (numS z))) rfl (fun _ => by kernel_rfl) ?_
  refine lnil ?_
  refine thn_n ?_
  refine c_ret ?_
  refine ret_end [.string ((((⟨#[112, 105, 103, 101, 111, 110, 104, 111, 108, 101, 115, 32, 108, 111, 103, 32]⟩ : ByteArray) ++ (numS c)) ++ (numS k)) ++ (numS z))] [0] h (by kernel_rfl) (res_t (by kernel_rfl) res_n) ?_
  refine ⟨?_, rfl⟩
  show Value.string _ = _
  congr 1

theorem headI_spec (c h z : Int) (hc : 0 ≤ c ∧ c < 10000000000) (hh : 0 ≤ h ∧ h < 10000000000) (hz : 0 ≤ z ∧ z < 10000000000) : Spec Tryz.prog 45 #[.int .i64 c, .int .i64 h, .int .i64 z] [rTab] fun u L => u = .string (headS c.toNat h.toNat z.toNat) ∧ L = [rTab] := by
  obtain ⟨c, rfl⟩ : ∃ n : Nat, c = n := ⟨c.toNat, by omega⟩
  obtain ⟨h, rfl⟩ : ∃ n : Nat, h = n := ⟨h.toNat, by omega⟩
  obtain ⟨z, rfl⟩ : ∃ n : Nat, z = n := ⟨z.toNat, by omega⟩
  exact head_spec c h z (by omega) (by omega) (by omega)

theorem headOf_spec (a1 a2 : Addr) (s : ByteArray) (hs : s.size = 64)  : Spec Tryz.prog 26 #[.string s] [rNumE a1 a2, rTab] (fun u L => L = [rNumE a1 a2, rTab] ∧ ((∃ c h z : Nat, headP (tx s) = some (c, h, z) ∧ u = .tuple #[.int .i64 (c : Int), .int .i64 (h : Int), .int .i64 (z : Int), .bool true]) ∨ (headP (tx s) = none ∧ ∃ c h z : Int, u = .tuple #[.int .i64 c, .int .i64 h, .int .i64 z, .bool false]))) := by
  refine spec_of (#[.string s, undef, undef, undef, undef, undef, undef, undef, undef, undef, undef, undef, undef, undef, undef, undef, undef, undef, undef, undef, undef, undef, undef, undef, undef, undef, undef, undef, undef, undef, undef, undef, undef, undef, undef, undef, undef, undef, undef, undef, undef, undef, undef, undef, undef, undef, undef, undef, undef, undef, undef, undef, undef, undef, undef, undef, undef, undef, undef]) Tryz.func26 rfl (by kernel_rfl) fun E w0 w h => ?_
  refine c_seq ?_
  refine c_reg ?_
  refine sq_new rfl (fun b => .pointer (some ⟨b, 0, none⟩)) [.int .i64 0] 3 (fun _ => by kernel_rfl) h ?_; intro k1 w h
  refine sq_new rfl (fun b => .pointer (some ⟨b, 0, none⟩)) [.int .i64 0] 3 (fun _ => by kernel_rfl) h ?_; intro k2 w h
  refine sq_new rfl (fun b => .pointer (some ⟨b, 0, none⟩)) [.int .i64 0] 3 (fun _ => by kernel_rfl) h ?_; intro k3 w h
  refine sq_p (.bool false) rfl (fun _ => by kernel_rfl) ?_
  refine lnil ?_
  refine thn_n ?_
  refine c_seq ?_
  refine c_reg ?_
  refine sq_p (.int .i64 16) rfl (fun _ => by kernel_rfl) ?_
  refine lnil ?_
  refine thn_n ?_
  refine c_seq ?_
  refine c_reg ?_
  refine sq_new rfl (fun b => .slice (some ⟨b, 0, none⟩) 3 3) [.pointer (some ⟨k1, 0, none⟩), .pointer (some ⟨k2, 0, none⟩), .pointer (some ⟨k3, 0, none⟩)] 94 (fun _ => by kernel_rfl) h ?_; intro k4 w h
  refine sq_p (.slice (some ⟨k4, 0, none⟩) 3 3) rfl (fun _ => by kernel_rfl) ?_
  refine lnil ?_
  refine thn_n ?_
  refine c_seq ?_
  refine c_seq ?_
  refine c_reg ?_
  refine sq_p (.slice (some ⟨k4, 0, none⟩) 3 3) rfl (fun _ => by kernel_rfl) ?_
  refine sq_p (.int .i64 3) rfl (fun _ => by kernel_rfl) ?_
  refine sq_p (.int .i64 0) rfl (fun _ => by kernel_rfl) ?_
  refine lnil ?_
  refine thn_n ?_
  refine c_block ?_
  refine c_unroll 3 ?_
  refine c_seq ?_
  refine c_reg ?_
  refine sq_p (.bool true) rfl (fun _ => by kernel_rfl) ?_
  refine lnil ?_
  refine thn_n ?_
  refine c_seq ?_
  refine c_true (by kernel_rfl) ?_
  refine c_skip ?_
  refine thn_n ?_
  refine c_seq ?_
  refine c_block ?_
  refine c_seq ?_
  refine c_reg ?_
  refine sq_p (.int .i64 0) rfl (fun _ => by kernel_rfl) ?_
  refine sq_p (.pointer (some ⟨k4, 0, none⟩)) rfl (fun _ => by kernel_rfl) ?_
  refine sq_q rfl h (g_ld 0 [.pointer (some ⟨k1, 0, none⟩)] (.pointer (some ⟨k1, 0, none⟩)) (by kernel_rfl) 0 rfl) ?_
  refine sq_p (.int .i64 0) rfl (fun _ => by kernel_rfl) ?_
  refine sq_p (.pointer (some ⟨k1, 0, none⟩)) rfl (fun _ => by kernel_rfl) ?_
  refine lnil ?_
  refine thn_n ?_
  refine c_seq ?_
  refine c_reg ?_
  refine sq_p (.string s) rfl (fun _ => by kernel_rfl) ?_
  refine sq_p (.int .i64 16) rfl (fun _ => by kernel_rfl) ?_
  refine sq_p (.int .i64 0) rfl (fun _ => by kernel_rfl) ?_
  refine sq_p (.int .i64 0) rfl (fun _ => by kernel_rfl) ?_
  refine sq_p (.int .i64 16) rfl (fun _ => by kernel_rfl) ?_
  refine sq_p (.int .i64 16) rfl (fun _ => by kernel_rfl) ?_
  refine sq_p (.int .i64 0) rfl (fun _ => by kernel_rfl) ?_
  refine sq_p (.int .i64 0) rfl (fun _ => by kernel_rfl) ?_
  refine sq_p (.int .i64 16) rfl (fun _ => by kernel_rfl) ?_
  refine sq_p (.int .i64 26) rfl (fun _ => by kernel_rfl) ?_
  refine sq_q rfl h (g_subT s (LV := (some (.int .i64 16))) (HV := (some (.int .i64 26))) 16 26 (by kernel_rfl) (bnd rfl) (bnd rfl) (by first | omega | (simp; omega)) (by first | omega | (simp; omega))) ?_
  refine sq_call #[.string (s.extract 16 26)] [4] rfl (atoi_spec a1 a2 (s.extract 16 26) (by rw [ByteArray.size_extract]; omega)) (fun _ => by kernel_rfl) h ?_; rintro v_ L_ w (⟨v1_, ha1_, rfl, rfl⟩ | ⟨v1_, N5, ha1_, rfl, rfl⟩) h
  · skip
    refine sq_p (.tuple #[.int .i64 v1_, .nilIface]) rfl (fun _ => by kernel_rfl) ?_
    refine sq_p (.int .i64 v1_) rfl (fun _ => by kernel_rfl) ?_
    refine sq_p (.nilIface) rfl (fun _ => by kernel_rfl) ?_
    refine sq_p (.int .i64 v1_) rfl (fun _ => by kernel_rfl) ?_
    refine sq_p (.nilIface) rfl (fun _ => by kernel_rfl) ?_
    refine lnil ?_
    refine thn_n ?_
    refine c_seq ?_
    refine c_seq ?_
    refine c_reg ?_
    refine sq_p (.nilIface) rfl (fun _ => by kernel_rfl) ?_
    refine sq_p (.bool false) rfl (fun _ => by kernel_rfl) ?_
    refine sq_p (.bool false) rfl (fun _ => by kernel_rfl) ?_
    refine sq_p (.int .i64 v1_) (by kernel_rfl) (fun _ => by kernel_rfl) ?_
    obtain ⟨b6, hb6⟩ : ∃ b_ : Bool, b_ = (decide (v1_ < 0)) := ⟨_, rfl⟩
    refine sq_q (v := .bool b6) (by kernel_rfl) h (by subst hb6; exact g_pure (v := .bool (decide (v1_ < 0))) fun _ => by kernel_rfl) ?_
    refine sq_p (.bool b6) rfl (fun _ => by kernel_rfl) ?_
    refine lnil ?_
    refine thn_n ?_
    refine c_cond (b6) (by kernel_rfl) (fun hc7 => ?_) (fun hc7 => ?_)
    · skip
      have q8 : (decide (v1_ < 0)) = true := by rw [← hb6]; exact hc7
      have q8 := of_decide_eq_true q8
      refine c_seq ?_
      refine c_reg ?_
      refine sq_st rfl 0 [.int .i64 0] [.int .i64 0] h 4 rfl (by kernel_rfl) ?_; intro w h
      refine sq_st rfl 0 [.int .i64 0] [.int .i64 0] h 3 rfl (by kernel_rfl) ?_; intro w h
      refine sq_st rfl 0 [.int .i64 0] [.int .i64 0] h 2 rfl (by kernel_rfl) ?_; intro w h
      refine sq_p (.bool false) rfl (fun _ => by kernel_rfl) ?_
      refine lnil ?_
      refine thn_n ?_
      refine c_ret ?_
      refine thn_r (blk_r (thn_r (unr_r (blk_r (thn_r ?_)))))
      refine ret_end [.int .i64 0, .int .i64 0, .int .i64 0, .bool false] [0, 4] h (by kernel_rfl) (res_c 0 [.int .i64 0] (.int .i64 0) 4 rfl (by kernel_rfl) (res_c 0 [.int .i64 0] (.int .i64 0) 3 rfl (by kernel_rfl) (res_c 0 [.int .i64 0] (.int .i64 0) 2 rfl (by kernel_rfl) (res_t (by kernel_rfl) res_n)))) ?_
      refine ⟨rfl, .inr ⟨?_, _, _, _, rfl⟩⟩
      exact hd_neg (by omega) (.inl ha1_)
    · skip
      have q9 : (decide (v1_ < 0)) = false := by rw [← hb6]; exact hc7
      have q9 := of_decide_eq_false q9
      refine c_skip ?_
      refine thn_n ?_
      refine c_reg ?_
      refine sq_p (.pointer (some ⟨k1, 0, none⟩)) rfl (fun _ => by kernel_rfl) ?_
      refine sq_p (.int .i64 v1_) rfl (fun _ => by kernel_rfl) ?_
      refine sq_p (.pointer (some ⟨k1, 0, none⟩)) rfl (fun _ => by kernel_rfl) ?_
      refine sq_st rfl 0 [.int .i64 v1_] [.int .i64 v1_] h 4 rfl (by kernel_rfl) ?_; intro w h
      refine lnil ?_
      refine blk_n (thn_n ?_)
      refine c_reg ?_
      refine sq_p (.int .i64 1) rfl (fun _ => by kernel_rfl) ?_
      refine sq_p (.int .i64 1) rfl (fun _ => by kernel_rfl) ?_
      refine lnil ?_
      refine unr_n ?_
      refine c_seq ?_
      refine c_reg ?_
      refine sq_p (.bool true) rfl (fun _ => by kernel_rfl) ?_
      refine lnil ?_
      refine thn_n ?_
      refine c_seq ?_
      refine c_true (by kernel_rfl) ?_
      refine c_skip ?_
      refine thn_n ?_
      refine c_seq ?_
      refine c_block ?_
      refine c_seq ?_
      refine c_reg ?_
      refine sq_p (.int .i64 1) rfl (fun _ => by kernel_rfl) ?_
      refine sq_p (.pointer (some ⟨k4, 1, none⟩)) rfl (fun _ => by kernel_rfl) ?_
      refine sq_q rfl h (g_ld 1 [.pointer (some ⟨k2, 0, none⟩)] (.pointer (some ⟨k2, 0, none⟩)) (by kernel_rfl) 1 rfl) ?_
      refine sq_p (.int .i64 1) rfl (fun _ => by kernel_rfl) ?_
      refine sq_p (.pointer (some ⟨k2, 0, none⟩)) rfl (fun _ => by kernel_rfl) ?_
      refine lnil ?_
      refine thn_n ?_
      refine c_seq ?_
      refine c_reg ?_
      refine sq_p (.string s) rfl (fun _ => by kernel_rfl) ?_
      refine sq_p (.int .i64 16) rfl (fun _ => by kernel_rfl) ?_
      refine sq_p (.int .i64 1) rfl (fun _ => by kernel_rfl) ?_
      refine sq_p (.int .i64 10) rfl (fun _ => by kernel_rfl) ?_
      refine sq_p (.int .i64 26) rfl (fun _ => by kernel_rfl) ?_
      refine sq_p (.int .i64 16) rfl (fun _ => by kernel_rfl) ?_
      refine sq_p (.int .i64 1) rfl (fun _ => by kernel_rfl) ?_
      refine sq_p (.int .i64 10) rfl (fun _ => by kernel_rfl) ?_
      refine sq_p (.int .i64 26) rfl (fun _ => by kernel_rfl) ?_
      refine sq_p (.int .i64 36) rfl (fun _ => by kernel_rfl) ?_
      refine sq_q rfl h (g_subT s (LV := (some (.int .i64 26))) (HV := (some (.int .i64 36))) 26 36 (by kernel_rfl) (bnd rfl) (bnd rfl) (by first | omega | (simp; omega)) (by first | omega | (simp; omega))) ?_
      refine sq_call #[.string (s.extract 26 36)] [0] rfl (atoi_spec a1 a2 (s.extract 26 36) (by rw [ByteArray.size_extract]; omega)) (fun _ => by kernel_rfl) h ?_; rintro v_ L_ w (⟨v2_, ha2_, rfl, rfl⟩ | ⟨v2_, N10, ha2_, rfl, rfl⟩) h
      · skip
        refine sq_p (.tuple #[.int .i64 v2_, .nilIface]) rfl (fun _ => by kernel_rfl) ?_
        refine sq_p (.int .i64 v2_) rfl (fun _ => by kernel_rfl) ?_
        refine sq_p (.nilIface) rfl (fun _ => by kernel_rfl) ?_
        refine sq_p (.int .i64 v2_) rfl (fun _ => by kernel_rfl) ?_
        refine sq_p (.nilIface) rfl (fun _ => by kernel_rfl) ?_
        refine lnil ?_
        refine thn_n ?_
        refine c_seq ?_
        refine c_seq ?_
        refine c_reg ?_
        refine sq_p (.nilIface) rfl (fun _ => by kernel_rfl) ?_
        refine sq_p (.bool false) rfl (fun _ => by kernel_rfl) ?_
        refine sq_p (.bool false) rfl (fun _ => by kernel_rfl) ?_
        refine sq_p (.int .i64 v2_) (by kernel_rfl) (fun _ => by kernel_rfl) ?_
        obtain ⟨b11, hb11⟩ : ∃ b_ : Bool, b_ = (decide (v2_ < 0)) := ⟨_, rfl⟩
        refine sq_q (v := .bool b11) (by kernel_rfl) h (by subst hb11; exact g_pure (v := .bool (decide (v2_ < 0))) fun _ => by kernel_rfl) ?_
        refine sq_p (.bool b11) rfl (fun _ => by kernel_rfl) ?_
        refine lnil ?_
        refine thn_n ?_
        refine c_cond (b11) (by kernel_rfl) (fun hc12 => ?_) (fun hc12 => ?_)
        · skip
          have q13 : (decide (v2_ < 0)) = true := by rw [← hb11]; exact hc12
          have q13 := of_decide_eq_true q13
          refine c_seq ?_
          refine c_reg ?_
          refine sq_st rfl 0 [.int .i64 0] [.int .i64 0] h 4 rfl (by kernel_rfl) ?_; intro w h
          refine sq_st rfl 0 [.int .i64 0] [.int .i64 0] h 3 rfl (by kernel_rfl) ?_; intro w h
          refine sq_st rfl 0 [.int .i64 0] [.int .i64 0] h 2 rfl (by kernel_rfl) ?_; intro w h
          refine sq_p (.bool false) rfl (fun _ => by kernel_rfl) ?_
          refine lnil ?_
          refine thn_n ?_
          refine c_ret ?_
          refine thn_r (blk_r (thn_r (unr_r (blk_r (thn_r ?_)))))
          refine ret_end [.int .i64 0, .int .i64 0, .int .i64 0, .bool false] [0, 4] h (by kernel_rfl) (res_c 0 [.int .i64 0] (.int .i64 0) 4 rfl (by kernel_rfl) (res_c 0 [.int .i64 0] (.int .i64 0) 3 rfl (by kernel_rfl) (res_c 0 [.int .i64 0] (.int .i64 0) 2 rfl (by kernel_rfl) (res_t (by kernel_rfl) res_n)))) ?_
          refine ⟨rfl, .inr ⟨?_, _, _, _, rfl⟩⟩
          exact hd_neg (by omega) (.inr (.inl ha2_))
        · skip
          have q14 : (decide (v2_ < 0)) = false := by rw [← hb11]; exact hc12
          have q14 := of_decide_eq_false q14
          refine c_skip ?_
          refine thn_n ?_
          refine c_reg ?_
          refine sq_p (.pointer (some ⟨k2, 0, none⟩)) rfl (fun _ => by kernel_rfl) ?_
          refine sq_p (.int .i64 v2_) rfl (fun _ => by kernel_rfl) ?_
          refine sq_p (.pointer (some ⟨k2, 0, none⟩)) rfl (fun _ => by kernel_rfl) ?_
          refine sq_st rfl 0 [.int .i64 v2_] [.int .i64 v2_] h 3 rfl (by kernel_rfl) ?_; intro w h
          refine lnil ?_
          refine blk_n (thn_n ?_)
          refine c_reg ?_
          refine sq_p (.int .i64 2) rfl (fun _ => by kernel_rfl) ?_
          refine sq_p (.int .i64 2) rfl (fun _ => by kernel_rfl) ?_
          refine lnil ?_
          refine unr_n ?_
          refine c_seq ?_
          refine c_reg ?_
          refine sq_p (.bool true) rfl (fun _ => by kernel_rfl) ?_
          refine lnil ?_
          refine thn_n ?_
          refine c_seq ?_
          refine c_true (by kernel_rfl) ?_
          refine c_skip ?_
          refine thn_n ?_
          refine c_seq ?_
          refine c_block ?_
          refine c_seq ?_
          refine c_reg ?_
          refine sq_p (.int .i64 2) rfl (fun _ => by kernel_rfl) ?_
          refine sq_p (.pointer (some ⟨k4, 2, none⟩)) rfl (fun _ => by kernel_rfl) ?_
          refine sq_q rfl h (g_ld 2 [.pointer (some ⟨k3, 0, none⟩)] (.pointer (some ⟨k3, 0, none⟩)) (by kernel_rfl) 1 rfl) ?_
          refine sq_p (.int .i64 2) rfl (fun _ => by kernel_rfl) ?_
          refine sq_p (.pointer (some ⟨k3, 0, none⟩)) rfl (fun _ => by kernel_rfl) ?_
          refine lnil ?_
          refine thn_n ?_
          refine c_seq ?_
          refine c_reg ?_
          refine sq_p (.string s) rfl (fun _ => by kernel_rfl) ?_
          refine sq_p (.int .i64 16) rfl (fun _ => by kernel_rfl) ?_
          refine sq_p (.int .i64 2) rfl (fun _ => by kernel_rfl) ?_
          refine sq_p (.int .i64 20) rfl (fun _ => by kernel_rfl) ?_
          refine sq_p (.int .i64 36) rfl (fun _ => by kernel_rfl) ?_
          refine sq_p (.int .i64 16) rfl (fun _ => by kernel_rfl) ?_
          refine sq_p (.int .i64 2) rfl (fun _ => by kernel_rfl) ?_
          refine sq_p (.int .i64 20) rfl (fun _ => by kernel_rfl) ?_
          refine sq_p (.int .i64 36) rfl (fun _ => by kernel_rfl) ?_
          refine sq_p (.int .i64 46) rfl (fun _ => by kernel_rfl) ?_
          refine sq_q rfl h (g_subT s (LV := (some (.int .i64 36))) (HV := (some (.int .i64 46))) 36 46 (by kernel_rfl) (bnd rfl) (bnd rfl) (by first | omega | (simp; omega)) (by first | omega | (simp; omega))) ?_
          refine sq_call #[.string (s.extract 36 46)] [0] rfl (atoi_spec a1 a2 (s.extract 36 46) (by rw [ByteArray.size_extract]; omega)) (fun _ => by kernel_rfl) h ?_; rintro v_ L_ w (⟨v3_, ha3_, rfl, rfl⟩ | ⟨v3_, N15, ha3_, rfl, rfl⟩) h
          · skip
            refine sq_p (.tuple #[.int .i64 v3_, .nilIface]) rfl (fun _ => by kernel_rfl) ?_
            refine sq_p (.int .i64 v3_) rfl (fun _ => by kernel_rfl) ?_
            refine sq_p (.nilIface) rfl (fun _ => by kernel_rfl) ?_
            refine sq_p (.int .i64 v3_) rfl (fun _ => by kernel_rfl) ?_
            refine sq_p (.nilIface) rfl (fun _ => by kernel_rfl) ?_
            refine lnil ?_
            refine thn_n ?_
            refine c_seq ?_
            refine c_seq ?_
            refine c_reg ?_
            refine sq_p (.nilIface) rfl (fun _ => by kernel_rfl) ?_
            refine sq_p (.bool false) rfl (fun _ => by kernel_rfl) ?_
            refine sq_p (.bool false) rfl (fun _ => by kernel_rfl) ?_
            refine sq_p (.int .i64 v3_) (by kernel_rfl) (fun _ => by kernel_rfl) ?_
            obtain ⟨b16, hb16⟩ : ∃ b_ : Bool, b_ = (decide (v3_ < 0)) := ⟨_, rfl⟩
            refine sq_q (v := .bool b16) (by kernel_rfl) h (by subst hb16; exact g_pure (v := .bool (decide (v3_ < 0))) fun _ => by kernel_rfl) ?_
            refine sq_p (.bool b16) rfl (fun _ => by kernel_rfl) ?_
            refine lnil ?_
            refine thn_n ?_
            refine c_cond (b16) (by kernel_rfl) (fun hc17 => ?_) (fun hc17 => ?_)
            · skip
              have q18 : (decide (v3_ < 0)) = true := by rw [← hb16]; exact hc17
              have q18 := of_decide_eq_true q18
              refine c_seq ?_
              refine c_reg ?_
              refine sq_st rfl 0 [.int .i64 0] [.int .i64 0] h 4 rfl (by kernel_rfl) ?_; intro w h
              refine sq_st rfl 0 [.int .i64 0] [.int .i64 0] h 3 rfl (by kernel_rfl) ?_; intro w h
              refine sq_st rfl 0 [.int .i64 0] [.int .i64 0] h 2 rfl (by kernel_rfl) ?_; intro w h
              refine sq_p (.bool false) rfl (fun _ => by kernel_rfl) ?_
              refine lnil ?_
              refine thn_n ?_
              refine c_ret ?_
              refine thn_r (blk_r (thn_r (unr_r (blk_r (thn_r ?_)))))
              refine ret_end [.int .i64 0, .int .i64 0, .int .i64 0, .bool false] [0, 4] h (by kernel_rfl) (res_c 0 [.int .i64 0] (.int .i64 0) 4 rfl (by kernel_rfl) (res_c 0 [.int .i64 0] (.int .i64 0) 3 rfl (by kernel_rfl) (res_c 0 [.int .i64 0] (.int .i64 0) 2 rfl (by kernel_rfl) (res_t (by kernel_rfl) res_n)))) ?_
              refine ⟨rfl, .inr ⟨?_, _, _, _, rfl⟩⟩
              exact hd_neg (by omega) (.inr (.inr ha3_))
            · skip
              have q19 : (decide (v3_ < 0)) = false := by rw [← hb16]; exact hc17
              have q19 := of_decide_eq_false q19
              refine c_skip ?_
              refine thn_n ?_
              refine c_reg ?_
              refine sq_p (.pointer (some ⟨k3, 0, none⟩)) rfl (fun _ => by kernel_rfl) ?_
              refine sq_p (.int .i64 v3_) rfl (fun _ => by kernel_rfl) ?_
              refine sq_p (.pointer (some ⟨k3, 0, none⟩)) rfl (fun _ => by kernel_rfl) ?_
              refine sq_st rfl 0 [.int .i64 v3_] [.int .i64 v3_] h 2 rfl (by kernel_rfl) ?_; intro w h
              refine lnil ?_
              refine blk_n (thn_n ?_)
              refine c_reg ?_
              refine sq_p (.int .i64 3) rfl (fun _ => by kernel_rfl) ?_
              refine sq_p (.int .i64 3) rfl (fun _ => by kernel_rfl) ?_
              refine lnil ?_
              refine unr_n ?_
              refine c_seq ?_
              refine c_reg ?_
              refine sq_p (.bool false) rfl (fun _ => by kernel_rfl) ?_
              refine lnil ?_
              refine thn_n ?_
              refine c_seq ?_
              refine c_false (by kernel_rfl) ?_
              refine c_exit ?_
              refine thn_e (unr_e (blk_e (thn_n ?_)))
              refine c_seq ?_
              refine d_start 18 [2, 2, 2] (by kernel_rfl) h fun w h => ?_
              refine d_take 0 16382 [2, 2, 2] rfl (v := .int .i64 v1_) (by kernel_rfl) (qp_thn qp_body) (yq (by kernel_rfl) (g_ld 0 [.int .i64 v1_] (.int .i64 v1_) (by kernel_rfl) 2 rfl)) h (by kernel_rfl) ?_
              refine d_take 1 16381 [2, 2, 2] rfl (v := .int .i64 v2_) (by kernel_rfl) (qp_thn qp_body) (yq (by kernel_rfl) (g_ld 0 [.int .i64 v2_] (.int .i64 v2_) (by kernel_rfl) 1 rfl)) h (by kernel_rfl) ?_
              refine d_take 2 16379 [2, 2, 2] rfl (v := .int .i64 v3_) (by kernel_rfl) (qp_thn qp_body) (yq (by kernel_rfl) (g_ld 0 [.int .i64 v3_] (.int .i64 v3_) (by kernel_rfl) 0 rfl)) h (by kernel_rfl) ?_
              refine d_take 3 231 [2, 2, 2] rfl (v := .string s) (by kernel_rfl) (qp_thn qp_body) (yq (by kernel_rfl) (g_pure (v := .string s) fun _ => by kernel_rfl)) h (by kernel_rfl) ?_
              refine d_take 5 223 [2, 2, 2] rfl (v := .int .i64 v1_) (by kernel_rfl) (qp_thn qp_body) (yq (by kernel_rfl) (g_ld 0 [.int .i64 v1_] (.int .i64 v1_) (by kernel_rfl) 2 rfl)) h (by kernel_rfl) ?_
              refine d_take 6 191 [2, 2, 2] rfl (v := .int .i64 v2_) (by kernel_rfl) (qp_thn qp_body) (yq (by kernel_rfl) (g_ld 0 [.int .i64 v2_] (.int .i64 v2_) (by kernel_rfl) 1 rfl)) h (by kernel_rfl) ?_
              refine d_take 7 127 [2, 2, 2] rfl (v := .int .i64 v3_) (by kernel_rfl) (qp_thn qp_body) (yq (by kernel_rfl) (g_ld 0 [.int .i64 v3_] (.int .i64 v3_) (by kernel_rfl) 0 rfl)) h (by kernel_rfl) ?_
              refine d_ready [4] (by kernel_rfl) rfl ?_
              refine ad_call #[.string s, .string (⟨#[0]⟩ : ByteArray)] [] [2, 2, 2] rfl (by kernel_rfl) (trim_spec s (by omega)) (fun _ => by kernel_rfl) h ?_ ?_
              · skip
                rintro v_ L_ w ⟨rfl, rfl⟩ h
                refine ⟨by kernel_rfl, ?_⟩
                refine d_ready [8] (by kernel_rfl) rfl ?_
                refine ad_call #[.int .i64 v1_, .int .i64 v2_, .int .i64 v3_] [5] [3, 3, 3] rfl (by kernel_rfl) (headI_spec v1_ v2_ v3_ ⟨by omega, at_lt (a := 16) ha1_ (by omega)⟩ ⟨by omega, at_lt (a := 26) ha2_ (by omega)⟩ ⟨by omega, at_lt (a := 36) ha3_ (by omega)⟩) (fun _ => by kernel_rfl) h ?_ ?_
                · skip
                  rintro v_ L_ w ⟨rfl, rfl⟩ h
                  refine ⟨by kernel_rfl, ?_⟩
                  obtain ⟨b20, hb20⟩ : ∃ b_ : Bool, b_ = (decide (ofT (Lib.trimRightB (tx s) 0) = headS (v1_).toNat (v2_).toNat (v3_).toNat)) := ⟨_, rfl⟩
                  refine d_take 9 511 [3, 3, 3] rfl (v := .bool b20) (by kernel_rfl) (qp_thn qp_body) (yq (by kernel_rfl) (by subst hb20; exact g_eq (v := .bool ((ofT (Lib.trimRightB (tx s) 0)).toList == (headS (v1_).toNat (v2_).toNat (v3_).toNat).toList)) (v' := .bool (decide (ofT (Lib.trimRightB (tx s) 0) = headS (v1_).toNat (v2_).toNat (v3_).toNat))) (g_pure fun _ => by kernel_rfl) beqS)) h (by kernel_rfl) ?_
                  refine d_take 10 1023 [3, 3, 3] rfl (v := .bool b20) (by kernel_rfl) (qp_thn qp_body) (yq (by kernel_rfl) (g_pure (v := .bool b20) fun _ => by kernel_rfl)) h (by kernel_rfl) ?_
                  refine d_take 11 2047 [3, 3, 3] rfl (by kernel_rfl) (qp_thn qp_body) (ym1 (v := .int .i64 v2_) b20 (by cases b20 <;> kernel_rfl) (fun hB => by subst hB; exact g_ld 0 [.int .i64 v2_] (.int .i64 v2_) (by kernel_rfl) 1 rfl)) h (by kernel_rfl) ?_
                  obtain ⟨b21, hb21⟩ : ∃ b_ : Bool, b_ = (decide (v2_ < 2)) := ⟨_, rfl⟩
                  refine d_take 12 118783 [3, 3, 3] rfl (by kernel_rfl) (qp_thn qp_body) (ym1 (v := .bool b21) b20 (by cases b20 <;> kernel_rfl) (fun hB => by subst hB; exact by subst hb21; exact g_pure (v := .bool (decide (v2_ < 2))) fun _ => by kernel_rfl)) h (by kernel_rfl) ?_
                  obtain ⟨b22, hb22⟩ : ∃ b_ : Bool, b_ = (b20 && b21) := ⟨_, rfl⟩
                  refine d_take 13 122879 [3, 3, 3] rfl (v := .bool b22) (by kernel_rfl) (qp_thn qp_body) (yq (by kernel_rfl) (by subst hb22; exact g_pure (v := .bool (b20 && b21)) fun _ => by cases b20 <;> kernel_rfl)) h (by kernel_rfl) ?_
                  refine d_ready [14] (by kernel_rfl) rfl ?_
                  refine ad_st [3, 3, 3] rfl (by kernel_rfl) 0 [.int .i64 v1_] [.int .i64 v1_] h 5 rfl (by kernel_rfl) ?_ ?_
                  · skip
                    intro w h; refine ⟨by kernel_rfl, ?_⟩
                    refine d_ready [15] (by kernel_rfl) rfl ?_
                    refine ad_st [3, 3, 3] rfl (by kernel_rfl) 0 [.int .i64 v2_] [.int .i64 v2_] h 4 rfl (by kernel_rfl) ?_ ?_
                    · skip
                      intro w h; refine ⟨by kernel_rfl, ?_⟩
                      refine d_ready [16] (by kernel_rfl) rfl ?_
                      refine ad_st [3, 3, 3] rfl (by kernel_rfl) 0 [.int .i64 v3_] [.int .i64 v3_] h 3 rfl (by kernel_rfl) ?_ ?_
                      · skip
                        intro w h; refine ⟨by kernel_rfl, ?_⟩
                        refine d_take 17 131071 [3, 3, 3] rfl (v := .bool b22) (by kernel_rfl) (qp_thn qp_body) (yq (by kernel_rfl) (g_pure (v := .bool b22) fun _ => by kernel_rfl)) h (by kernel_rfl) ?_
                        refine d_done (by kernel_rfl) ?_
                        refine thn_n ?_
                        refine c_ret ?_
                        refine ret_end [.int .i64 v1_, .int .i64 v2_, .int .i64 v3_, .bool b22] [1, 0] h (by kernel_rfl) (res_c 0 [.int .i64 v1_] (.int .i64 v1_) 5 rfl (by kernel_rfl) (res_c 0 [.int .i64 v2_] (.int .i64 v2_) 4 rfl (by kernel_rfl) (res_c 0 [.int .i64 v3_] (.int .i64 v3_) 3 rfl (by kernel_rfl) (res_t (by kernel_rfl) res_n)))) ?_
                        have hall := hd_all ha1_ ha2_ ha3_ (by omega) (by omega) (by omega)
                        refine ⟨rfl, ?_⟩
                        by_cases hq_ : ofT (Lib.trimRightB (tx s) 0) = headS v1_.toNat v2_.toNat v3_.toNat ∧ v2_ < 2
                        · rw [if_pos hq_] at hall
                          refine .inl ⟨v1_.toNat, v2_.toNat, v3_.toNat, hall, ?_⟩
                          rw [show b22 = true by subst hb22; subst hb21; subst hb20; simp [hq_.1, hq_.2]]
                          rw [show ((v1_.toNat : Nat) : Int) = v1_ by omega, show ((v2_.toNat : Nat) : Int) = v2_ by omega, show ((v3_.toNat : Nat) : Int) = v3_ by omega]
                          rfl
                        · rw [if_neg hq_] at hall
                          refine .inr ⟨hall, v1_, v2_, v3_, ?_⟩
                          rw [show b22 = false by subst hb22; subst hb21; subst hb20; revert hq_; simp]
                          rfl
                      exact ad_nil
                    exact ad_nil
                  exact ad_nil
                exact ad_nil
              exact ad_nil
          · skip
            refine sq_p (.tuple #[.int .i64 v3_, .iface 140 (.pointer (some ⟨N15, 0, none⟩))]) rfl (fun _ => by kernel_rfl) ?_
            refine sq_p (.int .i64 v3_) rfl (fun _ => by kernel_rfl) ?_
            refine sq_p (.iface 140 (.pointer (some ⟨N15, 0, none⟩))) rfl (fun _ => by kernel_rfl) ?_
            refine sq_p (.int .i64 v3_) rfl (fun _ => by kernel_rfl) ?_
            refine sq_p (.iface 140 (.pointer (some ⟨N15, 0, none⟩))) rfl (fun _ => by kernel_rfl) ?_
            refine lnil ?_
            refine thn_n ?_
            refine c_seq ?_
            refine c_seq ?_
            refine c_reg ?_
            refine sq_p (.iface 140 (.pointer (some ⟨N15, 0, none⟩))) rfl (fun _ => by kernel_rfl) ?_
            refine sq_p (.bool true) rfl (fun _ => by kernel_rfl) ?_
            refine sq_p (.bool true) rfl (fun _ => by kernel_rfl) ?_
            refine sn (by kernel_rfl) ?_
            refine sn (by kernel_rfl) ?_
            refine sq_p (.bool true) rfl (fun _ => by kernel_rfl) ?_
            refine lnil ?_
            refine thn_n ?_
            refine c_true (by kernel_rfl) ?_
            refine c_seq ?_
            refine c_reg ?_
            refine sq_st rfl 0 [.int .i64 0] [.int .i64 0] h 4 rfl (by kernel_rfl) ?_; intro w h
            refine sq_st rfl 0 [.int .i64 0] [.int .i64 0] h 3 rfl (by kernel_rfl) ?_; intro w h
            refine sq_st rfl 0 [.int .i64 0] [.int .i64 0] h 2 rfl (by kernel_rfl) ?_; intro w h
            refine sq_p (.bool false) rfl (fun _ => by kernel_rfl) ?_
            refine lnil ?_
            refine thn_n ?_
            refine c_ret ?_
            refine thn_r (blk_r (thn_r (unr_r (blk_r (thn_r ?_)))))
            refine ret_end [.int .i64 0, .int .i64 0, .int .i64 0, .bool false] [0, 4] h (by kernel_rfl) (res_c 0 [.int .i64 0] (.int .i64 0) 4 rfl (by kernel_rfl) (res_c 0 [.int .i64 0] (.int .i64 0) 3 rfl (by kernel_rfl) (res_c 0 [.int .i64 0] (.int .i64 0) 2 rfl (by kernel_rfl) (res_t (by kernel_rfl) res_n)))) ?_
            refine ⟨rfl, .inr ⟨?_, _, _, _, rfl⟩⟩
            exact hd_none3 ha3_
      · skip
        refine sq_p (.tuple #[.int .i64 v2_, .iface 140 (.pointer (some ⟨N10, 0, none⟩))]) rfl (fun _ => by kernel_rfl) ?_
        refine sq_p (.int .i64 v2_) rfl (fun _ => by kernel_rfl) ?_
        refine sq_p (.iface 140 (.pointer (some ⟨N10, 0, none⟩))) rfl (fun _ => by kernel_rfl) ?_
        refine sq_p (.int .i64 v2_) rfl (fun _ => by kernel_rfl) ?_
        refine sq_p (.iface 140 (.pointer (some ⟨N10, 0, none⟩))) rfl (fun _ => by kernel_rfl) ?_
        refine lnil ?_
        refine thn_n ?_
        refine c_seq ?_
        refine c_seq ?_
        refine c_reg ?_
        refine sq_p (.iface 140 (.pointer (some ⟨N10, 0, none⟩))) rfl (fun _ => by kernel_rfl) ?_
        refine sq_p (.bool true) rfl (fun _ => by kernel_rfl) ?_
        refine sq_p (.bool true) rfl (fun _ => by kernel_rfl) ?_
        refine sn (by kernel_rfl) ?_
        refine sn (by kernel_rfl) ?_
        refine sq_p (.bool true) rfl (fun _ => by kernel_rfl) ?_
        refine lnil ?_
        refine thn_n ?_
        refine c_true (by kernel_rfl) ?_
        refine c_seq ?_
        refine c_reg ?_
        refine sq_st rfl 0 [.int .i64 0] [.int .i64 0] h 4 rfl (by kernel_rfl) ?_; intro w h
        refine sq_st rfl 0 [.int .i64 0] [.int .i64 0] h 3 rfl (by kernel_rfl) ?_; intro w h
        refine sq_st rfl 0 [.int .i64 0] [.int .i64 0] h 2 rfl (by kernel_rfl) ?_; intro w h
        refine sq_p (.bool false) rfl (fun _ => by kernel_rfl) ?_
        refine lnil ?_
        refine thn_n ?_
        refine c_ret ?_
        refine thn_r (blk_r (thn_r (unr_r (blk_r (thn_r ?_)))))
        refine ret_end [.int .i64 0, .int .i64 0, .int .i64 0, .bool false] [0, 4] h (by kernel_rfl) (res_c 0 [.int .i64 0] (.int .i64 0) 4 rfl (by kernel_rfl) (res_c 0 [.int .i64 0] (.int .i64 0) 3 rfl (by kernel_rfl) (res_c 0 [.int .i64 0] (.int .i64 0) 2 rfl (by kernel_rfl) (res_t (by kernel_rfl) res_n)))) ?_
        refine ⟨rfl, .inr ⟨?_, _, _, _, rfl⟩⟩
        exact hd_none2 ha2_
  · skip
    refine sq_p (.tuple #[.int .i64 v1_, .iface 140 (.pointer (some ⟨N5, 0, none⟩))]) rfl (fun _ => by kernel_rfl) ?_
    refine sq_p (.int .i64 v1_) rfl (fun _ => by kernel_rfl) ?_
    refine sq_p (.iface 140 (.pointer (some ⟨N5, 0, none⟩))) rfl (fun _ => by kernel_rfl) ?_
    refine sq_p (.int .i64 v1_) rfl (fun _ => by kernel_rfl) ?_
    refine sq_p (.iface 140 (.pointer (some ⟨N5, 0, none⟩))) rfl (fun _ => by kernel_rfl) ?_
    refine lnil ?_
    refine thn_n ?_
    refine c_seq ?_
    refine c_seq ?_
    refine c_reg ?_
    refine sq_p (.iface 140 (.pointer (some ⟨N5, 0, none⟩))) rfl (fun _ => by kernel_rfl) ?_
    refine sq_p (.bool true) rfl (fun _ => by kernel_rfl) ?_
    refine sq_p (.bool true) rfl (fun _ => by kernel_rfl) ?_
    refine sn (by kernel_rfl) ?_
    refine sn (by kernel_rfl) ?_
    refine sq_p (.bool true) rfl (fun _ => by kernel_rfl) ?_
    refine lnil ?_
    refine thn_n ?_
    refine c_true (by kernel_rfl) ?_
    refine c_seq ?_
    refine c_reg ?_
    refine sq_st rfl 0 [.int .i64 0] [.int .i64 0] h 4 rfl (by kernel_rfl) ?_; intro w h
    refine sq_st rfl 0 [.int .i64 0] [.int .i64 0] h 3 rfl (by kernel_rfl) ?_; intro w h
    refine sq_st rfl 0 [.int .i64 0] [.int .i64 0] h 2 rfl (by kernel_rfl) ?_; intro w h
    refine sq_p (.bool false) rfl (fun _ => by kernel_rfl) ?_
    refine lnil ?_
    refine thn_n ?_
    refine c_ret ?_
    refine thn_r (blk_r (thn_r (unr_r (blk_r (thn_r ?_)))))
    refine ret_end [.int .i64 0, .int .i64 0, .int .i64 0, .bool false] [0, 4] h (by kernel_rfl) (res_c 0 [.int .i64 0] (.int .i64 0) 4 rfl (by kernel_rfl) (res_c 0 [.int .i64 0] (.int .i64 0) 3 rfl (by kernel_rfl) (res_c 0 [.int .i64 0] (.int .i64 0) 2 rfl (by kernel_rfl) (res_t (by kernel_rfl) res_n)))) ?_
    refine ⟨rfl, .inr ⟨?_, _, _, _, rfl⟩⟩
    exact hd_none1 ha1_

/- A byte of a text; a number's lowest six bits; by what an operation gives. Over any program, no condition. -/
theorem and63 (n : Int) : bits .and .i64 n 63 = n % 64 := by
  have h63 : (BitVec.ofInt 64 (63 : Int)).toNat = 2 ^ 6 - 1 := by decide
  have h1 : (BitVec.ofInt 64 n &&& BitVec.ofInt 64 63).toNat = (n % 64).toNat := by
    rw [BitVec.toNat_and, BitVec.toNat_ofInt, h63, Nat.and_two_pow_sub_one_eq_mod]
    omega
  show IntKind.i64.wrap _ = _
  have h2 : (BitVec.ofInt IntKind.i64.bits n &&& BitVec.ofInt IntKind.i64.bits 63).toNat = (n % 64).toNat := h1
  rw [h2, IntWalk.i64_in _ (by omega)]
  omega
section
variable {P : Program} {w0 w : World} {E : Ent} {L : List Res} {a : Act} {dst : Option Tmp} {T ty' : TypeId} {x y : Operand} {ty : TypeId} {pos : String} {after : Array Edge} {g : Option (Nat × Bool)}
theorem and63_run {n : Int} : (binOp .and T (.int .i64 n) (.int .i64 63)).run P w = .ok (.int .i64 (n % 64)) w := by
  have h : binOp .and T (.int .i64 n) (.int .i64 63) = Op.intBits .and .i64 n 63 := rfl
  rw [h, intBits_and, and63]; rfl
theorem g_and63 (n : Int) (hx : (a.eval x, a.eval y) = (.int .i64 n, .int .i64 63)) : Gives P w0 E L ⟨dst, .binOp .and T x y ty', ty, pos, after, g⟩ a (.int .i64 (n % 64)) := fun w ho => by
  simp only [Prod.mk.injEq] at hx
  obtain ⟨h1, h2⟩ := hx
  simp only [execOp, h1, h2, Sem.run_bind, and63_run, Result.andThen_ok, Sem.run_pure, eqGuard]
  rfl
theorem g_idxT (s : ByteArray) (i : Nat) (c : UInt8) (hx : (a.eval x, a.eval y, P.underlying T) = (.string s, .int .i64 (i : Int), some .string)) (hc : (tx s)[i]? = some c) : Gives P w0 E L ⟨dst, .index T x y, ty, pos, after, g⟩ a (.int .u8 (c.toNat : Int)) := fun w ho => by
  simp only [Prod.mk.injEq] at hx
  obtain ⟨h1, h2, h3⟩ := hx
  have hg : s[i]? = some c := by
    rw [← hc]; unfold tx
    rw [Array.getElem?_toList]; rfl
  have hi : (0 : Int) ≤ (i : Int) := by omega
  simp [execOp, Instr.index, h1, h2, Sem.run_bind, run_underlying h3, asIntOf, hg, hi]
end
/-! ### Records, as they are read -/
section
open Go.Lib
theorem sz_pos {s : ByteArray} (h : ¬ s = (⟨#[]⟩ : ByteArray)) : 0 < s.size := by
  rcases Nat.eq_zero_or_pos s.size with e | e
  · exact absurd (tx_inj (List.eq_nil_of_length_eq_zero (by rw [tx_len]; exact e))) h
  · exact e
theorem at_zero {s : ByteArray} (h : 0 < s.size) : ∃ c, (tx s)[0]? = some c := ⟨_, List.getElem?_eq_getElem (by rw [tx_len]; exact h)⟩
theorem tx_from (s : ByteArray) (j : Nat) : tx (s.extract j s.size) = (tx s).drop j := by
  rw [tx_cut, List.take_of_length_le (by rw [tx_len]; exact Nat.le_refl _)]
def RecG (s cur : ByteArray) (ol : List ByteArray) : Prop := recP (tx s) = (recP (tx cur)).map (ol.map tx ++ ·)
variable {s cur : ByteArray} {ol : List ByteArray} {c : UInt8} {v : Int}
theorem rec_init : RecG s s [] := by unfold RecG; cases recP (tx s) <;> rfl
theorem rec_end (g : RecG s cur ol) (h : cur = (⟨#[]⟩ : ByteArray)) : recP (tx s) = some (ol.map tx) := by
  unfold RecG at g
  rw [g, h, show tx (⟨#[]⟩ : ByteArray) = [] from rfl, recP_nil]; simp
theorem cons_of {l : Tx} (hc : l[0]? = some c) : ∃ r, l = c :: r := by
  cases l with
  | nil => cases hc
  | cons x r => simp at hc; exact ⟨r, by rw [hc]⟩
theorem rec_zero (g : RecG s cur ol) (hc : (tx cur)[0]? = some c) (h0 : (c.toNat : Int) = 0) {j : Nat} (hj : (if cur.size % 64 = 0 then 64 else cur.size % 64) = j) : RecG s (cur.extract j cur.size) ol := by
  obtain ⟨r, e⟩ := cons_of hc
  have hc0 : c = 0 := UInt8.toNat_inj.1 (by simpa using h0)
  unfold RecG at *
  rw [g, tx_from]
  congr 1
  have hl : (c :: r).length = cur.size := by rw [← e, tx_len]
  rw [e, recP, if_pos hc0, hl, hj]
theorem rec_none (g : RecG s cur ol) (h : recP (tx cur) = none) : recP (tx s) = none := by unfold RecG at g; rw [g, h]; rfl
theorem ne_zero (h0 : ¬ (c.toNat : Int) = 0) : ¬ c = 0 := by rintro rfl; exact h0 rfl
theorem rec_short (hc : (tx cur)[0]? = some c) (h0 : ¬ (c.toNat : Int) = 0) (hl : cur.size < 10) : recP (tx cur) = none := by
  obtain ⟨r, e⟩ := cons_of hc
  have hl' : (c :: r).length = cur.size := by rw [← e, tx_len]
  rw [e, recP, if_neg (ne_zero h0), if_pos (by omega)]
theorem rec_noint (hc : (tx cur)[0]? = some c) (h0 : ¬ (c.toNat : Int) = 0) (hl : ¬ cur.size < 10) (ha : ∀ x, atoiAll (tx (cur.extract 0 10)) ≠ .ok x) : recP (tx cur) = none := by
  obtain ⟨r, e⟩ := cons_of hc
  have hl' : (c :: r).length = cur.size := by rw [← e, tx_len]
  rw [show (10 : Nat) = 0 + 10 from rfl, piece cur 0, List.drop_zero, e] at ha
  rw [e, recP, if_neg (ne_zero h0), if_neg (by omega)]
  cases hq : atoiAll ((c :: r).take 10) with
  | ok x => exact absurd hq (ha x)
  | range => rfl
  | _ => rfl
theorem rec_badint (hc : (tx cur)[0]? = some c) (h0 : ¬ (c.toNat : Int) = 0) (hl : ¬ cur.size < 10) (ha : atoiAll (tx (cur.extract 0 10)) = .ok v) (hv : v < 0 ∨ v > (cur.size : Int) - 10) : recP (tx cur) = none := by
  obtain ⟨r, e⟩ := cons_of hc
  have hl' : (c :: r).length = cur.size := by rw [← e, tx_len]
  rw [show (10 : Nat) = 0 + 10 from rfl, piece cur 0, List.drop_zero, e] at ha
  rw [e, recP, if_neg (ne_zero h0), if_neg (by omega), ha]
  simp only
  rw [if_pos (by omega)]
theorem rec_rec (g : RecG s cur ol) (hc : (tx cur)[0]? = some c) (h0 : ¬ (c.toNat : Int) = 0) (hl : ¬ cur.size < 10) (ha : atoiAll (tx (cur.extract 0 10)) = .ok v) (hv : 0 ≤ v) (hv2 : v ≤ (cur.size : Int) - 10) {j : Nat} (hj : 10 + v = (j : Int)) : RecG s (cur.extract j cur.size) (ol ++ [cur.extract 10 j]) := by
  obtain ⟨r, e⟩ := cons_of hc
  have hl' : (c :: r).length = cur.size := by rw [← e, tx_len]
  rw [show (10 : Nat) = 0 + 10 from rfl, piece cur 0, List.drop_zero, e] at ha
  have e1 : recP (tx cur) = (recP ((tx cur).drop j)).map ((tx (cur.extract 10 j)) :: ·) := by
    rw [tx_cut, List.drop_take, e, recP, if_neg (ne_zero h0), if_neg (by omega), ha]
    simp only
    rw [if_neg (by omega), show 10 + v.toNat = j by omega, show j - 10 = v.toNat by omega]
  unfold RecG at *
  rw [g, e1, tx_from]
  cases recP ((tx cur).drop j) <;> simp
end

/- logp: contracts by what is owned (printed by walk.py). -/
theorem records_spec (a1 a2 : Addr) (s : ByteArray) (hs : s.size ≤ 400000)  : Spec Tryz.prog 29 #[.string s] [rNumE a1 a2] (fun u L => (∃ (v : Value) (rs : List ByteArray), recP (tx s) = some (rs.map tx) ∧ u = .tuple #[v, .bool true] ∧ L = [rNumE a1 a2, rRows true v 9 1 strC rs]) ∨ (recP (tx s) = none ∧ u = .tuple #[.slice none 0 0, .bool false] ∧ L = [rNumE a1 a2])) := by
  refine spec_of (#[.string s, undef, undef, undef, undef, undef, undef, undef, undef, undef, undef, undef, undef, undef, undef, undef, undef, undef, undef, undef, undef, undef, undef, undef, undef, undef, undef, undef, undef, undef, undef, undef, undef, undef, undef, undef, undef, undef, undef, undef, undef, undef, undef, undef, undef, undef, undef, undef, undef, undef, undef, undef, undef, undef, undef]) Tryz.func29 rfl (by kernel_rfl) fun E w0 w h => ?_
  refine c_seq ?_
  refine c_reg ?_
  refine sq_p (.slice none 0 0) rfl (fun _ => by kernel_rfl) ?_
  refine sq_p (.bool false) rfl (fun _ => by kernel_rfl) ?_
  refine lnil ?_
  refine thn_n ?_
  refine c_seq ?_
  refine c_reg ?_
  refine sq_p (.slice none 0 0) rfl (fun _ => by kernel_rfl) ?_
  refine lnil ?_
  refine thn_n ?_
  refine c_seq ?_
  refine c_block ?_
  have h := h.nilRows 9 1 strC
  refine c_loop (X := ByteArray × Value × List ByteArray × (Nat → Value)) (fun ⟨cur, ov, ol, J0⟩ => ⟨#[.string cur, undef, J0 2, J0 3, ov, J0 5, J0 6, J0 7, J0 8, J0 9, J0 10, J0 11, J0 12, J0 13, J0 14, J0 15, J0 16, J0 17, J0 18, J0 19, J0 20, J0 21, J0 22, J0 23, J0 24, J0 25, J0 26, J0 27, J0 28, J0 29, J0 30, J0 31, J0 32, J0 33, J0 34, J0 35, J0 36, J0 37, J0 38, J0 39, J0 40, J0 41, J0 42, J0 43, J0 44, J0 45, J0 46, J0 47, J0 48, J0 49, J0 50, J0 51, J0 52, J0 53, undef], []⟩)
    (fun ⟨cur, ov, ol, J0⟩ => [rRows true ov 9 1 strC ol, rNumE a1 a2]) (fun ⟨cur, ov, ol, J0⟩ => RecG s cur ol ∧ ol.length * 10 + cur.size ≤ s.size) (fun ⟨cur, ov, ol, J0⟩ => cur.size)
    ⟨s, (.slice none 0 0), [], (fun n => (#[.string s, undef, .slice none 0 0, .bool false, .slice none 0 0, undef, undef, undef, undef, undef, undef, undef, undef, undef, undef, undef, undef, undef, undef, undef, undef, undef, undef, undef, undef, undef, undef, undef, undef, undef, undef, undef, undef, undef, undef, undef, undef, undef, undef, undef, undef, undef, undef, undef, undef, undef, undef, undef, undef, undef, undef, undef, undef, undef, undef] : Array Value).getD n undef)⟩ ⟨rec_init, by simp⟩ (by kernel_rfl) [0, 0] (by kernel_rfl) h ?_
  rintro ⟨cur, ov, ol, J0⟩ w hG h
  obtain ⟨hrg, hrl⟩ : RecG s cur ol ∧ ol.length * 10 + cur.size ≤ s.size := hG
  refine c_seq ?_
  refine c_seq ?_
  refine c_reg ?_
  refine sq_p (.string cur) rfl (fun _ => by kernel_rfl) ?_
  refine sq_q rfl h (g_eq (v := .bool !(cur.toList == (⟨#[]⟩ : ByteArray).toList)) (v' := .bool (!(decide (cur = (⟨#[]⟩ : ByteArray))))) (g_pure fun _ => by kernel_rfl) bneS) ?_
  refine lnil ?_
  refine thn_n ?_
  refine c_cond (!(decide (cur = (⟨#[]⟩ : ByteArray)))) (by kernel_rfl) (fun hc1 => ?_) (fun hc1 => ?_)
  · skip
    have q2 : (decide (cur = (⟨#[]⟩ : ByteArray))) = false := by simpa using hc1
    have q2 := of_decide_eq_false q2
    have hpos := sz_pos (by assumption : ¬ cur = (⟨#[]⟩ : ByteArray))
    refine c_skip ?_
    refine thn_n ?_
    refine c_block ?_
    refine c_seq ?_
    refine c_seq ?_
    refine c_reg ?_
    refine sq_p (.string cur) rfl (fun _ => by kernel_rfl) ?_
    obtain ⟨c03, hc04⟩ := at_zero hpos
    refine sq_q rfl h (g_idxT cur 0 c03 (by kernel_rfl) hc04) ?_
    refine sq_p (.bool (decide ((c03.toNat : Int) = 0))) rfl (fun _ => by kernel_rfl) ?_
    refine lnil ?_
    refine thn_n ?_
    refine c_cond (decide ((c03.toNat : Int) = 0)) (by kernel_rfl) (fun hc5 => ?_) (fun hc5 => ?_)
    · skip
      have hc5 := of_decide_eq_true hc5
      refine c_seq ?_
      refine c_reg ?_
      refine sq_p (.string cur) rfl (fun _ => by kernel_rfl) ?_
      refine sq_p (.int .i64 (cur.size : Int)) rfl (fun _ => by kernel_rfl) ?_
      refine sq_q rfl h (g_and63 (cur.size : Int) (by kernel_rfl)) ?_
      refine sq_p (.int .i64 ((cur.size : Int) % 64)) rfl (fun _ => by kernel_rfl) ?_
      refine lnil ?_
      refine thn_n ?_
      refine c_seq ?_
      refine c_seq ?_
      refine c_reg ?_
      refine sq_p (.int .i64 ((cur.size : Int) % 64)) rfl (fun _ => by kernel_rfl) ?_
      refine sq_p (.bool (decide ((cur.size : Int) % 64 = 0))) rfl (fun _ => by kernel_rfl) ?_
      refine lnil ?_
      refine thn_n ?_
      refine c_cond (decide ((cur.size : Int) % 64 = 0)) (by kernel_rfl) (fun hc6 => ?_) (fun hc6 => ?_)
      · skip
        have hc6 := of_decide_eq_true hc6
        refine c_reg ?_
        refine sq_p (.int .i64 64) rfl (fun _ => by kernel_rfl) ?_
        refine lnil ?_
        refine thn_n ?_
        refine c_seq ?_
        refine c_reg ?_
        refine sq_p (.string cur) rfl (fun _ => by kernel_rfl) ?_
        refine sq_p (.int .i64 64) rfl (fun _ => by kernel_rfl) ?_
        refine sq_q rfl h (g_subT cur (LV := (some (.int .i64 64))) (HV := none) 64 cur.size (by kernel_rfl) (bnd rfl) rfl (by first | omega | (simp; omega)) (by first | omega | (simp; omega))) ?_
        refine sq_p (.string (cur.extract 64 cur.size)) rfl (fun _ => by kernel_rfl) ?_
        refine lnil ?_
        refine thn_n ?_
        refine c_exit ?_
        refine thn_e (blk_e ?_)
        have hQ7 : (RecG s (cur.extract 64 cur.size) ol ∧ ol.length * 10 + (cur.extract 64 cur.size).size ≤ s.size) ∧ ((cur.extract 64 cur.size).size) < cur.size := ⟨⟨rec_zero hrg hc04 (by assumption) (by split <;> omega), (by (try simp only [List.length_append, List.length_cons, List.length_nil, ByteArray.size_extract]); omega)⟩, (by (try simp only [List.length_append, List.length_cons, List.length_nil, ByteArray.size_extract]); omega)⟩
        refine loop_end (fun j => ⟨(cur.extract 64 cur.size), ov, ol, j⟩) hQ7 (by kernel_rfl) [0, 0] (by kernel_rfl) h
      · skip
        have hc6 := of_decide_eq_false hc6
        refine c_skip ?_
        refine thn_n ?_
        refine c_seq ?_
        refine c_reg ?_
        refine sq_p (.string cur) rfl (fun _ => by kernel_rfl) ?_
        refine sq_p (.int .i64 ((cur.size : Int) % 64)) rfl (fun _ => by kernel_rfl) ?_
        obtain ⟨j8, hj8⟩ : ∃ n : Nat, (cur.size : Int) % 64 = (n : Int) := ⟨((cur.size : Int) % 64).toNat, by omega⟩
        refine sq_q rfl h (g_subT cur (LV := (some (.int .i64 ((cur.size : Int) % 64)))) (HV := none) j8 cur.size (by kernel_rfl) (bnd hj8) rfl (by first | omega | (simp; omega)) (by first | omega | (simp; omega))) ?_
        refine sq_p (.string (cur.extract j8 cur.size)) rfl (fun _ => by kernel_rfl) ?_
        refine lnil ?_
        refine thn_n ?_
        refine c_exit ?_
        refine thn_e (blk_e ?_)
        have hQ9 : (RecG s (cur.extract j8 cur.size) ol ∧ ol.length * 10 + (cur.extract j8 cur.size).size ≤ s.size) ∧ ((cur.extract j8 cur.size).size) < cur.size := ⟨⟨rec_zero hrg hc04 (by assumption) (by split <;> omega), (by (try simp only [List.length_append, List.length_cons, List.length_nil, ByteArray.size_extract]); omega)⟩, (by (try simp only [List.length_append, List.length_cons, List.length_nil, ByteArray.size_extract]); omega)⟩
        refine loop_end (fun j => ⟨(cur.extract j8 cur.size), ov, ol, j⟩) hQ9 (by kernel_rfl) [0, 0] (by kernel_rfl) h
    · skip
      have hc5 := of_decide_eq_false hc5
      refine c_skip ?_
      refine thn_n ?_
      refine c_seq ?_
      refine c_seq ?_
      refine c_reg ?_
      refine sq_p (.string cur) rfl (fun _ => by kernel_rfl) ?_
      refine sq_p (.int .i64 (cur.size : Int)) rfl (fun _ => by kernel_rfl) ?_
      refine sq_p (.bool (decide ((cur.size : Int) < 10))) rfl (fun _ => by kernel_rfl) ?_
      refine lnil ?_
      refine thn_n ?_
      refine c_cond (decide ((cur.size : Int) < 10)) (by kernel_rfl) (fun hc10 => ?_) (fun hc10 => ?_)
      · skip
        have hc10 := of_decide_eq_true hc10
        refine c_seq ?_
        refine c_reg ?_
        refine sq_p (.slice none 0 0) rfl (fun _ => by kernel_rfl) ?_
        refine sq_p (.bool false) rfl (fun _ => by kernel_rfl) ?_
        refine lnil ?_
        refine thn_n ?_
        refine c_ret ?_
        refine thn_r (blk_r (rnd_r (blk_r (thn_r ?_))))
        refine ret_end [.slice none 0 0, .bool false] [1] h (by kernel_rfl) (res_t (by kernel_rfl) (res_t (by kernel_rfl) res_n)) ?_
        exact .inr ⟨rec_none hrg (rec_short hc04 (by assumption) (by omega)), rfl, rfl⟩
      · skip
        have hc10 := of_decide_eq_false hc10
        refine c_skip ?_
        refine thn_n ?_
        refine c_seq ?_
        refine c_reg ?_
        refine sq_p (.string cur) rfl (fun _ => by kernel_rfl) ?_
        refine sq_q rfl h (g_subT cur (LV := none) (HV := (some (.int .i64 10))) 0 10 (by kernel_rfl) rfl (bnd rfl) (by first | omega | (simp; omega)) (by first | omega | (simp; omega))) ?_
        refine sq_call #[.string (cur.extract 0 10)] [1] rfl (atoi_spec a1 a2 (cur.extract 0 10) (by rw [ByteArray.size_extract]; omega)) (fun _ => by kernel_rfl) h ?_; rintro v_ L_ w (⟨va11, hva12, rfl, rfl⟩ | ⟨va11, N13, hva12, rfl, rfl⟩) h
        · skip
          refine sq_p (.tuple #[.int .i64 va11, .nilIface]) rfl (fun _ => by kernel_rfl) ?_
          refine sq_p (.int .i64 va11) rfl (fun _ => by kernel_rfl) ?_
          refine sq_p (.nilIface) rfl (fun _ => by kernel_rfl) ?_
          refine sq_p (.int .i64 va11) rfl (fun _ => by kernel_rfl) ?_
          refine sq_p (.nilIface) rfl (fun _ => by kernel_rfl) ?_
          refine lnil ?_
          refine thn_n ?_
          refine c_seq ?_
          refine c_seq ?_
          refine c_reg ?_
          refine sq_p (.nilIface) rfl (fun _ => by kernel_rfl) ?_
          refine sq_p (.bool false) rfl (fun _ => by kernel_rfl) ?_
          refine sq_p (.bool false) rfl (fun _ => by kernel_rfl) ?_
          refine sq_p (.int .i64 va11) (by kernel_rfl) (fun _ => by kernel_rfl) ?_
          obtain ⟨b14, hb14⟩ : ∃ b_ : Bool, b_ = (decide (va11 < 0)) := ⟨_, rfl⟩
          refine sq_q (v := .bool b14) (by kernel_rfl) h (by subst hb14; exact g_pure (v := .bool (decide (va11 < 0))) fun _ => by kernel_rfl) ?_
          refine sq_p (.bool b14) rfl (fun _ => by kernel_rfl) ?_
          refine sq_p (.bool b14) rfl (fun _ => by kernel_rfl) ?_
          refine sq_m0 (v := .int .i64 va11) b14 (by cases b14 <;> kernel_rfl) h (fun hB => by subst hB; exact g_pure (v := .int .i64 va11) fun _ => by kernel_rfl) ?_
          refine sq_m0 (v := .string cur) b14 (by cases b14 <;> kernel_rfl) h (fun hB => by subst hB; exact g_pure (v := .string cur) fun _ => by kernel_rfl) ?_
          refine sq_m0 (v := .int .i64 (cur.size : Int)) b14 (by cases b14 <;> kernel_rfl) h (fun hB => by subst hB; exact g_pure (v := .int .i64 (cur.size : Int)) fun _ => by kernel_rfl) ?_
          refine sq_m0 (v := .int .i64 ((cur.size : Int) - 10)) b14 (by cases b14 <;> kernel_rfl) h (fun hB => by subst hB; exact g_eq (v := .int .i64 (IntKind.i64.wrap ((cur.size : Int) - 10))) (v' := .int .i64 ((cur.size : Int) - 10)) (g_pure fun _ => by kernel_rfl) (wr (by omega))) ?_
          obtain ⟨b15, hb15⟩ : ∃ b_ : Bool, b_ = (decide (va11 > (cur.size : Int) - 10)) := ⟨_, rfl⟩
          refine sq_m0 (v := .bool b15) b14 (by cases b14 <;> kernel_rfl) h (fun hB => by subst hB; exact by subst hb15; exact g_pure (v := .bool (decide (va11 > (cur.size : Int) - 10))) fun _ => by kernel_rfl) ?_
          obtain ⟨b16, hb16⟩ : ∃ b_ : Bool, b_ = (b14 || b15) := ⟨_, rfl⟩
          refine sq_q (v := .bool b16) rfl h (by subst hb16; exact g_pure (v := .bool (b14 || b15)) fun _ => by cases b14 <;> kernel_rfl) ?_
          refine lnil ?_
          refine thn_n ?_
          refine c_cond (b16) (by kernel_rfl) (fun hc17 => ?_) (fun hc17 => ?_)
          · skip
            have q18 : (b14 || b15) = true := by rw [← hb16]; exact hc17
            have q19 : ((va11 < 0) ∨ (va11 > (cur.size : Int) - 10)) := by subst hb15; subst hb14; revert q18; first | (simp; done) | (simp; omega)
            refine c_seq ?_
            refine c_reg ?_
            refine sq_p (.slice none 0 0) rfl (fun _ => by kernel_rfl) ?_
            refine sq_p (.bool false) rfl (fun _ => by kernel_rfl) ?_
            refine lnil ?_
            refine thn_n ?_
            refine c_ret ?_
            refine thn_r (blk_r (rnd_r (blk_r (thn_r ?_))))
            refine ret_end [.slice none 0 0, .bool false] [0] h (by kernel_rfl) (res_t (by kernel_rfl) (res_t (by kernel_rfl) res_n)) ?_
            exact .inr ⟨rec_none hrg (rec_badint hc04 (by assumption) (by omega) hva12 (by omega)), rfl, rfl⟩
          · skip
            have q20 : (b14 || b15) = false := by rw [← hb16]; exact hc17
            have q21 : b14 = false := by revert q20; cases b14 <;> simp
            have q22 : b15 = false := by revert q20; cases b14 <;> cases b15 <;> simp
            have q23 : (decide (va11 < 0)) = false := by rw [← hb14]; exact q21
            have q23 := of_decide_eq_false q23
            have q24 : (decide (va11 > (cur.size : Int) - 10)) = false := by rw [← hb15]; exact q22
            have q24 := of_decide_eq_false q24
            refine c_skip ?_
            refine thn_n ?_
            refine c_seq ?_
            refine c_reg ?_
            refine sq_p (ov) rfl (fun _ => by kernel_rfl) ?_
            refine sq_p (.string cur) rfl (fun _ => by kernel_rfl) ?_
            refine sq_p (.int .i64 va11) rfl (fun _ => by kernel_rfl) ?_
            refine sq_q rfl h (g_eq (v := .int .i64 (IntKind.i64.wrap (10 + va11))) (v' := .int .i64 (10 + va11)) (g_pure fun _ => by kernel_rfl) (wr (by omega))) ?_
            obtain ⟨j25, hj25⟩ : ∃ n : Nat, 10 + va11 = (n : Int) := ⟨(10 + va11).toNat, by omega⟩
            refine sq_q rfl h (g_subT cur (LV := (some (.int .i64 10))) (HV := (some (.int .i64 (10 + va11)))) 10 j25 (by kernel_rfl) (bnd rfl) (bnd hj25) (by first | omega | (simp; omega)) (by first | omega | (simp; omega))) ?_
            refine sq_new rfl (fun b => .slice (some ⟨b, 0, none⟩) 1 1) [.string (cur.extract 10 j25)] 9 (fun _ => by kernel_rfl) h ?_; intro k26 w h
            refine sq_app (b := k26) (o := 0) rfl 1 (cur.extract 10 j25) (by kernel_rfl) h 2 rfl 0 rfl (rdCell 0 (by kernel_rfl)) (by (try simp only [List.length_append, List.length_cons, List.length_nil, List.length_map]); omega) ?_; intro v27 w h
            refine sq_p (v27) rfl (fun _ => by kernel_rfl) ?_
            refine lnil ?_
            refine thn_n ?_
            refine c_reg ?_
            refine sq_p (.string cur) rfl (fun _ => by kernel_rfl) ?_
            refine sq_p (.int .i64 va11) rfl (fun _ => by kernel_rfl) ?_
            refine sq_q rfl h (g_eq (v := .int .i64 (IntKind.i64.wrap (10 + va11))) (v' := .int .i64 (10 + va11)) (g_pure fun _ => by kernel_rfl) (wr (by omega))) ?_
            refine sq_q rfl h (g_subT cur (LV := (some (.int .i64 (10 + va11)))) (HV := none) j25 cur.size (by kernel_rfl) (bnd hj25) rfl (by first | omega | (simp; omega)) (by first | omega | (simp; omega))) ?_
            refine sq_p (.string (cur.extract j25 cur.size)) rfl (fun _ => by kernel_rfl) ?_
            refine lnil ?_
            refine blk_n ?_
            have hQ28 : (RecG s (cur.extract j25 cur.size) (ol ++ [cur.extract 10 j25]) ∧ (ol ++ [cur.extract 10 j25]).length * 10 + (cur.extract j25 cur.size).size ≤ s.size) ∧ ((cur.extract j25 cur.size).size) < cur.size := ⟨⟨rec_rec hrg hc04 (by assumption) (by omega) hva12 (by omega) (by omega) (by omega), (by (try simp only [List.length_append, List.length_cons, List.length_nil, ByteArray.size_extract]); omega)⟩, (by (try simp only [List.length_append, List.length_cons, List.length_nil, ByteArray.size_extract]); omega)⟩
            refine loop_end (fun j => ⟨(cur.extract j25 cur.size), v27, (ol ++ [cur.extract 10 j25]), j⟩) hQ28 (by kernel_rfl) [2, 1] (by kernel_rfl) h
        · skip
          refine sq_p (.tuple #[.int .i64 va11, .iface 140 (.pointer (some ⟨N13, 0, none⟩))]) rfl (fun _ => by kernel_rfl) ?_
          refine sq_p (.int .i64 va11) rfl (fun _ => by kernel_rfl) ?_
          refine sq_p (.iface 140 (.pointer (some ⟨N13, 0, none⟩))) rfl (fun _ => by kernel_rfl) ?_
          refine sq_p (.int .i64 va11) rfl (fun _ => by kernel_rfl) ?_
          refine sq_p (.iface 140 (.pointer (some ⟨N13, 0, none⟩))) rfl (fun _ => by kernel_rfl) ?_
          refine lnil ?_
          refine thn_n ?_
          refine c_seq ?_
          refine c_seq ?_
          refine c_reg ?_
          refine sq_p (.iface 140 (.pointer (some ⟨N13, 0, none⟩))) rfl (fun _ => by kernel_rfl) ?_
          refine sq_p (.bool true) rfl (fun _ => by kernel_rfl) ?_
          refine sq_p (.bool true) rfl (fun _ => by kernel_rfl) ?_
          refine sn (by kernel_rfl) ?_
          refine sn (by kernel_rfl) ?_
          refine sq_p (.bool true) rfl (fun _ => by kernel_rfl) ?_
          refine sq_p (.bool true) rfl (fun _ => by kernel_rfl) ?_
          refine sn (by kernel_rfl) ?_
          refine sn (by kernel_rfl) ?_
          refine sn (by kernel_rfl) ?_
          refine sn (by kernel_rfl) ?_
          refine sn (by kernel_rfl) ?_
          refine sq_p (.bool true) rfl (fun _ => by kernel_rfl) ?_
          refine lnil ?_
          refine thn_n ?_
          refine c_true (by kernel_rfl) ?_
          refine c_seq ?_
          refine c_reg ?_
          refine sq_p (.slice none 0 0) rfl (fun _ => by kernel_rfl) ?_
          refine sq_p (.bool false) rfl (fun _ => by kernel_rfl) ?_
          refine lnil ?_
          refine thn_n ?_
          refine c_ret ?_
          refine thn_r (blk_r (rnd_r (blk_r (thn_r ?_))))
          refine ret_end [.slice none 0 0, .bool false] [0] h (by kernel_rfl) (res_t (by kernel_rfl) (res_t (by kernel_rfl) res_n)) ?_
          exact .inr ⟨rec_none hrg (rec_noint hc04 (by assumption) (by omega) hva12), rfl, rfl⟩
  · skip
    have q29 : (decide (cur = (⟨#[]⟩ : ByteArray))) = true := by simpa using hc1
    have q29 := of_decide_eq_true q29
    refine c_exit ?_
    refine thn_e (rnd_e (blk_e (thn_n ?_)))
    refine c_seq ?_
    refine c_reg ?_
    refine sq_p (ov) rfl (fun _ => by kernel_rfl) ?_
    refine sq_p (ov) rfl (fun _ => by kernel_rfl) ?_
    refine sq_p (.bool true) rfl (fun _ => by kernel_rfl) ?_
    refine lnil ?_
    refine thn_n ?_
    refine c_ret ?_
    refine ret_end [ov, .bool true] [1, 0] h (by kernel_rfl) (res_t (by kernel_rfl) (res_t (by kernel_rfl) res_n)) ?_
    exact .inl ⟨_, ol, rec_end hrg (by assumption), rfl, rfl⟩

section
/- Packs: lemmas beside the walk of pack. Over no program. -/
open Go.Lib
theorem pk_take {rs : List ByteArray} {i : Nat} (hi : i < rs.length) : packT ((rs.take (i + 1)).map tx) = packT ((rs.take i).map tx) ++ (tx (numS rs[i].size) ++ tx rs[i]) := by
  rw [List.take_succ_eq_append_getElem hi, List.map_append]
  unfold packT recB numS
  rw [tx_of, List.flatMap_append]
  simp [tx_len]
theorem pk_split (rs : List ByteArray) (i : Nat) : packT (rs.map tx) = packT ((rs.take i).map tx) ++ packT ((rs.drop i).map tx) := by
  unfold packT
  rw [← List.flatMap_append, ← List.map_append, List.take_append_drop]
theorem pk_le (rs : List ByteArray) (i : Nat) : (packT ((rs.take i).map tx)).length ≤ (packT (rs.map tx)).length := by
  rw [pk_split rs i, List.length_append]; omega
theorem pk_len1 {rs : List ByteArray} {N : Nat} (hb : (packT (rs.map tx)).length ≤ N) {i : Nat} (hi : i < rs.length) : (packT ((rs.take i).map tx)).length + (num10 rs[i].size).length + rs[i].size ≤ N := by
  have h1 := pk_le rs (i + 1)
  rw [pk_take hi, List.length_append, List.length_append, tx_len, tx_len] at h1
  unfold numS at h1
  rw [size_of] at h1
  omega
theorem pk_lt {rs : List ByteArray} {N : Nat} (hb : (packT (rs.map tx)).length ≤ N) (hN : N < 10000000000 := by omega) {i : Nat} (hi : i < rs.length) : rs[i].size < 10000000000 := by
  have := pk_len1 hb hi; omega
theorem pk_nil {rs : List ByteArray} {i : Nat} (hi : i ≤ rs.length) (he : packT ((rs.take i).map tx) = []) : i = 0 := by
  rcases i with _ | i
  · rfl
  · have hi2 : i < rs.length := by omega
    rw [pk_take hi2] at he
    have h1 := congrArg List.length he
    unfold numS at h1
    rw [tx_of, List.length_append, List.length_append] at h1
    have h2 := dec_pos rs[i].size
    have h3 : (num10 rs[i].size).length = 0 := by simp at h1; simp [h1]
    unfold num10 at h3
    rw [List.length_append] at h3
    omega
theorem pk_cnt : ∀ rs : List ByteArray, rs.length ≤ (packT (rs.map tx)).length
  | [] => Nat.zero_le _
  | r :: rs => by
    have h1 := pk_cnt rs
    have h2 := dec_pos (tx r).length
    unfold packT at h1 ⊢
    rw [List.map_cons, List.flatMap_cons, List.length_append]
    unfold recB num10
    rw [List.length_append, List.length_append, List.length_cons]
    unfold recB num10 at h1
    omega
theorem pk_next {rs : List ByteArray} {i : Nat} {x : ByteArray} {t : Tx} (hx : rs[i]? = some x) (ht : t = packT ((rs.take i).map tx)) : t ++ (numS x.size ++ x).data.toList = packT ((rs.take (i + 1)).map tx) := by
  obtain ⟨h, rfl⟩ := List.getElem?_eq_some_iff.1 hx
  rw [pk_take h, ht, show (numS rs[i].size ++ rs[i]).data.toList = tx (numS rs[i].size ++ rs[i]) from rfl, tx_app]
theorem pk_ltx {rs : List ByteArray} {N : Nat} (hb : (packT (rs.map tx)).length ≤ N) {i : Nat} {x : ByteArray} (hx : rs[i]? = some x) (hN : N < 10000000000 := by omega) : x.size < 10000000000 := by
  obtain ⟨h, rfl⟩ := List.getElem?_eq_some_iff.1 hx
  exact pk_lt hb hN h
theorem pk_lenx {rs : List ByteArray} {N : Nat} {t : Tx} (hb : (packT (rs.map tx)).length ≤ N) {i : Nat} {x : ByteArray} (hx : rs[i]? = some x) (ht : t = packT ((rs.take i).map tx)) : t.length + (numS x.size ++ x).size ≤ N := by
  obtain ⟨h, rfl⟩ := List.getElem?_eq_some_iff.1 hx
  have := pk_len1 hb h
  rw [ht, ByteArray.size_append]
  unfold numS
  rw [size_of]
  omega
theorem pk_all {rs : List ByteArray} {i : Nat} {t : Tx} (hi : ¬ i < rs.length) (ht : t = packT ((rs.take i).map tx)) : t = packT (rs.map tx) := by
  rw [ht, List.take_of_length_le (by omega)]
theorem pk_done {rs : List ByteArray} {t : Tx} {c : Nat} (ht : t = packT (rs.map tx)) (hc : (-(t.length : Int)) % 64 = (c : Int)) : ofT t ++ ofT (List.replicate c 0) = ofT (packB (rs.map tx)) := by
  refine tx_inj ?_
  rw [tx_app, tx_of, tx_of, tx_of]
  unfold packB
  rw [← ht]
  unfold upTo
  rw [show c = (64 - t.length % 64) % 64 by omega]

end
/- logp: contracts by what is owned (printed by walk.py). -/
theorem pack_spec (rv : Value) (rs : List ByteArray) (hb : (packT (rs.map tx)).length ≤ 90000000)  : Spec Tryz.prog 38 #[rv] [rTab, rRows true rv 9 1 strC rs] (fun u L => u = .string (ofT (packB (rs.map tx))) ∧ L = [rTab, rRows true rv 9 1 strC rs]) := by
  refine spec_of (#[rv, undef, undef, undef, undef, undef, undef, undef, undef, undef, undef, undef, undef, undef, undef, undef, undef, undef, undef, undef, undef, undef, undef, undef, undef]) Tryz.func38 rfl (by kernel_rfl) fun E w0 w h => ?_
  refine c_seq ?_
  refine c_reg ?_
  refine sq_p (.string (⟨#[]⟩ : ByteArray)) rfl (fun _ => by kernel_rfl) ?_
  refine lnil ?_
  refine thn_n ?_
  refine c_seq ?_
  refine c_reg ?_
  refine sq_new rfl (fun b => .pointer (some ⟨b, 0, none⟩)) [.pointer none, .slice none 0 0] 74 (fun _ => by kernel_rfl) h ?_; intro k1 w h
  refine lnil ?_
  refine thn_n ?_
  refine c_seq ?_
  refine c_seq ?_
  refine c_reg ?_
  have h := h.nilTxt 5
  refine sq_p (rv) rfl (fun _ => by kernel_rfl) ?_
  refine sq_q rfl h (g_len (by kernel_rfl) 3 rfl) ?_
  refine sq_p (.int .i64 0) rfl (fun _ => by kernel_rfl) ?_
  refine lnil ?_
  refine thn_n ?_
  refine c_block ?_
  refine c_loop (X := Nat × Value × Value × Tx × (Nat → Value)) (fun ⟨i, p, v, t, J0⟩ => ⟨#[rv, undef, .string (⟨#[]⟩ : ByteArray), .pointer (some ⟨k1, 0, none⟩), undef, J0 5, rv, .int .i64 (rs.length : Int), .int .i64 ((i : Nat) : Int), J0 9, J0 10, J0 11, J0 12, J0 13, J0 14, J0 15, J0 16, J0 17, J0 18, undef, undef, undef, undef, undef, undef], []⟩)
    (fun ⟨i, p, v, t, J0⟩ => [rTxt v 5 t, rCell true k1 [p, v] 74, rTab, rRows true rv 9 1 strC rs]) (fun ⟨i, p, v, t, J0⟩ => i ≤ rs.length ∧ ((p : Value) = .pointer none ∨ (p : Value) = .pointer (some ⟨k1, 0, none⟩)) ∧ (i = 0 → (v : Value) = .slice none 0 0) ∧ t = packT ((rs.take i).map tx)) (fun ⟨i, p, v, t, J0⟩ => rs.length - i)
    ⟨0, (.pointer none), (.slice none 0 0), [], (fun n => (#[rv, undef, .string (⟨#[]⟩ : ByteArray), .pointer (some ⟨k1, 0, none⟩), undef, undef, rv, .int .i64 (rs.length : Int), .int .i64 0, undef, undef, undef, undef, undef, undef, undef, undef, undef, undef, undef, undef, undef, undef, undef, undef] : Array Value).getD n undef)⟩ ⟨by omega, .inl rfl, fun _ => rfl, rfl⟩ (by kernel_rfl) [0, 0, 0, 0] (by kernel_rfl) h ?_
  rintro ⟨i, p, v, t, J0⟩ w hG h
  obtain ⟨hil, hpp, hv0, ht⟩ : i ≤ rs.length ∧ ((p : Value) = .pointer none ∨ (p : Value) = .pointer (some ⟨k1, 0, none⟩)) ∧ (i = 0 → (v : Value) = .slice none 0 0) ∧ t = packT ((rs.take i).map tx) := hG
  have htl : t.length ≤ 90000000 := by rw [ht]; exact Nat.le_trans (pk_le rs i) hb
  have hrn : rs.length ≤ 90000000 := Nat.le_trans (pk_cnt rs) hb
  refine c_seq ?_
  refine c_reg ?_
  refine sq_p (.bool (decide (((i : Nat) : Int) < (rs.length : Int)))) rfl (fun _ => by kernel_rfl) ?_
  refine lnil ?_
  refine thn_n ?_
  refine c_seq ?_
  refine c_cond (decide (((i : Nat) : Int) < (rs.length : Int))) (by kernel_rfl) (fun hc2 => ?_) (fun hc2 => ?_)
  · skip
    have hc2 := of_decide_eq_true hc2
    have hli : i < rs.length := by omega
    refine c_skip ?_
    refine thn_n ?_
    refine c_seq ?_
    refine c_block ?_
    refine c_seq ?_
    refine c_reg ?_
    have hi3 : i < rs.length := by omega
    obtain ⟨x4, hx5⟩ : ∃ x, rs[i]? = some x := ⟨_, List.getElem?_eq_getElem hi3⟩
    refine sq_q rfl h (g_idx i (by kernel_rfl) hi3 3 rfl) ?_
    refine sq_q rfl h (g_ldr (b := blkN rv) (offN rv + i * 1) [.string x4] (.string x4) (by kernel_rfl) 3 rfl (rdRow0 strC_len hx5 (by kernel_rfl))) ?_
    refine sq_p (.string x4) rfl (fun _ => by kernel_rfl) ?_
    refine lnil ?_
    refine thn_n ?_
    refine c_reg ?_
    refine sq_p (.string x4) rfl (fun _ => by kernel_rfl) ?_
    refine sq_p (.int .i64 (x4.size : Int)) rfl (fun _ => by kernel_rfl) ?_
    refine sq_call #[.int .i64 (x4.size : Int)] [2] rfl (number_spec x4.size (pk_ltx (i := i) hb (by assumption))) (fun _ => by kernel_rfl) h ?_; rintro v_ L_ w ⟨rfl, rfl⟩ h
    refine sq_p (.string x4) rfl (fun _ => by kernel_rfl) ?_
    refine sq_q rfl h (g_cat (s := (numS x4.size)) (t := x4) (by kernel_rfl) (by first | (have hq_ := pk_lenx (i := i) hb (by assumption) ht; rw [ByteArray.size_append] at hq_; omega) | ((try simp only [size_of, List.length_replicate, ByteArray.size_append]); omega))) ?_
    refine sq_call #[.pointer (some ⟨k1, 0, none⟩), .string ((numS x4.size) ++ x4)] [2, 1] rfl (bwrite_spec k1 p v hpp t ((numS x4.size) ++ x4) (by have hq_ := pk_lenx (i := i) hb (by assumption) ht; omega)) (fun _ => by kernel_rfl) h ?_; rintro v_ L_ w ⟨vw6, rfl, rfl⟩ h
    refine lnil ?_
    refine blk_n (thn_n ?_)
    refine c_reg ?_
    refine sq_q rfl h (g_eq (v := .int .i64 (IntKind.i64.wrap (((i : Nat) : Int) + 1))) (v' := .int .i64 ((i + 1 : Nat) : Int)) (g_pure fun _ => by kernel_rfl) (wr (by omega))) ?_
    refine sq_p (.int .i64 ((i + 1 : Nat) : Int)) rfl (fun _ => by kernel_rfl) ?_
    refine lnil ?_
    have hQ7 : ((i + 1) ≤ rs.length ∧ (((.pointer (some ⟨k1, 0, none⟩)) : Value) = .pointer none ∨ ((.pointer (some ⟨k1, 0, none⟩)) : Value) = .pointer (some ⟨k1, 0, none⟩)) ∧ ((i + 1) = 0 → (vw6 : Value) = .slice none 0 0) ∧ (t ++ ((numS x4.size) ++ x4).data.toList) = packT ((rs.take (i + 1)).map tx)) ∧ (rs.length - (i + 1)) < (rs.length - i) := ⟨⟨by omega, .inr rfl, fun h0_ => absurd h0_ (by omega), pk_next (by assumption) ht⟩, by omega⟩
    refine loop_end (fun j => ⟨i + 1, .pointer (some ⟨k1, 0, none⟩), vw6, t ++ ((numS x4.size) ++ x4).data.toList, j⟩) hQ7 (by kernel_rfl) [1, 0, 0, 0] (by kernel_rfl) h
  · skip
    have hc2 := of_decide_eq_false hc2
    refine c_exit ?_
    refine thn_e (rnd_e (blk_e (thn_n ?_)))
    refine c_seq ?_
    refine c_reg ?_
    have hshp := txt_shape (h.fact 0 rfl)
    refine sq_call #[.pointer (some ⟨k1, 0, none⟩)] [1, 0] rfl (bstr_spec k1 p v t (fun e_ => hv0 (pk_nil hil (ht ▸ e_)))) (fun _ => by kernel_rfl) h ?_; rintro v_ L_ w ⟨rfl, rfl⟩ h
    refine sq_call #[.pointer (some ⟨k1, 0, none⟩)] [0] rfl (blen_spec k1 p v t.length hshp) (fun _ => by kernel_rfl) h ?_; rintro v_ L_ w ⟨rfl, rfl⟩ h
    refine sq_q rfl h (g_eq (v := .int .i64 (IntKind.i64.wrap (0 - (t.length : Int)))) (v' := .int .i64 (-(t.length : Int))) (g_pure fun _ => by kernel_rfl) (wr (by omega))) ?_
    refine sq_q rfl h (g_and63 (-(t.length : Int)) (by kernel_rfl)) ?_
    obtain ⟨rc8, hrc9⟩ : ∃ m_ : Nat, (-(t.length : Int)) % 64 = (m_ : Int) := ⟨((-(t.length : Int)) % 64).toNat, by omega⟩
    refine sq_call #[.string (⟨#[0]⟩ : ByteArray), .int .i64 ((-(t.length : Int)) % 64)] [] rfl (repeat_spec 0 ((-(t.length : Int)) % 64) rc8 hrc9 (by omega)) (fun _ => by kernel_rfl) h ?_; rintro v_ L_ w ⟨rfl, rfl⟩ h
    refine sq_q rfl h (g_cat (s := (ofT (t))) (t := (ofT (List.replicate rc8 0))) (by kernel_rfl) (by first | (have hq_ := pk_lenx (i := i) hb (by assumption) ht; rw [ByteArray.size_append] at hq_; omega) | ((try simp only [size_of, List.length_replicate, ByteArray.size_append]); omega))) ?_
    refine sq_p (.string ((ofT (t)) ++ (ofT (List.replicate rc8 0)))) rfl (fun _ => by kernel_rfl) ?_
    refine lnil ?_
    refine thn_n ?_
    refine c_ret ?_
    refine ret_end [.string ((ofT (t)) ++ (ofT (List.replicate rc8 0)))] [1, 1] h (by kernel_rfl) (res_t (by kernel_rfl) res_n) ?_
    refine ⟨?_, rfl⟩
    show Value.string _ = _
    congr 1
    exact pk_done (pk_all (by omega) ht) hrc9

end Go.Proofs.YtemnibnlgimpkaaGreatDoor
