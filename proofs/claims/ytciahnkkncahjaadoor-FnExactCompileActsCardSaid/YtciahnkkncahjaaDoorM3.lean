/- Texts of one proof, put together: S1, N1, R1, R2, R3, R4, R5, R6. -/
import Derived.Test.YtciahnkkncahjaaDoorM2
import Derived.Shelf.Small.Wraps
import Derived.Shelf.Utf8.RuneCount
import Derived.Shelf.Strconv.Itoa0
import Derived.Shelf.Strconv.Itoa1
import Derived.Shelf.LaysM
import Derived.Shelf.Strconv.Itoa2
import Derived.Shelf.Strconv.Itoa3
import Derived.Shelf.Strconv.Itoa4
import Derived.Shelf.Strconv.ParseIntEmpty
import Derived.Shelf.Strconv.Clone
import Derived.Shelf.Strconv.SyntaxError
import Derived.Shelf.LaysC
import Derived.Shelf.Strconv.ToError
import Derived.Shelf.Strconv.Lower
import Derived.Shelf.Strconv.ParseUint10
import Derived.Shelf.Strconv.ParseUint10Empty
import Derived.Shelf.Strconv.ParseUint10Any
import Derived.Shelf.Strconv.ParseInt10
import Derived.Shelf.Strconv.RangeError
import Derived.Shelf.Strconv.ToErrorRange
import Derived.Shelf.Strconv.ParseUintEmpty
import Derived.Shelf.Strconv.ParseUint10b64
import Derived.Shelf.Strconv.ParseUint10b32
import Derived.Shelf.Strconv.ParseUint10b16
import Derived.Shelf.Strconv.ParseUint10b8
import Derived.Shelf.Strconv.ParseUint10At
import Derived.Shelf.Strconv.ParseInt10At64
import Derived.Shelf.Strconv.ParseInt10At32
import Derived.Shelf.Strconv.ParseInt10At16
import Derived.Shelf.Strconv.ParseInt10At8
import Derived.Shelf.Strconv.ParseInt10All
import Derived.Shelf.Strconv.ParseIntPublic10
import Derived.Shelf.Strconv.ErrVarParseInt
import Derived.Shelf.Strings.Search1
import Derived.Shelf.Strings.Search2
import Derived.Shelf.Strings.Search3
import Derived.Shelf.Strings.Cut
import Derived.Shelf.Strings.Count
import Derived.Shelf.Strings.Shaped
import Derived.Shelf.Strings.Prefix
import Derived.Shelf.Strings.Split
import Derived.Shelf.Strings.SplitShaped
import Derived.Shelf.Unicode.Decode
import Derived.Shelf.Strings.RuneCount
import Derived.Shelf.Strings.Explode
import Derived.Shelf.Unicode.DecodeSlow
import Derived.Shelf.Unicode.DecodeAny
import Derived.Test.YtciahnkkncahjaaDoorProg
import Derived.Shelf.RegionOpenPlain
import Derived.WalkKit
import Derived.KernelRfl
import Derived.Lib.Walk
import Derived.Lib.SliceRun
import Derived.Laws.Externs
namespace Go.Proofs
open Go.Shelf
def Tryd.lays103_ren : Go.Shelf.Ren := ⟨fun | 103 => 37 | 210 => 45 | 206 => 55 | n => n, fun | 9 => 9 | 4 => 4 | 24 => 79 | 3 => 3 | n => n, fun | n => n⟩
theorem Tryd.lays103 : Go.Proofs.Lays.n103 Tryd.prog Tryd.lays103_ren := {
  mixed := by kernel_rfl
  f103 := Tryd.func37.trans (congrArg some (by kernel_rfl))
  f206 := Tryd.func55.trans (congrArg some (by kernel_rfl))
  f210 := Tryd.func45.trans (congrArg some (by kernel_rfl))
  t3 := Tryd.underlying3
  a3 := Tryd.isAgg3
  z3 := Tryd.sizeOf3
  v3 := Tryd.zeroValue3
  t4 := Tryd.underlying4
  a4 := Tryd.isAgg4
  z4 := Tryd.sizeOf4
  v4 := Tryd.zeroValue4
  t9 := Tryd.underlying9
  a9 := Tryd.isAgg9
  z9 := Tryd.sizeOf9
  v9 := Tryd.zeroValue9
  t24 := Tryd.underlying79
  a24 := Tryd.isAgg79
  z24 := Tryd.sizeOf79
  v24 := Tryd.zeroValue79 }
open Go.RowKit in
/-- strings.CutPrefix: "CutPrefix returns s without the provided leading prefix string and reports whether it found the prefix. If s doesn't start with prefix, CutPrefix returns s, false. If prefix is the empty string, CutPrefix returns s, true.": IT RETURNS '(Lib.trimPrefix s p, Lib.hasPrefix s p)'; the world is as it was. (LAID: no walk: one application.) -/
theorem Tryd.strings_CutPrefix (s p : ByteArray) (w : World) :
    Calls Tryd.prog 37 #[.string s, .string p] w fun e w' => e = .returned (.tuple #[.string ⟨(Lib.trimPrefix s.data.toList p.data.toList).toArray⟩, .bool (Lib.hasPrefix s.data.toList p.data.toList)]) ∧ w' = w := Any.strings_CutPrefix Tryd.lays103 s p w
def Tryd.laysM246_ren : Go.Shelf.Ren := ⟨fun | 246 => 63 | 283 => 69 | 284 => 70 | 285 => 71 | 286 => 72 | 129 => 75 | 317 => 74 | 318 => 76 | 319 => 77 | 320 => 78 | 337 => 79 | 338 => 80 | n => n, fun | 2 => 2 | 3 => 3 | 9 => 9 | 4 => 4 | 171 => 118 | 0 => 0 | 53 => 105 | 37 => 112 | 5 => 5 | 173 => 121 | 212 => 128 | 51 => 101 | 20 => 20 | 213 => 129 | 46 => 93 | 232 => 133 | 233 => 134 | n => n, fun | 17 => 6 | 18 => 7 | 19 => 8 | n => n⟩
theorem Tryd.laysM246 : Go.Proofs.LaysM.n246 Tryd.prog Tryd.laysM246_ren := {
  mixed := by kernel_rfl
  f129 := Tryd.func75.trans (congrArg some (by kernel_rfl))
  f246 := Tryd.func63.trans (congrArg some (by kernel_rfl))
  f283 := Tryd.func69.trans (congrArg some (by kernel_rfl))
  f284 := Tryd.func70.trans (congrArg some (by kernel_rfl))
  f285 := Tryd.func71.trans (congrArg some (by kernel_rfl))
  f286 := Tryd.func72.trans (congrArg some (by kernel_rfl))
  f317 := Tryd.func74.trans (congrArg some (by kernel_rfl))
  f318 := Tryd.func76.trans (congrArg some (by kernel_rfl))
  f319 := Tryd.func77.trans (congrArg some (by kernel_rfl))
  f320 := Tryd.func78.trans (congrArg some (by kernel_rfl))
  f337 := Tryd.func79.trans (congrArg some (by kernel_rfl))
  f338 := Tryd.func80.trans (congrArg some (by kernel_rfl))
  t0 := Tryd.underlying0
  a0 := Tryd.isAgg0
  z0 := Tryd.sizeOf0
  v0 := Tryd.zeroValue0
  t2 := Tryd.underlying2
  a2 := Tryd.isAgg2
  z2 := Tryd.sizeOf2
  v2 := Tryd.zeroValue2
  t3 := Tryd.underlying3
  a3 := Tryd.isAgg3
  z3 := Tryd.sizeOf3
  v3 := Tryd.zeroValue3
  t4 := Tryd.underlying4
  a4 := Tryd.isAgg4
  z4 := Tryd.sizeOf4
  v4 := Tryd.zeroValue4
  t5 := Tryd.underlying5
  a5 := Tryd.isAgg5
  z5 := Tryd.sizeOf5
  v5 := Tryd.zeroValue5
  t9 := Tryd.underlying9
  a9 := Tryd.isAgg9
  z9 := Tryd.sizeOf9
  v9 := Tryd.zeroValue9
  t20 := Tryd.underlying20
  a20 := Tryd.isAgg20
  z20 := Tryd.sizeOf20
  v20 := Tryd.zeroValue20
  t37 := Tryd.underlying112
  a37 := Tryd.isAgg112
  z37 := Tryd.sizeOf112
  v37 := Tryd.zeroValue112
  t46 := Tryd.underlying93
  a46 := Tryd.isAgg93
  z46 := Tryd.sizeOf93
  v46 := Tryd.zeroValue93
  t51 := Tryd.underlying101
  a51 := Tryd.isAgg101
  z51 := Tryd.sizeOf101
  v51 := Tryd.zeroValue101
  t53 := Tryd.underlying105
  a53 := Tryd.isAgg105
  z53 := Tryd.sizeOf105
  v53 := Tryd.zeroValue105
  t171 := Tryd.underlying118
  a171 := Tryd.isAgg118
  z171 := Tryd.sizeOf118
  v171 := Tryd.zeroValue118
  t173 := Tryd.underlying121
  a173 := Tryd.isAgg121
  z173 := Tryd.sizeOf121
  v173 := Tryd.zeroValue121
  t212 := Tryd.underlying128
  a212 := Tryd.isAgg128
  z212 := Tryd.sizeOf128
  v212 := Tryd.zeroValue128
  t213 := Tryd.underlying129
  a213 := Tryd.isAgg129
  z213 := Tryd.sizeOf129
  t232 := Tryd.underlying133
  a232 := Tryd.isAgg133
  z232 := Tryd.sizeOf133
  v232 := Tryd.zeroValue133
  t233 := Tryd.underlying134
  a233 := Tryd.isAgg134
  z233 := Tryd.sizeOf134
  v233 := Tryd.zeroValue134
  g17 := by kernel_rfl
  g18 := by kernel_rfl
  g19 := by kernel_rfl
  i0 := by kernel_rfl
  i2 := by kernel_rfl
  i3 := by kernel_rfl
  i4 := by kernel_rfl
  i5 := by kernel_rfl
  i9 := by kernel_rfl
  i20 := by kernel_rfl
  i37 := by kernel_rfl
  i46 := by kernel_rfl
  i51 := by kernel_rfl
  i53 := by kernel_rfl
  i171 := by kernel_rfl
  i173 := by kernel_rfl
  i212 := by kernel_rfl
  i232 := by kernel_rfl
  i233 := by kernel_rfl
  m17 := by kernel_rfl
  m18 := by kernel_rfl
  m19 := by kernel_rfl }
open Go.RowKit Go.Sort Go.Lib in
/-- internal/strconv.FormatInt: "FormatInt returns the string representation of i in the given base": AT BASE 10: i's decimal numeral, for every int64. The world behind the call: the world before it, new blocks behind the heap, draws. (LAID: no walk: one application.) -/
theorem Tryd.internal_strconv_FormatInt_10 (n : Int) (h0 : -9223372036854775808 ≤ n) (h1 : n ≤ 9223372036854775807) (w : World) (htab : Lib.TabIs Tryd.prog w "internal/strconv.uint64pow10" .u64 Lib.pow10Tab) :
    Calls Tryd.prog 63 #[.int .i64 n, .int .i64 10] w fun e w' => e = .returned (.string ⟨(Lib.itoa n).toArray⟩) ∧ ∃ k os, w' = grow (w.drewN k) os := Any.internal_strconv_FormatInt_10 Tryd.laysM246 n h0 h1 w htab
def Tryd.laysC174_ren : Go.Shelf.Ren := ⟨fun | 174 => 43 | 247 => 52 | 245 => 53 | 287 => 58 | 279 => 59 | 280 => 60 | 281 => 61 | 282 => 62 | 321 => 64 | 322 => 65 | 316 => 66 | 171 => 68 | 205 => 67 | 243 => 73 | 246 => 63 | 283 => 69 | 284 => 70 | 285 => 71 | 286 => 72 | 129 => 75 | 317 => 74 | 318 => 76 | 319 => 77 | 320 => 78 | 337 => 79 | 338 => 80 | n => n, fun | 9 => 9 | 3 => 3 | 2 => 2 | 75 => 88 | 85 => 89 | 4 => 4 | 167 => 104 | 5 => 5 | 53 => 105 | 175 => 106 | 46 => 93 | 168 => 108 | 37 => 112 | 0 => 0 | 210 => 115 | 21 => 21 | 127 => 123 | 145 => 126 | 143 => 124 | 171 => 118 | 173 => 121 | 212 => 128 | 51 => 101 | 20 => 20 | 213 => 129 | 232 => 133 | 233 => 134 | 80 => 135 | n => n, fun | 15 => 4 | 16 => 5 | 17 => 6 | 18 => 7 | 19 => 8 | n => n⟩
theorem Tryd.laysC174 : Go.Proofs.LaysC.n174 Tryd.prog Tryd.laysC174_ren := {
  mixed := by kernel_rfl
  f129 := Tryd.func75.trans (congrArg some (by kernel_rfl))
  f171 := Tryd.func68.trans (congrArg some (by kernel_rfl))
  f174 := Tryd.func43.trans (congrArg some (by kernel_rfl))
  f205 := Tryd.func67.trans (congrArg some (by kernel_rfl))
  f243 := Tryd.func73.trans (congrArg some (by kernel_rfl))
  f245 := Tryd.func53.trans (congrArg some (by kernel_rfl))
  f246 := Tryd.func63.trans (congrArg some (by kernel_rfl))
  f247 := Tryd.func52.trans (congrArg some (by kernel_rfl))
  f279 := Tryd.func59.trans (congrArg some (by kernel_rfl))
  f280 := Tryd.func60.trans (congrArg some (by kernel_rfl))
  f281 := Tryd.func61.trans (congrArg some (by kernel_rfl))
  f282 := Tryd.func62.trans (congrArg some (by kernel_rfl))
  f283 := Tryd.func69.trans (congrArg some (by kernel_rfl))
  f284 := Tryd.func70.trans (congrArg some (by kernel_rfl))
  f285 := Tryd.func71.trans (congrArg some (by kernel_rfl))
  f286 := Tryd.func72.trans (congrArg some (by kernel_rfl))
  f287 := Tryd.func58.trans (congrArg some (by kernel_rfl))
  f316 := Tryd.func66.trans (congrArg some (by kernel_rfl))
  f317 := Tryd.func74.trans (congrArg some (by kernel_rfl))
  f318 := Tryd.func76.trans (congrArg some (by kernel_rfl))
  f319 := Tryd.func77.trans (congrArg some (by kernel_rfl))
  f320 := Tryd.func78.trans (congrArg some (by kernel_rfl))
  f321 := Tryd.func64.trans (congrArg some (by kernel_rfl))
  f322 := Tryd.func65.trans (congrArg some (by kernel_rfl))
  f337 := Tryd.func79.trans (congrArg some (by kernel_rfl))
  f338 := Tryd.func80.trans (congrArg some (by kernel_rfl))
  t0 := Tryd.underlying0
  a0 := Tryd.isAgg0
  z0 := Tryd.sizeOf0
  v0 := Tryd.zeroValue0
  t2 := Tryd.underlying2
  a2 := Tryd.isAgg2
  z2 := Tryd.sizeOf2
  v2 := Tryd.zeroValue2
  t3 := Tryd.underlying3
  a3 := Tryd.isAgg3
  z3 := Tryd.sizeOf3
  v3 := Tryd.zeroValue3
  t4 := Tryd.underlying4
  a4 := Tryd.isAgg4
  z4 := Tryd.sizeOf4
  v4 := Tryd.zeroValue4
  t5 := Tryd.underlying5
  a5 := Tryd.isAgg5
  z5 := Tryd.sizeOf5
  v5 := Tryd.zeroValue5
  t9 := Tryd.underlying9
  a9 := Tryd.isAgg9
  z9 := Tryd.sizeOf9
  v9 := Tryd.zeroValue9
  t20 := Tryd.underlying20
  a20 := Tryd.isAgg20
  z20 := Tryd.sizeOf20
  v20 := Tryd.zeroValue20
  t21 := Tryd.underlying21
  a21 := Tryd.isAgg21
  z21 := Tryd.sizeOf21
  v21 := Tryd.zeroValue21
  t37 := Tryd.underlying112
  a37 := Tryd.isAgg112
  z37 := Tryd.sizeOf112
  v37 := Tryd.zeroValue112
  t46 := Tryd.underlying93
  a46 := Tryd.isAgg93
  z46 := Tryd.sizeOf93
  v46 := Tryd.zeroValue93
  t51 := Tryd.underlying101
  a51 := Tryd.isAgg101
  z51 := Tryd.sizeOf101
  v51 := Tryd.zeroValue101
  t53 := Tryd.underlying105
  a53 := Tryd.isAgg105
  z53 := Tryd.sizeOf105
  v53 := Tryd.zeroValue105
  t75 := Tryd.underlying88
  a75 := Tryd.isAgg88
  z75 := Tryd.sizeOf88
  v75 := Tryd.zeroValue88
  t85 := Tryd.underlying89
  a85 := Tryd.isAgg89
  z85 := Tryd.sizeOf89
  v85 := Tryd.zeroValue89
  t127 := Tryd.underlying123
  a127 := Tryd.isAgg123
  z127 := Tryd.sizeOf123
  v127 := Tryd.zeroValue123
  t143 := Tryd.underlying124
  a143 := Tryd.isAgg124
  z143 := Tryd.sizeOf124
  v143 := Tryd.zeroValue124
  t145 := Tryd.underlying126
  a145 := Tryd.isAgg126
  z145 := Tryd.sizeOf126
  v145 := Tryd.zeroValue126
  t167 := Tryd.underlying104
  a167 := Tryd.isAgg104
  z167 := Tryd.sizeOf104
  v167 := Tryd.zeroValue104
  t168 := Tryd.underlying108
  a168 := Tryd.isAgg108
  z168 := Tryd.sizeOf108
  v168 := Tryd.zeroValue108
  t171 := Tryd.underlying118
  a171 := Tryd.isAgg118
  z171 := Tryd.sizeOf118
  v171 := Tryd.zeroValue118
  t173 := Tryd.underlying121
  a173 := Tryd.isAgg121
  z173 := Tryd.sizeOf121
  v173 := Tryd.zeroValue121
  t175 := Tryd.underlying106
  a175 := Tryd.isAgg106
  z175 := Tryd.sizeOf106
  v175 := Tryd.zeroValue106
  t210 := Tryd.underlying115
  a210 := Tryd.isAgg115
  z210 := Tryd.sizeOf115
  v210 := Tryd.zeroValue115
  t212 := Tryd.underlying128
  a212 := Tryd.isAgg128
  z212 := Tryd.sizeOf128
  v212 := Tryd.zeroValue128
  t213 := Tryd.underlying129
  a213 := Tryd.isAgg129
  z213 := Tryd.sizeOf129
  t232 := Tryd.underlying133
  a232 := Tryd.isAgg133
  z232 := Tryd.sizeOf133
  v232 := Tryd.zeroValue133
  t233 := Tryd.underlying134
  a233 := Tryd.isAgg134
  z233 := Tryd.sizeOf134
  v233 := Tryd.zeroValue134
  g15 := by kernel_rfl
  g16 := by kernel_rfl
  g17 := by kernel_rfl
  g18 := by kernel_rfl
  g19 := by kernel_rfl
  t80 := Tryd.underlying135
  a80 := Tryd.isAgg135
  z80 := Tryd.sizeOf135
  v80 := Tryd.zeroValue135
  i0 := by kernel_rfl
  i2 := by kernel_rfl
  i3 := by kernel_rfl
  i4 := by kernel_rfl
  i5 := by kernel_rfl
  i9 := by kernel_rfl
  i20 := by kernel_rfl
  i21 := by kernel_rfl
  i37 := by kernel_rfl
  i46 := by kernel_rfl
  i51 := by kernel_rfl
  i53 := by kernel_rfl
  i75 := by kernel_rfl
  i80 := by kernel_rfl
  i85 := by kernel_rfl
  i127 := by kernel_rfl
  i143 := by kernel_rfl
  i145 := by kernel_rfl
  i167 := by kernel_rfl
  i168 := by kernel_rfl
  i171 := by kernel_rfl
  i173 := by kernel_rfl
  i175 := by kernel_rfl
  i210 := by kernel_rfl
  i212 := by kernel_rfl
  i232 := by kernel_rfl
  i233 := by kernel_rfl
  m15 := by kernel_rfl
  m16 := by kernel_rfl
  m17 := by kernel_rfl
  m18 := by kernel_rfl
  m19 := by kernel_rfl
  c0 := by kernel_rfl
  c2 := by kernel_rfl
  c3 := by kernel_rfl
  c4 := by kernel_rfl
  c5 := by kernel_rfl
  c9 := by kernel_rfl
  c20 := by kernel_rfl
  c21 := by kernel_rfl
  c37 := by kernel_rfl
  c46 := by kernel_rfl
  c51 := by kernel_rfl
  c53 := by kernel_rfl
  c75 := by kernel_rfl
  c80 := by kernel_rfl
  c85 := by kernel_rfl
  c127 := by kernel_rfl
  c143 := by kernel_rfl
  c145 := by kernel_rfl
  c167 := by kernel_rfl
  c168 := by kernel_rfl
  c171 := by kernel_rfl
  c173 := by kernel_rfl
  c175 := by kernel_rfl
  c210 := by kernel_rfl
  c212 := by kernel_rfl
  c213 := by kernel_rfl
  c232 := by kernel_rfl
  c233 := by kernel_rfl }
open Go.RowKit in
/-- strconv.ParseInt(s, 10, 64), AT EVERY STRING THAT SPELLS AN int64 ('Lib.parseIntB 64 s.data.toList = .ok v'): v, AND NO ERROR. (LAID: no walk: one application.) -/
theorem Tryd.strconv_ParseInt_10_at64_ok (s : ByteArray) (hmax : s.size ≤ 9223372036854775806) (v : Int) (h : Lib.parseIntB 64 s.data.toList = .ok v) (w : World) :
    Calls Tryd.prog 43 #[.string s, .int .i64 10, .int .i64 64] w fun e w' => e = .returned (.tuple #[.int .i64 v, .nilIface]) ∧ (w' = w ∨ ∃ t, w' = Lib.bytesWorld w 5 t) := Any.strconv_ParseInt_10_at64_ok Tryd.laysC174 s hmax v h w
open Go.RowKit in
/-- strconv.ParseInt(s, 10, 64), AT EVERY STRING THAT IS NO DECIMAL NUMERAL: 0, AND AN ERROR THAT IS NOT nil: a *NumError in a new block N: {Func: "ParseInt", Num: s's bytes, Err: what the variable ErrSyntax holds}. Of what was there nothing has turned. (LAID: no walk: one application.) -/
theorem Tryd.strconv_ParseInt_10_at64_syntax (s : ByteArray) (hlim : s.size ≤ 281474976710656) (h : Lib.parseIntB 64 s.data.toList = .«syntax») (ev : Value) (w : World) (hv : w.cell? ⟨4, 0, none⟩ = some ev) (hev : ev = .nilIface ∨ ∃ te pe, ev = .iface te pe) :
    Calls Tryd.prog 43 #[.string s, .int .i64 10, .int .i64 64] w fun e w' => ∃ N, e = .returned (.tuple #[.int .i64 (0), .iface 108 (.pointer (some ⟨N, 0, none⟩))]) ∧ w.heap.size ≤ N ∧ w'.heap[N]? = some (.cells #[.string ⟨#[80, 97, 114, 115, 101, 73, 110, 116]⟩, .string s, ev] 115 (0, 0)) ∧ Below w.heap.size w w' := Any.strconv_ParseInt_10_at64_syntax Tryd.laysC174 s hlim h ev w hv hev
open Go.RowKit in
/-- strconv.ParseInt(s, 10, 64), AT EVERY NUMERAL THAT NO int64 HOLDS: THE GREATEST OR THE LEAST int64, BY THE SIGN ('Lib.intSat 64'), AND AN ERROR THAT IS NOT nil: a *NumError in a new block N: {Func: "ParseInt", Num: s's bytes, Err: what the variable ErrRange holds}. Of what was there nothing has turned. (LAID: no walk: one application.) -/
theorem Tryd.strconv_ParseInt_10_at64_range (s : ByteArray) (hlim : s.size ≤ 281474976710656) (h : Lib.parseIntB 64 s.data.toList = .range) (ev : Value) (w : World) (hv : w.cell? ⟨5, 0, none⟩ = some ev) (hev : ev = .nilIface ∨ ∃ te pe, ev = .iface te pe) :
    Calls Tryd.prog 43 #[.string s, .int .i64 10, .int .i64 64] w fun e w' => ∃ N, e = .returned (.tuple #[.int .i64 (Lib.intSat 64 s.data.toList), .iface 108 (.pointer (some ⟨N, 0, none⟩))]) ∧ w.heap.size ≤ N ∧ w'.heap[N]? = some (.cells #[.string ⟨#[80, 97, 114, 115, 101, 73, 110, 116]⟩, .string s, ev] 115 (0, 0)) ∧ Below w.heap.size w w' := Any.strconv_ParseInt_10_at64_range Tryd.laysC174 s hlim h ev w hv hev
def Tryd.lays219_ren : Go.Shelf.Ren := ⟨fun | 219 => 42 | 217 => 48 | 225 => 49 | 224 => 50 | 267 => 51 | 266 => 56 | 314 => 57 | n => n, fun | 9 => 9 | 3 => 3 | 4 => 4 | 5 => 5 | 46 => 93 | 146 => 102 | 51 => 101 | n => n, fun | 1 => 1 | n => n⟩
theorem Tryd.lays219 : Go.Proofs.Lays.n219 Tryd.prog Tryd.lays219_ren := {
  mixed := by kernel_rfl
  f217 := Tryd.func48.trans (congrArg some (by kernel_rfl))
  f219 := Tryd.func42.trans (congrArg some (by kernel_rfl))
  f224 := Tryd.func50.trans (congrArg some (by kernel_rfl))
  f225 := Tryd.func49.trans (congrArg some (by kernel_rfl))
  f266 := Tryd.func56.trans (congrArg some (by kernel_rfl))
  f267 := Tryd.func51.trans (congrArg some (by kernel_rfl))
  f314 := Tryd.func57.trans (congrArg some (by kernel_rfl))
  t3 := Tryd.underlying3
  a3 := Tryd.isAgg3
  z3 := Tryd.sizeOf3
  v3 := Tryd.zeroValue3
  t4 := Tryd.underlying4
  a4 := Tryd.isAgg4
  z4 := Tryd.sizeOf4
  v4 := Tryd.zeroValue4
  t5 := Tryd.underlying5
  a5 := Tryd.isAgg5
  z5 := Tryd.sizeOf5
  v5 := Tryd.zeroValue5
  t9 := Tryd.underlying9
  a9 := Tryd.isAgg9
  z9 := Tryd.sizeOf9
  v9 := Tryd.zeroValue9
  t46 := Tryd.underlying93
  a46 := Tryd.isAgg93
  z46 := Tryd.sizeOf93
  v46 := Tryd.zeroValue93
  t51 := Tryd.underlying101
  a51 := Tryd.isAgg101
  z51 := Tryd.sizeOf101
  v51 := Tryd.zeroValue101
  t146 := Tryd.underlying102
  a146 := Tryd.isAgg102
  z146 := Tryd.sizeOf102
  v146 := Tryd.zeroValue102
  g1 := by kernel_rfl }
open Go.RowKit Go.Lib in
/-- internal/stringslite.Index (what strings.Index calls) AT A substr OF ONE BYTE c: IT RETURNS 'Lib.indexByte s c'; the world is as it was. (LAID: no walk: one application.) -/
theorem Tryd.stringslite_Index_one (s : ByteArray) (c : UInt8) (w : World) :
    Calls Tryd.prog 42 #[.string s, .string ⟨#[c]⟩] w fun e w' => e = .returned (.int .i64 (Lib.indexByte s.data.toList c)) ∧ w' = w := Any.stringslite_Index_one Tryd.lays219 s c w
def Tryd.lays143_ren : Go.Shelf.Ren := ⟨fun | 143 => 35 | 219 => 42 | 217 => 48 | 225 => 49 | 224 => 50 | 267 => 51 | 266 => 56 | 314 => 57 | n => n, fun | 9 => 9 | 3 => 3 | 4 => 4 | 5 => 5 | 46 => 93 | 146 => 102 | 51 => 101 | n => n, fun | 1 => 1 | n => n⟩
theorem Tryd.lays143 : Go.Proofs.Lays.n143 Tryd.prog Tryd.lays143_ren := {
  mixed := by kernel_rfl
  f143 := Tryd.func35.trans (congrArg some (by kernel_rfl))
  f217 := Tryd.func48.trans (congrArg some (by kernel_rfl))
  f219 := Tryd.func42.trans (congrArg some (by kernel_rfl))
  f224 := Tryd.func50.trans (congrArg some (by kernel_rfl))
  f225 := Tryd.func49.trans (congrArg some (by kernel_rfl))
  f266 := Tryd.func56.trans (congrArg some (by kernel_rfl))
  f267 := Tryd.func51.trans (congrArg some (by kernel_rfl))
  f314 := Tryd.func57.trans (congrArg some (by kernel_rfl))
  t3 := Tryd.underlying3
  a3 := Tryd.isAgg3
  z3 := Tryd.sizeOf3
  v3 := Tryd.zeroValue3
  t4 := Tryd.underlying4
  a4 := Tryd.isAgg4
  z4 := Tryd.sizeOf4
  v4 := Tryd.zeroValue4
  t5 := Tryd.underlying5
  a5 := Tryd.isAgg5
  z5 := Tryd.sizeOf5
  v5 := Tryd.zeroValue5
  t9 := Tryd.underlying9
  a9 := Tryd.isAgg9
  z9 := Tryd.sizeOf9
  v9 := Tryd.zeroValue9
  t46 := Tryd.underlying93
  a46 := Tryd.isAgg93
  z46 := Tryd.sizeOf93
  v46 := Tryd.zeroValue93
  t51 := Tryd.underlying101
  a51 := Tryd.isAgg101
  z51 := Tryd.sizeOf101
  v51 := Tryd.zeroValue101
  t146 := Tryd.underlying102
  a146 := Tryd.isAgg102
  z146 := Tryd.sizeOf102
  v146 := Tryd.zeroValue102
  g1 := by kernel_rfl }
open Go.RowKit Go.Lib in
/-- strings.Index: "Index returns the index of the first instance of substr in s, or -1 if substr is not present in s.": AT A substr OF ONE BYTE c: IT RETURNS 'Lib.indexByte s c'; the world is as it was. (LAID: no walk: one application.) -/
theorem Tryd.strings_Index_one (s : ByteArray) (c : UInt8) (w : World) :
    Calls Tryd.prog 35 #[.string s, .string ⟨#[c]⟩] w fun e w' => e = .returned (.int .i64 (Lib.indexByte s.data.toList c)) ∧ w' = w := Any.strings_Index_one Tryd.lays143 s c w
def Tryd.lays138_ren : Go.Shelf.Ren := ⟨fun | 138 => 34 | 195 => 39 | 218 => 41 | 143 => 35 | 219 => 42 | 217 => 48 | 225 => 49 | 224 => 50 | 267 => 51 | 266 => 56 | 314 => 57 | n => n, fun | 9 => 9 | 3 => 3 | 4 => 4 | 5 => 5 | 0 => 0 | 46 => 93 | 146 => 102 | 51 => 101 | n => n, fun | 1 => 1 | n => n⟩
theorem Tryd.lays138 : Go.Proofs.Lays.n138 Tryd.prog Tryd.lays138_ren := {
  mixed := by kernel_rfl
  f138 := Tryd.func34.trans (congrArg some (by kernel_rfl))
  f143 := Tryd.func35.trans (congrArg some (by kernel_rfl))
  f195 := Tryd.func39.trans (congrArg some (by kernel_rfl))
  f217 := Tryd.func48.trans (congrArg some (by kernel_rfl))
  f218 := Tryd.func41.trans (congrArg some (by kernel_rfl))
  f219 := Tryd.func42.trans (congrArg some (by kernel_rfl))
  f224 := Tryd.func50.trans (congrArg some (by kernel_rfl))
  f225 := Tryd.func49.trans (congrArg some (by kernel_rfl))
  f266 := Tryd.func56.trans (congrArg some (by kernel_rfl))
  f267 := Tryd.func51.trans (congrArg some (by kernel_rfl))
  f314 := Tryd.func57.trans (congrArg some (by kernel_rfl))
  t0 := Tryd.underlying0
  a0 := Tryd.isAgg0
  z0 := Tryd.sizeOf0
  v0 := Tryd.zeroValue0
  t3 := Tryd.underlying3
  a3 := Tryd.isAgg3
  z3 := Tryd.sizeOf3
  v3 := Tryd.zeroValue3
  t4 := Tryd.underlying4
  a4 := Tryd.isAgg4
  z4 := Tryd.sizeOf4
  v4 := Tryd.zeroValue4
  t5 := Tryd.underlying5
  a5 := Tryd.isAgg5
  z5 := Tryd.sizeOf5
  v5 := Tryd.zeroValue5
  t9 := Tryd.underlying9
  a9 := Tryd.isAgg9
  z9 := Tryd.sizeOf9
  v9 := Tryd.zeroValue9
  t46 := Tryd.underlying93
  a46 := Tryd.isAgg93
  z46 := Tryd.sizeOf93
  v46 := Tryd.zeroValue93
  t51 := Tryd.underlying101
  a51 := Tryd.isAgg101
  z51 := Tryd.sizeOf101
  v51 := Tryd.zeroValue101
  t146 := Tryd.underlying102
  a146 := Tryd.isAgg102
  z146 := Tryd.sizeOf102
  v146 := Tryd.zeroValue102
  g1 := by kernel_rfl }
open Go.RowKit Go.Lib in
/-- strings.Count AT A substr OF ONE BYTE ('hp'): "Count counts the number of non-overlapping instances of substr in s.": IT RETURNS 'Lib.countByte s (that byte)'; the world is as it was. ✋ NO CONTRACT HERE YET at an empty substr (utf8.RuneCountInString) or at a longer one (a loop over strings.Index). (LAID: no walk: one application.) -/
theorem Tryd.strings_Count_one (s : ByteArray) (c : UInt8) (w : World) :
    Calls Tryd.prog 34 #[.string s, .string ⟨#[c]⟩] w fun e w' => e = .returned (.int .i64 (Lib.countByte s.data.toList c)) ∧ w' = w := Any.strings_Count_one Tryd.lays138 s c w
end Go.Proofs
namespace Go.VL
open Go.RowKit
open Go.Proofs
set_option maxHeartbeats 4000000
set_option maxRecDepth 20000
theorem raw_fmt (n : Int) (h0 : -9223372036854775808 ≤ n) (h1 : n ≤ 9223372036854775807) (w : World) (htab : Lib.TabIs Tryd.prog w "internal/strconv.uint64pow10" .u64 Lib.pow10Tab) :
    Calls Tryd.prog 54 #[.int .i64 n, .int .i64 10] w fun e w' => e = .returned (.string ⟨(Lib.itoa n).toArray⟩) ∧ Below w.heap.size w w' := by
  have e63 : ∀ args w, (callFunc 63 args).run Tryd.prog w = .ok (.enter 63 args) w := fun _ _ => Tryd.call63 _ _
  go_enter Tryd.func54, Tryd.ntmps54
  go_wp2_with (go_at_call 63; refine (Tryd.internal_strconv_FormatInt_10 n h0 h1 _ htab).mono ?_; rintro e w' ⟨rfl, k, os, rfl⟩)
  go_ret
  exact ⟨rfl, Lib.below_grow _ w (Nat.le_refl _) k os⟩
theorem raw_deci (n : Int) (h0 : -9223372036854775808 ≤ n) (h1 : n ≤ 9223372036854775807) (w : World) (htab : Lib.TabIs Tryd.prog w "internal/strconv.uint64pow10" .u64 Lib.pow10Tab) :
    Calls Tryd.prog 44 #[.int .i64 n] w fun e w' => e = .returned (.string ⟨(Lib.itoa n).toArray⟩) ∧ Below w.heap.size w w' := by
  have e54 : ∀ args w, (callFunc 54 args).run Tryd.prog w = .ok (.enter 54 args) w := fun _ _ => Tryd.call54 _ _
  go_enter Tryd.func44, Tryd.ntmps44
  go_wp2_with (go_at_call 54; refine (raw_fmt n h0 h1 _ htab).mono ?_; rintro e w' ⟨rfl, hb⟩)
  go_ret
  exact ⟨rfl, hb⟩
theorem tab_keep {w w' : World} (hb : Below w.heap.size w w') {name : String} {k : IntKind} {zs : List Int} (h : Lib.TabIs Tryd.prog w name k zs) : Lib.TabIs Tryd.prog w' name k zs := by
  unfold Lib.TabIs World.var? at h ⊢
  cases hg : Tryd.prog.globalNamed name with
  | none => rw [hg] at h; cases h
  | some g =>
    rw [hg] at h
    simp only [Option.bind_some] at h ⊢
    have hlt : g < w.heap.size := by
      cases hh : w.heap[g]? with
      | none => rw [hh] at h; cases h
      | some o => exact (Array.getElem?_eq_some_iff.1 hh).1
    rw [hb.block g hlt]
    exact h
/-- The number of a word; what it is where there is none. -/
def pn (s : List UInt8) : Int := match Lib.parseIntB 64 s with
  | .ok v => v
  | .syntax => 0
  | .range => Lib.intSat 64 s
def pOk (s : List UInt8) : Bool := match Lib.parseIntB 64 s with
  | .ok v => Lib.itoa v == s
  | _ => false
theorem parse_rng {s : List UInt8} {v : Int} (h : Lib.parseIntB 64 s = .ok v) : -9223372036854775808 ≤ v ∧ v ≤ 9223372036854775807 := by
  cases s with
  | nil => cases h
  | cons c r =>
    unfold Lib.parseIntB at h
    simp only at h
    split at h
    · cases h
    · cases h
    · rename_i u hu
      split at h
      · cases h
      · rename_i h1
        split at h
        · cases h
        · rename_i h2
          simp only [Lib.NumEnd.ok.injEq] at h
          subst h
          split <;> omega
theorem raw_num_ok (s : List UInt8) (hl : s.length ≤ 1048576) (v : Int) (h : Lib.parseIntB 64 s = .ok v) (hv : -9223372036854775808 ≤ v ∧ v ≤ 9223372036854775807) (w : World) (htab : Lib.TabIs Tryd.prog w "internal/strconv.uint64pow10" .u64 Lib.pow10Tab) :
    Calls Tryd.prog 36 #[.string (tx s)] w fun e w' => e = .returned (.tuple #[.int .i64 v, .bool (Lib.itoa v == s)]) ∧ Below w.heap.size w w' := by
  have e43 : ∀ args w, (callFunc 43 args).run Tryd.prog w = .ok (.enter 43 args) w := fun _ _ => Tryd.call43 _ _
  have e44 : ∀ args w, (callFunc 44 args).run Tryd.prog w = .ok (.enter 44 args) w := fun _ _ => Tryd.call44 _ _
  have hp := Tryd.strconv_ParseInt_10_at64_ok (tx s) (by show s.length ≤ _; omega) v h w
  go_enter Tryd.func36, Tryd.ntmps36
  go_wp2_with (go_at_call 43; refine hp.mono ?_)
  rintro e w1 ⟨rfl, hW⟩
  have hb1 : Below w.heap.size w w1 := by
    rcases hW with rfl | ⟨t, rfl⟩
    · exact Below.refl _ _
    · exact Lib.bytesWorld_below _ _ _
  clear hW hp
  have ht1 := tab_keep hb1 htab
  go_wp2_with (go_at_call 44; refine (raw_deci v hv.1 hv.2 _ ht1).mono ?_)
  rintro e w2 ⟨rfl, hb2⟩
  go_wp2
  go_ret2
  exact ⟨rfl, hb1.trans (hb2.mono hb1.size)⟩
theorem raw_num_bad (s : List UInt8) (x : Int) (w : World) (T : TypeId) (hp : Calls Tryd.prog 43 #[.string (tx s), .int .i64 10, .int .i64 64] w fun e w' => ∃ N, e = .returned (.tuple #[.int .i64 x, .iface T (.pointer (some ⟨N, 0, none⟩))]) ∧ Below w.heap.size w w') :
    Calls Tryd.prog 36 #[.string (tx s)] w fun e w' => e = .returned (.tuple #[.int .i64 x, .bool false]) ∧ Below w.heap.size w w' := by
  have e43 : ∀ args w, (callFunc 43 args).run Tryd.prog w = .ok (.enter 43 args) w := fun _ _ => Tryd.call43 _ _
  go_enter Tryd.func36, Tryd.ntmps36
  go_wp2_with (go_at_call 43; refine hp.mono ?_)
  rintro e w1 ⟨N, rfl, hb⟩
  go_wp2
  go_ret2
  exact ⟨rfl, hb⟩
theorem rv_two {m : Mem} {a b : V} {x y : Value} (h1 : RV m a x) (h2 : RV m b y) : RV m (.tup [a, b]) (.tuple #[x, y]) := by
  refine .tup (fun j => if j = 0 then x else y) rfl (fun j v hj => ?_) (fun j v hj => ?_)
  · match j, hj with
    | 0, _ => rfl
    | 1, _ => rfl
    | j + 2, hj => simp at hj
  · match j, hj with
    | 0, hj => obtain rfl : a = v := by simpa using hj
               exact h1
    | 1, hj => obtain rfl : b = v := by simpa using hj
               exact h2
    | j + 2, hj => simp at hj
end Go.VL
namespace Go.VL
open Go.RowKit
set_option maxRecDepth 20000
set_option maxHeartbeats 8000000
abbrev cS (l : List UInt8) : V := .c (.v (.string (tx l)))
def st (l : List UInt8) : List C := [.v (.string (tx l))]
theorem st_len (a : List UInt8) : (st a).length = 1 := rfl
theorem st_sc (a : List UInt8) : (st a).all sc = true := rfl
/-- The part of a word before a byte. -/
theorem sp_hit {c : UInt8} {s : List UInt8} {i f : Nat} {xs : List (List UInt8)} (hf : f ≤ i) (hi : i < s.length) (hs : splitB c s = xs ++ splitB c (s.drop f)) (hx : ∀ x ∈ (s.drop f).take (i - f), x ≠ c) (e : s[i] = c) :
    splitB c s = (xs ++ [(s.take i).drop f]) ++ splitB c (s.drop (i + 1)) := by
  have h := splitB_hit (c := c) (l := s.drop f) (m := i - f) (by rw [List.length_drop]; omega) hx (by rw [List.getElem_drop]; simpa [show f + (i - f) = i by omega] using e)
  rw [List.drop_drop, show f + (i - f + 1) = i + 1 by omega] at h
  rw [hs, h, List.drop_take, List.append_assoc]
  rfl
theorem sp_go {c : UInt8} {s : List UInt8} {i f : Nat} (hf : f ≤ i) (hi : i < s.length) (hx : ∀ x ∈ (s.drop f).take (i - f), x ≠ c) (e : ¬ s[i] = c) : ∀ x ∈ (s.drop f).take (i + 1 - f), x ≠ c := by
  rw [show i + 1 - f = (i - f) + 1 by omega]
  exact all_step (by rw [List.length_drop]; omega) hx (by rw [List.getElem_drop]; simpa [show f + (i - f) = i by omega] using e)
theorem sp_end {c : UInt8} {s : List UInt8} {f : Nat} {xs : List (List UInt8)} (hs : splitB c s = xs ++ splitB c (s.drop f)) (hx : ∀ x ∈ (s.drop f).take (s.length - f), x ≠ c) : splitB c s = xs ++ [(s.take s.length).drop f] := by
  rw [← List.length_drop, List.take_length] at hx
  rw [hs, splitB_none hx, List.take_length]
theorem fill_next {xs : List (List UInt8)} {i n : Nat} {p : List UInt8} (hl : xs.length = i) (hi : i < n) : (xs ++ List.replicate (n - i) []).set i p = (xs ++ [p]) ++ List.replicate (n - (i + 1)) [] := by
  obtain ⟨d, hd⟩ : ∃ d, n - i = d + 1 := ⟨n - i - 1, by omega⟩
  rw [hd, show n - (i + 1) = d by omega, List.replicate_succ, List.set_append_right _ _ (by omega), hl, Nat.sub_self, List.set_cons_zero, List.append_assoc]
  rfl
theorem cnt_pos {c : UInt8} {rs : List UInt8} (h : 0 < rs.count c) : ∃ (m : Nat) (h : m < rs.length), Lib.indexByte rs c = (m : Int) ∧ (∀ x ∈ rs.take m, x ≠ c) ∧ rs[m] = c := by
  rcases index_byte c rs with ⟨-, h2⟩ | h1
  · exact absurd rfl (h2 c (List.count_pos_iff.1 h))
  · exact h1
theorem cnt_hit {c : UInt8} {rs : List UInt8} {m : Nat} (hm : m < rs.length) (h : ∀ x ∈ rs.take m, x ≠ c) (e : rs[m] = c) : (rs.drop (m + 1)).count c + 1 = rs.count c := by
  have h1 := congrArg List.length (splitB_hit hm h e)
  rw [List.length_cons, splitB_len, splitB_len] at h1
  omega
theorem cnt_none {c : UInt8} {rs : List UInt8} (h : rs.count c = 0) : splitB c rs = [rs] := by
  refine splitB_none fun x hx e => ?_
  subst e
  have := List.count_pos_iff.2 hx
  omega
theorem take_all (s : List UInt8) : s.take s.length = s := List.take_length
/-- Whether a word is a number of one to nine digits. -/
def nine (s : List UInt8) : Prop := 1 ≤ s.length ∧ s.length ≤ 9 ∧ (s.head? = some 48 → s.length = 1) ∧ ∀ x ∈ s, dig x
instance (s : List UInt8) : Decidable (nine s) := by unfold nine; infer_instance
def nineV (s : List UInt8) : Int := if nine s then (numL s : Int) else 0
theorem numL_lt : ∀ (k : Nat) (l : List UInt8), l.length = k → (∀ x ∈ l, dig x) → numL l < 10 ^ k := by
  intro k
  induction k with
  | zero =>
    intro l hl _
    obtain rfl : l = [] := List.length_eq_zero_iff.1 hl
    decide
  | succ k ih =>
    intro l hl hd
    obtain ⟨p, x, rfl⟩ : ∃ p x, l = p ++ [x] := ⟨l.dropLast, l.getLast (by intro e; rw [e] at hl; simp at hl), (List.dropLast_concat_getLast _).symm⟩
    have hx : dig x := hd x (by simp)
    have := ih p (by simpa using hl) (fun y hy => hd y (by simp [hy]))
    rw [numL_snoc, Nat.pow_succ]
    unfold dig at hx
    unfold dval
    omega
theorem num_take {s : List UInt8} {i : Nat} (hi : i < s.length) (h9 : s.length ≤ 9) (h : ∀ x ∈ s.take i, dig x) : numL (s.take i) < 100000000 := by
  have h1 := numL_lt i (s.take i) (by rw [List.length_take]; omega) h
  have h2 : 10 ^ i ≤ 10 ^ 8 := Nat.pow_le_pow_right (by decide) (by omega)
  omega
theorem num_next {s : List UInt8} {i : Nat} (hi : i < s.length) : (numL (s.take (i + 1)) : Int) = (numL (s.take i) : Int) * 10 + ((dval s[i] : Nat) : Int) := by
  rw [List.take_succ_eq_append_getElem hi, numL_snoc]
  push_cast
  rfl
theorem dig_b8 {x : UInt8} (h1 : ¬ b8 x < 48) (h2 : ¬ 57 < b8 x) : dig x := by
  unfold b8 at h1 h2
  unfold dig
  omega
theorem dval_b8 {x : UInt8} (h : dig x) : b8 x - 48 = ((dval x : Nat) : Int) := by
  unfold dig at h
  unfold b8 dval
  omega
theorem ndig_b8 {x : UInt8} (h : b8 x < 48 ∨ 57 < b8 x) : ¬ dig x := by
  unfold b8 at h
  unfold dig
  omega
theorem nine_no {s : List UInt8} (h : ¬ nine s) : nineV s = 0 := by unfold nineV; rw [if_neg h]
theorem nine_yes {s : List UInt8} (h : nine s) : nineV s = (numL s : Int) := by unfold nineV; rw [if_pos h]
theorem head_at {s : List UInt8} (h : 0 < s.length) : s.head? = some s[0] := by
  cases s with
  | nil => simp at h
  | cons a r => rfl
variable [Inhabited Env]
theorem cCnt (s : List UInt8) (c : UInt8) : PureC X 34 [cS s, cS [c]] (cI (s.count c : Nat)) :=
  PureC.of_calls (fun _ _ => Go.Proofs.Tryd.call34 _ _) fun w F μ arr hS hr => by
    obtain ⟨x, y, rfl, h1, h2⟩ := two_args hr
    obtain rfl := rv_v h1
    obtain rfl := rv_v h2
    exact (Go.Proofs.Tryd.strings_Count_one (tx s) c w).mono fun e w' ⟨he, hw⟩ => ⟨_, he, (by rw [hw]; exact Below.refl _ _), .c (.fz (.v rfl))⟩
theorem cIdx (s : List UInt8) (c : UInt8) : PureC X 35 [cS s, cS [c]] (cI (Lib.indexByte s c)) :=
  PureC.of_calls (fun _ _ => Go.Proofs.Tryd.call35 _ _) fun w F μ arr hS hr => by
    obtain ⟨x, y, rfl, h1, h2⟩ := two_args hr
    obtain rfl := rv_v h1
    obtain rfl := rv_v h2
    exact (Go.Proofs.Tryd.strings_Index_one (tx s) c w).mono fun e w' ⟨he, hw⟩ => ⟨_, he, (by rw [hw]; exact Below.refl _ _), .c (.fz (.v rfl))⟩
theorem cell_of {m : Mem} {H : List Ob} {g : Nat} {v : Value} (hS : Sim X.G m H) (hg : (g, [v]) ∈ X.G) : m.w.cell? ⟨g, 0, none⟩ = some v := ((hS.gl _ hg).2.1 0 v rfl).1
theorem cNum (s : List UInt8) (hl : s.length ≤ 1048576) : PureC X 36 [cS s] (.tup [cI (pn s), cB (pOk s)]) :=
  PureC.of_calls (fun _ _ => Go.Proofs.Tryd.call36 _ _) fun w F μ arr hS hr => by
    obtain ⟨x, rfl, h1⟩ := one_arg hr
    obtain rfl := rv_v h1
    have ht := tab_of hS (g := 6) (vs := Lib.pow10Tab.map (Value.int .u64)) (by show _ ∈ GL; simp [GL]) (name := "internal/strconv.uint64pow10") (by kernel_rfl)
    have hlim : (tx s).size ≤ 281474976710656 := by show s.length ≤ _; omega
    cases hp : Lib.parseIntB 64 s with
    | ok v =>
      have e1 : pn s = v := by unfold pn; rw [hp]
      have e2 : pOk s = (Lib.itoa v == s) := by unfold pOk; rw [hp]
      rw [e1, e2]
      exact (raw_num_ok s hl v hp (parse_rng hp) w ht).mono fun e w' ⟨he, hw⟩ => ⟨_, he, hw, rv_two (.c (.fz (.v rfl))) (.c (.fz (.v rfl)))⟩
    | «syntax» =>
      have e1 : pn s = 0 := by unfold pn; rw [hp]
      have e2 : pOk s = false := by unfold pOk; rw [hp]
      rw [e1, e2]
      exact (raw_num_bad s 0  w 108 ((Go.Proofs.Tryd.strconv_ParseInt_10_at64_syntax (tx s) hlim hp ev1 w (cell_of hS (g := 4) (by show _ ∈ GL; simp [GL])) ev1_is).mono fun e w' ⟨N, he, _, _, hb⟩ => ⟨N, he, hb⟩)).mono fun e w' ⟨he, hw⟩ => ⟨_, he, hw, rv_two (.c (.fz (.v rfl))) (.c (.fz (.v rfl)))⟩
    | range =>
      have e1 : pn s = Lib.intSat 64 s := by unfold pn; rw [hp]
      have e2 : pOk s = false := by unfold pOk; rw [hp]
      rw [e1, e2]
      exact (raw_num_bad s _  w 108 ((Go.Proofs.Tryd.strconv_ParseInt_10_at64_range (tx s) hlim hp ev2 w (cell_of hS (g := 5) (by show _ ∈ GL; simp [GL])) ev2_is).mono fun e w' ⟨N, he, _, _, hb⟩ => ⟨N, he, hb⟩)).mono fun e w' ⟨he, hw⟩ => ⟨_, he, hw, rv_two (.c (.fz (.v rfl))) (.c (.fz (.v rfl)))⟩

theorem cGsl (s : List UInt8) (c : UInt8) (hs : s.length ≤ 1048576) : LiveC X 25 [cS s, cS [c], cI 0, cI (-1)] (.c (.mu 0 0 (splitB c s).length 1)) [⟨flat st (splitB c s), 9, true⟩] := by
  refine LiveC.of_body (drawD_ok X) (fun _ _ => Go.Proofs.Tryd.call25 _ _) Go.Proofs.Tryd.func25 rfl (n := 66) rfl ?_
  have hc := List.count_le_length (a := c) (l := s)
  have h0 : (tx s).size = s.length := rfl
  refine w_seq ?_
  refine w_reg rfl ?_
  refine v_assign rfl ?_
  refine v_nil ?_
  refine q_n ?_
  refine w_seq ?_
  refine w_seq ?_
  refine w_reg rfl ?_
  refine v_move rfl ?_
  refine v_eql lay3 rfl rfl (fun h1 => ?_) (fun h1 => ?_)
  · exact absurd h1 (by decide)
  refine v_nil ?_
  refine q_n ?_
  refine w_f rfl ?_
  refine w_skip ?_
  refine q_n ?_
  refine w_seq ?_
  refine w_seq ?_
  refine w_reg rfl ?_
  refine v_move rfl ?_
  refine v_seql lay9 rfl rfl (fun h2 => ?_) (fun h2 => ?_)
  · exact absurd h2 (by simp)
  refine v_nil ?_
  refine q_n ?_
  refine w_f rfl ?_
  refine w_skip ?_
  refine q_n ?_
  refine w_seq ?_
  refine w_seq ?_
  refine w_reg rfl ?_
  refine v_move rfl ?_
  refine v_lss lay3 rfl rfl (fun h3 => ?_) (fun h3 => ?_)
  rotate_left
  · exact absurd (by decide) h3
  refine v_nil ?_
  refine q_n ?_
  refine w_t rfl ?_
  refine w_reg rfl ?_
  refine v_move rfl ?_
  refine v_move rfl ?_
  refine v_call (cCnt _ _) rfl rfl rfl (.cons vw_v (.cons vw_v .nil)) ?_
  refine v_add lay3 rfl rfl (i64r (by omega)) ?_
  refine v_assign rfl ?_
  refine v_nil ?_
  refine q_n ?_
  refine w_seq ?_
  refine w_reg rfl ?_
  refine v_move rfl ?_
  refine v_move rfl ?_
  refine v_len_s lay9 rfl ?_
  refine v_add lay3 rfl rfl (i64r (by omega)) ?_
  refine v_min rfl rfl ?_
  refine v_assign rfl ?_
  refine v_nil ?_
  refine q_n ?_
  refine w_seq ?_
  refine w_reg rfl ?_
  refine v_move rfl ?_
  refine v_make (enc := st) (a0 := ([] : List UInt8)) (m := 0) (H' := [_]) rfl lay28 lay9 rfl rfl rfl rfl (s.count c + 1) (by rw [if_neg (by omega)]; omega) (by unfold maxLen; simp only []; omega) rfl rfl ?_
  refine v_assign rfl ?_
  refine v_nil ?_
  refine q_n ?_
  refine w_seq ?_
  refine w_reg rfl ?_
  refine v_move rfl ?_
  refine v_sub lay3 rfl rfl (i64r (by split <;> omega)) ?_
  refine v_assign rfl ?_
  refine v_nil ?_
  refine q_n ?_
  refine w_seq ?_
  refine w_reg rfl ?_
  refine v_assign (c := .v (.int .i64 0)) rfl ?_
  refine v_nil ?_
  refine q_n ?_
  refine w_seq ?_
  refine w_block ?_
  refine w_loop (fun k sl H => ∃ (i : Nat) (rs : List UInt8) (xs : List (List UInt8)), k = s.count c - i ∧ i ≤ s.count c ∧ xs.length = i ∧ splitB c s = xs ++ splitB c rs ∧ rs.count c = s.count c - i ∧ rs.length ≤ s.length ∧ sl = sls [(0, cS rs), (1, cS [c]), (2, cI 0), (3, cI (s.count c : Nat)), (9, .c (.mu 0 0 (s.count c + 1) 1)), (10, cI i)] ∧ H = [⟨flat st (xs ++ List.replicate (s.count c + 1 - i) []), 9, true⟩]) ?_ ?_
  · refine ⟨_, _, _, ?_, 0, s, [], rfl, Nat.zero_le _, rfl, rfl, rfl, Nat.le_refl _, rfl, rfl⟩
    exact turn [some 0] rfl rfl rfl ⟨⟨_, rfl, trc_flat st_sc rfl⟩, trivial⟩ ⟨tr_v, tr_v, tr_v, tr_i (by rw [if_neg (by omega)]; omega), tr_mu rfl, tr_v, trivial⟩
  rintro k sl H ⟨i, rs, xs, rfl, hi, hl, hp, hn, hr, rfl, rfl⟩
  refine w_seq ?_
  refine w_seq ?_
  refine w_reg rfl ?_
  refine v_move rfl ?_
  refine v_move rfl ?_
  refine v_lss lay3 rfl rfl (fun h4 => ?_) (fun h4 => ?_)
  rotate_left
  · refine v_nil ?_
    refine q_n ?_
    refine w_f rfl ?_
    refine w_exit ?_
    refine q_e ?_
    refine q_e ?_
    refine q_hit ?_
    refine q_n ?_
    refine w_seq ?_
    refine w_reg rfl ?_
    refine v_move rfl ?_
    refine v_move rfl ?_
    refine v_move rfl ?_
    refine v_idx_mu_e (k := 1) (off := 0) (i) lay28 lay9 rfl rfl rfl (rfl) (by omega) ?_
    refine v_store_flat (H' := [_]) i 0 (rs) st_len lay9 rfl rfl rfl (by omega) (by rw [List.length_append, List.length_replicate]; omega) rfl rfl (rfl) rfl ?_
    refine v_nil ?_
    refine q_n ?_
    refine w_seq ?_
    refine w_reg rfl ?_
    refine v_move rfl ?_
    refine v_move rfl ?_
    refine v_add lay3 rfl rfl (i64r (by omega)) ?_
    refine v_slice_mu (0) (s.count c + 1) lay28 lay9 rfl rfl rfl rfl (rfl) (by omega) (⟨by omega, by omega⟩) (.inl rfl) ?_
    refine v_assign rfl ?_
    refine v_nil ?_
    refine q_n ?_
    refine w_ret ?_
    refine r_r rfl ?_
    obtain rfl : i = s.count c := by omega
    have e : splitB c s = xs ++ [rs] := by rw [hp, cnt_none (by omega)]
    rw [e]
    exact l_ans [some 0] rfl rfl ⟨⟨_, rfl, trc_flat st_sc (congrArg (flat st) ((fill_next hl (by omega)).trans (by simp)))⟩, trivial⟩ (tr_mun rfl (by rw [List.length_append, hl]; rfl))
  obtain ⟨m, hm, im, hf, he⟩ := cnt_pos (c := c) (rs := rs) (by omega)
  refine v_nil ?_
  refine q_n ?_
  refine w_t rfl ?_
  refine w_skip ?_
  refine q_n ?_
  refine w_block ?_
  refine w_seq ?_
  refine w_reg rfl ?_
  refine v_move rfl ?_
  refine v_move rfl ?_
  refine v_call (cIdx _ _) rfl rfl rfl (.cons vw_v (.cons vw_v .nil)) ?_
  refine v_assign rfl ?_
  refine v_nil ?_
  refine q_n ?_
  refine w_seq ?_
  refine w_seq ?_
  refine w_reg rfl ?_
  refine v_move rfl ?_
  refine v_lss lay3 rfl rfl (fun h5 => ?_) (fun h5 => ?_)
  · exfalso; omega
  refine v_nil ?_
  refine q_n ?_
  refine w_f rfl ?_
  refine w_skip ?_
  refine q_n ?_
  refine w_seq ?_
  refine w_reg rfl ?_
  refine v_move rfl ?_
  refine v_move rfl ?_
  refine v_move rfl ?_
  refine v_move rfl ?_
  refine v_move rfl ?_
  refine v_add lay3 rfl rfl (i64r (by omega)) ?_
  refine v_sslice (0) (m) lay9 rfl rfl rfl (rfl) (by omega) (⟨by omega, by omega⟩) ?_
  refine v_idx_mu_e (k := 1) (off := 0) (i) lay28 lay9 rfl rfl rfl (rfl) (by omega) ?_
  refine v_store_flat (H' := [_]) i 0 ((rs.take m).drop 0) st_len lay9 rfl rfl rfl (by omega) (by rw [List.length_append, List.length_replicate]; omega) rfl rfl (rfl) rfl ?_
  refine v_nil ?_
  refine q_n ?_
  refine w_seq ?_
  refine w_reg rfl ?_
  refine v_move rfl ?_
  refine v_move rfl ?_
  refine v_move rfl ?_
  refine v_len_s lay9 rfl ?_
  refine v_add lay3 rfl rfl (i64r (by have h9 : (tx [c]).size = 1 := rfl; omega)) ?_
  refine v_sslice (m + 1) (rs.length) lay9 rfl rfl rfl (by show Lib.indexByte rs c + 1 = _; omega) (rfl) (⟨by omega, Nat.le_refl _⟩) ?_
  refine v_assign rfl ?_
  refine v_nil ?_
  refine q_n ?_
  refine w_reg rfl ?_
  refine v_move rfl ?_
  refine v_add lay3 rfl rfl (i64r (by omega)) ?_
  refine v_assign rfl ?_
  refine v_nil ?_
  refine q_bn ?_
  refine q_n ?_
  refine ⟨_, _, _, ?_, ⟨i + 1, (rs.take rs.length).drop (m + 1), xs ++ [(rs.take m).drop 0], rfl, by omega, by simp [hl], ?_, ?_, ?_, rfl, rfl⟩, by omega⟩
  · exact turn [some 0] rfl rfl rfl ⟨⟨_, rfl, trc_flat st_sc (congrArg (flat st) (fill_next hl (by omega)))⟩, trivial⟩ ⟨tr_v, tr_v, tr_v, tr_v, tr_mu rfl, tr_v, trivial⟩
  · rw [hp, take_all, splitB_hit hm hf he, List.append_assoc]; rfl
  · have := cnt_hit hm hf he; rw [take_all]; omega
  · rw [take_all, List.length_drop]; omega

theorem cSplit (s : List UInt8) (c : UInt8) (hs : s.length ≤ 1048576) : LiveC X 17 [cS s, cS [c]] (.c (.mu 0 0 (splitB c s).length 1)) [⟨flat st (splitB c s), 9, true⟩] := by
  refine LiveC.of_body (drawD_ok X) (fun _ _ => Go.Proofs.Tryd.call17 _ _) Go.Proofs.Tryd.func17 rfl (n := 8) rfl ?_
  refine w_seq ?_
  refine w_reg rfl ?_
  refine v_assign rfl ?_
  refine v_nil ?_
  refine q_n ?_
  refine w_seq ?_
  refine w_reg rfl ?_
  refine v_move rfl ?_
  refine v_move rfl ?_
  refine v_live1 (N := 0) (H' := [_]) (cGsl _ _ (by assumption)) (sc_flat st_sc _) rfl rfl rfl rfl rfl rfl (.cons vw_v (.cons vw_v (.cons vw_v (.cons vw_v .nil)))) ?_
  refine v_assign rfl ?_
  refine v_nil ?_
  refine q_n ?_
  refine w_ret ?_
  refine r_r rfl ?_
  exact l_ans [some 0] rfl rfl ⟨⟨_, rfl, trc_flat st_sc rfl⟩, trivial⟩ (tr_mu rfl)

theorem cSplitS (s : List UInt8) (c : UInt8) (hs : s.length ≤ 1048576) : PureC X 9 [cS s, .c (.v (.int .u8 (b8 c)))] (.c (.sl true (splitB c s).length 1 (flat st (splitB c s)))) := by
  refine PureC.of_body (drawD_ok X) (fun _ _ => Go.Proofs.Tryd.call9 _ _) Go.Proofs.Tryd.func9 rfl (n := 35) rfl ?_
  have h0 : (tx s).size = s.length := rfl
  refine w_seq ?_
  refine w_reg rfl ?_
  refine v_assign rfl ?_
  refine v_nil ?_
  refine q_n ?_
  refine w_seq ?_
  refine w_reg rfl ?_
  refine v_lit (flat st []) (H' := [_]) lay28 lay9 rfl rfl ⟨by decide, by decide⟩ rfl rfl ?_
  refine v_assign rfl ?_
  refine v_nil ?_
  refine q_n ?_
  refine w_seq ?_
  refine w_reg rfl ?_
  refine v_assign (c := .v (.int .i64 0)) rfl ?_
  refine v_nil ?_
  refine q_n ?_
  refine w_seq ?_
  refine w_seq ?_
  refine w_reg rfl ?_
  refine v_assign (c := .v (.int .i64 0)) rfl ?_
  refine v_nil ?_
  refine q_n ?_
  refine w_block ?_
  refine w_loop (fun k sl H => ∃ (i f : Nat) (xs : List (List UInt8)), k = s.length - i ∧ i ≤ s.length ∧ f ≤ i ∧ xs.length ≤ i ∧ splitB c s = xs ++ splitB c (s.drop f) ∧ (∀ x ∈ (s.drop f).take (i - f), x ≠ c) ∧ sl = sls [(0, cS s), (1, .c (.v (.int .u8 (b8 c)))), (5, .c (.mu 0 0 xs.length 1)), (6, cI f), (7, cI i)] ∧ H = [⟨flat st xs, 9, true⟩]) ?_ ?_
  · refine ⟨_, _, _, ?_, 0, 0, [], rfl, Nat.zero_le _, Nat.le_refl _, Nat.le_refl _, rfl, (fun x hx => by simp at hx), rfl, rfl⟩
    exact turn [some 0] rfl rfl rfl ⟨⟨_, rfl, trc_flat st_sc (xs := []) rfl⟩, trivial⟩ ⟨tr_v, tr_v, tr_mu rfl, tr_v, tr_v, trivial⟩
  rintro k sl H ⟨i, f, xs, rfl, hi, hf, hl, hp, hx, rfl, rfl⟩
  refine w_seq ?_
  refine w_seq ?_
  refine w_reg rfl ?_
  refine v_move rfl ?_
  refine v_move rfl ?_
  refine v_len_s lay9 rfl ?_
  refine v_lss lay3 rfl rfl (fun h1 => ?_) (fun h1 => ?_)
  rotate_left
  · refine v_nil ?_
    refine q_n ?_
    refine w_f rfl ?_
    refine w_exit ?_
    refine q_e ?_
    refine q_e ?_
    refine q_hit ?_
    refine q_n ?_
    refine w_seq ?_
    refine w_reg rfl ?_
    refine v_move rfl ?_
    refine v_move rfl ?_
    refine v_move rfl ?_
    refine v_sslice (f) (s.length) lay9 rfl rfl rfl (rfl) (rfl) (⟨by omega, Nat.le_refl _⟩) ?_
    refine v_lit (flat st [_]) (H' := [_, _]) lay28 lay9 rfl rfl ⟨by decide, by decide⟩ rfl rfl ?_
    refine v_app_flat (H' := [_, _, _]) st_sc st_len lay28 lay9 rfl rfl (by first | rfl | (simp; done)) rfl rfl (by first | rfl | (simp; done)) rfl rfl (by unfold maxLen; simp only []; omega) rfl rfl ?_
    refine v_assign rfl ?_
    refine v_nil ?_
    refine q_n ?_
    refine w_ret ?_
    refine r_r rfl ?_
    obtain rfl : i = s.length := by omega
    rw [sp_end hp hx]
    exact a_flat2 st_sc st_len rfl rfl (by rw [List.length_append]; rfl) (by rw [List.length_append]; rfl)
  have hi1 : i < s.length := by omega
  refine v_nil ?_
  refine q_n ?_
  refine w_t rfl ?_
  refine w_skip ?_
  refine q_n ?_
  refine w_seq ?_
  refine w_block ?_
  refine w_seq ?_
  refine w_reg rfl ?_
  refine v_move rfl ?_
  refine v_move rfl ?_
  refine v_sidx (i) lay9 rfl rfl (rfl) (by omega) ?_
  refine v_move rfl ?_
  refine v_eql lay5 rfl rfl (fun h2 => ?_) (fun h2 => ?_)
  rotate_left
  · have he := h2
    refine v_nil ?_
    refine q_n ?_
    refine w_f rfl ?_
    refine w_skip ?_
    refine q_bn ?_
    refine q_n ?_
    refine w_reg rfl ?_
    refine v_move rfl ?_
    refine v_add lay3 rfl rfl (i64r (by omega)) ?_
    refine v_assign rfl ?_
    refine v_nil ?_
    refine q_n ?_
    refine ⟨_, _, _, ?_, ⟨i + 1, f, xs, rfl, by omega, by omega, by omega, hp, sp_go hf hi1 hx (fun e => he (congrArg b8 e)), rfl, rfl⟩, by omega⟩
    exact turn [some 0] rfl rfl rfl ⟨⟨_, rfl, trc_flat st_sc rfl⟩, trivial⟩ ⟨tr_v, tr_v, tr_mu rfl, tr_v, tr_v, trivial⟩
  have he := h2
  refine v_nil ?_
  refine q_n ?_
  refine w_t rfl ?_
  refine w_seq ?_
  refine w_reg rfl ?_
  refine v_move rfl ?_
  refine v_move rfl ?_
  refine v_move rfl ?_
  refine v_move rfl ?_
  refine v_sslice (f) (i) lay9 rfl rfl rfl (rfl) (rfl) (⟨by omega, by omega⟩) ?_
  refine v_lit (flat st [_]) (H' := [_, _]) lay28 lay9 rfl rfl ⟨by decide, by decide⟩ rfl rfl ?_
  refine v_app_flat (H' := [_, _, _]) st_sc st_len lay28 lay9 rfl rfl (by first | rfl | (simp; done)) rfl rfl (by first | rfl | (simp; done)) rfl rfl (by unfold maxLen; simp only []; omega) rfl rfl ?_
  refine v_assign rfl ?_
  refine v_nil ?_
  refine q_n ?_
  refine w_reg rfl ?_
  refine v_move rfl ?_
  refine v_add lay3 rfl rfl (i64r (by omega)) ?_
  refine v_assign rfl ?_
  refine v_nil ?_
  refine q_bn ?_
  refine q_n ?_
  refine w_reg rfl ?_
  refine v_move rfl ?_
  refine v_add lay3 rfl rfl (i64r (by omega)) ?_
  refine v_assign rfl ?_
  refine v_nil ?_
  refine q_n ?_
  refine ⟨_, _, _, ?_, ⟨i + 1, i + 1, xs ++ [(s.take i).drop f], rfl, by omega, Nat.le_refl _, by rw [List.length_append]; simp only [List.length_cons, List.length_nil]; omega, sp_hit hf hi1 hp hx (b8_inj.1 he), (fun x hx => by simp at hx), rfl, rfl⟩, by omega⟩
  exact turn [some 2] rfl rfl rfl ⟨⟨_, rfl, trc_flat st_sc rfl⟩, trivial⟩ ⟨tr_v, tr_v, tr_mun rfl (by rw [List.length_append]; rfl), tr_v, tr_v, trivial⟩

theorem cNumS (s : List UInt8) : PureC X 22 [cS s] (.tup [cI (nineV s), cB (decide (nine s))]) := by
  refine PureC.of_body (drawD_ok X) (fun _ _ => Go.Proofs.Tryd.call22 _ _) Go.Proofs.Tryd.func22 rfl (n := 49) rfl ?_
  have h0 : (tx s).size = s.length := rfl
  refine w_seq ?_
  refine w_reg rfl ?_
  refine v_assign (c := .v (.int .i64 0)) rfl ?_
  refine v_assign (c := .v (.bool false)) rfl ?_
  refine v_nil ?_
  refine q_n ?_
  refine w_seq ?_
  refine w_seq ?_
  refine w_reg rfl ?_
  refine v_move rfl ?_
  refine v_len_s lay9 rfl ?_
  refine v_lss lay3 rfl rfl (fun h1 => ?_) (fun h1 => ?_)
  · refine v_move rfl ?_
    refine v_guard_off rfl rfl rfl ?_
    refine v_guard_off rfl rfl rfl ?_
    refine v_guard_off rfl rfl rfl ?_
    refine v_pick_t (v := .v (.bool true)) rfl rfl ?_
    refine v_move rfl ?_
    refine v_guard_off rfl rfl rfl ?_
    refine v_guard_off rfl rfl rfl ?_
    refine v_guard_off rfl rfl rfl ?_
    refine v_guard_off rfl rfl rfl ?_
    refine v_guard_un rfl rfl ?_
    refine v_guard_un rfl rfl ?_
    refine v_guard_un rfl rfl ?_
    refine v_guard_off rfl rfl rfl ?_
    refine v_pick_t (v := .v (.bool true)) rfl rfl ?_
    refine v_nil ?_
    refine q_n ?_
    refine w_t rfl ?_
    refine w_seq ?_
    refine w_reg rfl ?_
    refine v_assign (c := .v (.int .i64 0)) rfl ?_
    refine v_assign (c := .v (.bool false)) rfl ?_
    refine v_nil ?_
    refine q_n ?_
    refine w_ret (q_r ?_)
    refine r_r rfl ?_
    have hn : ¬ nine s := fun hn => by
      obtain ⟨n1, n2, n3, n4⟩ := hn
      first
        | omega
        | (have := n3 (by rw [head_at (by omega)]; exact congrArg some (b8_inj.1 (by assumption)))
           omega)
    rw [nine_no hn, decide_eq_false hn]
    exact a_tup (.cons tr_v (.cons tr_v .nil))
  refine v_move rfl ?_
  refine v_guard_on rfl rfl ?_
  refine v_move rfl ?_
  refine v_guard_on rfl rfl ?_
  refine v_len_s lay9 rfl ?_
  refine v_guard_on rfl rfl ?_
  refine v_gtr lay3 rfl rfl (fun h2 => ?_) (fun h2 => ?_)
  · refine v_pick_f rfl rfl ?_
    refine v_move rfl ?_
    refine v_guard_off rfl rfl rfl ?_
    refine v_guard_off rfl rfl rfl ?_
    refine v_guard_off rfl rfl rfl ?_
    refine v_guard_off rfl rfl rfl ?_
    refine v_guard_un rfl rfl ?_
    refine v_guard_un rfl rfl ?_
    refine v_guard_un rfl rfl ?_
    refine v_guard_off rfl rfl rfl ?_
    refine v_pick_t (v := .v (.bool true)) rfl rfl ?_
    refine v_nil ?_
    refine q_n ?_
    refine w_t rfl ?_
    refine w_seq ?_
    refine w_reg rfl ?_
    refine v_assign (c := .v (.int .i64 0)) rfl ?_
    refine v_assign (c := .v (.bool false)) rfl ?_
    refine v_nil ?_
    refine q_n ?_
    refine w_ret (q_r ?_)
    refine r_r rfl ?_
    have hn : ¬ nine s := fun hn => by
      obtain ⟨n1, n2, n3, n4⟩ := hn
      first
        | omega
        | (have := n3 (by rw [head_at (by omega)]; exact congrArg some (b8_inj.1 (by assumption)))
           omega)
    rw [nine_no hn, decide_eq_false hn]
    exact a_tup (.cons tr_v (.cons tr_v .nil))
  refine v_pick_f rfl rfl ?_
  refine v_move rfl ?_
  refine v_guard_on rfl rfl ?_
  refine v_move rfl ?_
  refine v_guard_on rfl rfl ?_
  refine v_sidx (0) lay9 rfl rfl (rfl) (by omega) ?_
  refine v_guard_on rfl rfl ?_
  refine v_eql lay5 rfl rfl (fun h3 => ?_) (fun h3 => ?_)
  rotate_left
  · refine v_guard_on rfl rfl ?_
    refine v_move rfl ?_
    refine v_guard_off rfl rfl rfl ?_
    refine v_guard_off rfl rfl rfl ?_
    refine v_guard_off rfl rfl rfl ?_
    refine v_guard_on rfl rfl ?_
    refine v_pick_f (v := .v (.bool false)) rfl rfl ?_
    refine v_pick_f rfl rfl ?_
    refine v_nil ?_
    refine q_n ?_
    refine w_f rfl ?_
    refine w_skip ?_
    refine q_n ?_
    refine w_seq ?_
    refine w_reg rfl ?_
    refine v_assign (c := .v (.int .i64 0)) rfl ?_
    refine v_nil ?_
    refine q_n ?_
    refine w_seq ?_
    refine w_seq ?_
    refine w_reg rfl ?_
    refine v_assign (c := .v (.int .i64 0)) rfl ?_
    refine v_nil ?_
    refine q_n ?_
    refine w_block ?_
    refine w_loop (fun k sl H => ∃ i : Nat, k = s.length - i ∧ i ≤ s.length ∧ (∀ x ∈ s.take i, dig x) ∧ sl = sls [(0, cS s), (4, cI (numL (s.take i) : Nat)), (5, cI i)] ∧ H = []) ?_ ?_
    · refine ⟨_, _, _, ?_, 0, rfl, Nat.zero_le _, (fun x hx => by simp at hx), rfl, rfl⟩
      exact turn0 ⟨tr_v, tr_v, tr_v, trivial⟩
    rintro k sl H ⟨i, rfl, hi, hd, rfl, rfl⟩
    refine w_seq ?_
    refine w_seq ?_
    refine w_reg rfl ?_
    refine v_move rfl ?_
    refine v_move rfl ?_
    refine v_len_s lay9 rfl ?_
    refine v_lss lay3 rfl rfl (fun h8 => ?_) (fun h8 => ?_)
    rotate_left
    · refine v_nil ?_
      refine q_n ?_
      refine w_f rfl ?_
      refine w_exit ?_
      refine q_e ?_
      refine q_e ?_
      refine q_hit ?_
      refine q_n ?_
      refine w_seq ?_
      refine w_reg rfl ?_
      refine v_move rfl ?_
      refine v_assign rfl ?_
      refine v_assign (c := .v (.bool true)) rfl ?_
      refine v_nil ?_
      refine q_n ?_
      refine w_ret ?_
      refine r_r rfl ?_
      obtain rfl : i = s.length := by omega
      rw [take_all] at hd ⊢
      have hn : nine s := ⟨by omega, by omega, fun hh => by
        first
          | exact absurd (congrArg b8 (Option.some.inj ((head_at (by omega)).symm.trans hh))) (by assumption)
          | omega, hd⟩
      rw [nine_yes hn, decide_eq_true hn]
      exact a_tup (.cons tr_v (.cons tr_v .nil))
    have hi1 : i < s.length := by omega
    have hn8 := num_take hi1 (by omega) hd
    refine v_nil ?_
    refine q_n ?_
    refine w_t rfl ?_
    refine w_skip ?_
    refine q_n ?_
    refine w_seq ?_
    refine w_block ?_
    refine w_seq ?_
    refine w_seq ?_
    refine w_reg rfl ?_
    refine v_move rfl ?_
    refine v_move rfl ?_
    refine v_sidx (i) lay9 rfl rfl (rfl) (by omega) ?_
    refine v_lss lay5 rfl rfl (fun h9 => ?_) (fun h9 => ?_)
    · refine v_move rfl ?_
      refine v_guard_off rfl rfl rfl ?_
      refine v_guard_off rfl rfl rfl ?_
      refine v_guard_off rfl rfl rfl ?_
      refine v_guard_off rfl rfl rfl ?_
      refine v_pick_t (v := .v (.bool true)) rfl rfl ?_
      refine v_nil ?_
      refine q_n ?_
      refine w_t rfl ?_
      refine w_seq ?_
      refine w_reg rfl ?_
      refine v_assign (c := .v (.int .i64 0)) rfl ?_
      refine v_assign (c := .v (.bool false)) rfl ?_
      refine v_nil ?_
      refine q_n ?_
      refine w_ret (q_r (q_br (q_r (q_r (q_br (q_r ?_))))))
      refine r_r rfl ?_
      have hn : ¬ nine s := fun hn => by
        obtain ⟨n1, n2, n3, n4⟩ := hn
        exact ndig_b8 (by omega) (n4 s[i] (List.getElem_mem hi1))
      rw [nine_no hn, decide_eq_false hn]
      exact a_tup (.cons tr_v (.cons tr_v .nil))
    refine v_move rfl ?_
    refine v_guard_on rfl rfl ?_
    refine v_move rfl ?_
    refine v_guard_on rfl rfl ?_
    refine v_move rfl ?_
    refine v_guard_on rfl rfl ?_
    refine v_sidx (i) lay9 rfl rfl (rfl) (by omega) ?_
    refine v_guard_on rfl rfl ?_
    refine v_gtr lay5 rfl rfl (fun h10 => ?_) (fun h10 => ?_)
    · refine v_pick_f rfl rfl ?_
      refine v_nil ?_
      refine q_n ?_
      refine w_t rfl ?_
      refine w_seq ?_
      refine w_reg rfl ?_
      refine v_assign (c := .v (.int .i64 0)) rfl ?_
      refine v_assign (c := .v (.bool false)) rfl ?_
      refine v_nil ?_
      refine q_n ?_
      refine w_ret (q_r (q_br (q_r (q_r (q_br (q_r ?_))))))
      refine r_r rfl ?_
      have hn : ¬ nine s := fun hn => by
        obtain ⟨n1, n2, n3, n4⟩ := hn
        exact ndig_b8 (by omega) (n4 s[i] (List.getElem_mem hi1))
      rw [nine_no hn, decide_eq_false hn]
      exact a_tup (.cons tr_v (.cons tr_v .nil))
    refine v_pick_f rfl rfl ?_
    refine v_nil ?_
    refine q_n ?_
    refine w_f rfl ?_
    refine w_skip ?_
    refine q_n ?_
    refine w_reg rfl ?_
    refine v_move rfl ?_
    refine v_mul lay2 rfl rfl (i64r (by omega)) ?_
    refine v_move rfl ?_
    refine v_move rfl ?_
    refine v_sidx (i) lay9 rfl rfl (rfl) (by omega) ?_
    refine v_sub lay5 rfl rfl (u8r (by omega)) ?_
    refine v_conv_ii lay5 lay2 rfl (i64r (by omega)) ?_
    refine v_add lay2 rfl rfl (i64r (by omega)) ?_
    refine v_assign rfl ?_
    refine v_nil ?_
    refine q_bn ?_
    refine q_n ?_
    refine w_reg rfl ?_
    refine v_move rfl ?_
    refine v_add lay3 rfl rfl (i64r (by omega)) ?_
    refine v_assign rfl ?_
    refine v_nil ?_
    refine q_n ?_
    refine ⟨_, _, _, ?_, ⟨i + 1, rfl, by omega, all_step hi1 hd (dig_b8 (by omega) (by omega)), rfl, rfl⟩, by omega⟩
    exact turn0 ⟨tr_v, tr_i (by rw [num_next hi1, ← dval_b8 (dig_b8 (by omega) (by omega))]), tr_v, trivial⟩
  refine v_guard_on rfl rfl ?_
  refine v_move rfl ?_
  refine v_guard_on rfl rfl ?_
  refine v_move rfl ?_
  refine v_guard_on rfl rfl ?_
  refine v_len_s lay9 rfl ?_
  refine v_guard_on rfl rfl ?_
  refine v_gtr lay3 rfl rfl (fun h4 => ?_) (fun h4 => ?_)
  · refine v_guard_on rfl rfl ?_
    refine v_pick_t rfl rfl ?_
    refine v_pick_f rfl rfl ?_
    refine v_nil ?_
    refine q_n ?_
    refine w_t rfl ?_
    refine w_seq ?_
    refine w_reg rfl ?_
    refine v_assign (c := .v (.int .i64 0)) rfl ?_
    refine v_assign (c := .v (.bool false)) rfl ?_
    refine v_nil ?_
    refine q_n ?_
    refine w_ret (q_r ?_)
    refine r_r rfl ?_
    have hn : ¬ nine s := fun hn => by
      obtain ⟨n1, n2, n3, n4⟩ := hn
      first
        | omega
        | (have := n3 (by rw [head_at (by omega)]; exact congrArg some (b8_inj.1 (by assumption)))
           omega)
    rw [nine_no hn, decide_eq_false hn]
    exact a_tup (.cons tr_v (.cons tr_v .nil))
  refine v_guard_on rfl rfl ?_
  refine v_pick_t rfl rfl ?_
  refine v_pick_f rfl rfl ?_
  refine v_nil ?_
  refine q_n ?_
  refine w_f rfl ?_
  refine w_skip ?_
  refine q_n ?_
  refine w_seq ?_
  refine w_reg rfl ?_
  refine v_assign (c := .v (.int .i64 0)) rfl ?_
  refine v_nil ?_
  refine q_n ?_
  refine w_seq ?_
  refine w_seq ?_
  refine w_reg rfl ?_
  refine v_assign (c := .v (.int .i64 0)) rfl ?_
  refine v_nil ?_
  refine q_n ?_
  refine w_block ?_
  refine w_loop (fun k sl H => ∃ i : Nat, k = s.length - i ∧ i ≤ s.length ∧ (∀ x ∈ s.take i, dig x) ∧ sl = sls [(0, cS s), (4, cI (numL (s.take i) : Nat)), (5, cI i)] ∧ H = []) ?_ ?_
  · refine ⟨_, _, _, ?_, 0, rfl, Nat.zero_le _, (fun x hx => by simp at hx), rfl, rfl⟩
    exact turn0 ⟨tr_v, tr_v, tr_v, trivial⟩
  rintro k sl H ⟨i, rfl, hi, hd, rfl, rfl⟩
  refine w_seq ?_
  refine w_seq ?_
  refine w_reg rfl ?_
  refine v_move rfl ?_
  refine v_move rfl ?_
  refine v_len_s lay9 rfl ?_
  refine v_lss lay3 rfl rfl (fun h5 => ?_) (fun h5 => ?_)
  rotate_left
  · refine v_nil ?_
    refine q_n ?_
    refine w_f rfl ?_
    refine w_exit ?_
    refine q_e ?_
    refine q_e ?_
    refine q_hit ?_
    refine q_n ?_
    refine w_seq ?_
    refine w_reg rfl ?_
    refine v_move rfl ?_
    refine v_assign rfl ?_
    refine v_assign (c := .v (.bool true)) rfl ?_
    refine v_nil ?_
    refine q_n ?_
    refine w_ret ?_
    refine r_r rfl ?_
    obtain rfl : i = s.length := by omega
    rw [take_all] at hd ⊢
    have hn : nine s := ⟨by omega, by omega, fun hh => by
      first
        | exact absurd (congrArg b8 (Option.some.inj ((head_at (by omega)).symm.trans hh))) (by assumption)
        | omega, hd⟩
    rw [nine_yes hn, decide_eq_true hn]
    exact a_tup (.cons tr_v (.cons tr_v .nil))
  have hi1 : i < s.length := by omega
  have hn8 := num_take hi1 (by omega) hd
  refine v_nil ?_
  refine q_n ?_
  refine w_t rfl ?_
  refine w_skip ?_
  refine q_n ?_
  refine w_seq ?_
  refine w_block ?_
  refine w_seq ?_
  refine w_seq ?_
  refine w_reg rfl ?_
  refine v_move rfl ?_
  refine v_move rfl ?_
  refine v_sidx (i) lay9 rfl rfl (rfl) (by omega) ?_
  refine v_lss lay5 rfl rfl (fun h6 => ?_) (fun h6 => ?_)
  · refine v_move rfl ?_
    refine v_guard_off rfl rfl rfl ?_
    refine v_guard_off rfl rfl rfl ?_
    refine v_guard_off rfl rfl rfl ?_
    refine v_guard_off rfl rfl rfl ?_
    refine v_pick_t (v := .v (.bool true)) rfl rfl ?_
    refine v_nil ?_
    refine q_n ?_
    refine w_t rfl ?_
    refine w_seq ?_
    refine w_reg rfl ?_
    refine v_assign (c := .v (.int .i64 0)) rfl ?_
    refine v_assign (c := .v (.bool false)) rfl ?_
    refine v_nil ?_
    refine q_n ?_
    refine w_ret (q_r (q_br (q_r (q_r (q_br (q_r ?_))))))
    refine r_r rfl ?_
    have hn : ¬ nine s := fun hn => by
      obtain ⟨n1, n2, n3, n4⟩ := hn
      exact ndig_b8 (by omega) (n4 s[i] (List.getElem_mem hi1))
    rw [nine_no hn, decide_eq_false hn]
    exact a_tup (.cons tr_v (.cons tr_v .nil))
  refine v_move rfl ?_
  refine v_guard_on rfl rfl ?_
  refine v_move rfl ?_
  refine v_guard_on rfl rfl ?_
  refine v_move rfl ?_
  refine v_guard_on rfl rfl ?_
  refine v_sidx (i) lay9 rfl rfl (rfl) (by omega) ?_
  refine v_guard_on rfl rfl ?_
  refine v_gtr lay5 rfl rfl (fun h7 => ?_) (fun h7 => ?_)
  · refine v_pick_f rfl rfl ?_
    refine v_nil ?_
    refine q_n ?_
    refine w_t rfl ?_
    refine w_seq ?_
    refine w_reg rfl ?_
    refine v_assign (c := .v (.int .i64 0)) rfl ?_
    refine v_assign (c := .v (.bool false)) rfl ?_
    refine v_nil ?_
    refine q_n ?_
    refine w_ret (q_r (q_br (q_r (q_r (q_br (q_r ?_))))))
    refine r_r rfl ?_
    have hn : ¬ nine s := fun hn => by
      obtain ⟨n1, n2, n3, n4⟩ := hn
      exact ndig_b8 (by omega) (n4 s[i] (List.getElem_mem hi1))
    rw [nine_no hn, decide_eq_false hn]
    exact a_tup (.cons tr_v (.cons tr_v .nil))
  refine v_pick_f rfl rfl ?_
  refine v_nil ?_
  refine q_n ?_
  refine w_f rfl ?_
  refine w_skip ?_
  refine q_n ?_
  refine w_reg rfl ?_
  refine v_move rfl ?_
  refine v_mul lay2 rfl rfl (i64r (by omega)) ?_
  refine v_move rfl ?_
  refine v_move rfl ?_
  refine v_sidx (i) lay9 rfl rfl (rfl) (by omega) ?_
  refine v_sub lay5 rfl rfl (u8r (by omega)) ?_
  refine v_conv_ii lay5 lay2 rfl (i64r (by omega)) ?_
  refine v_add lay2 rfl rfl (i64r (by omega)) ?_
  refine v_assign rfl ?_
  refine v_nil ?_
  refine q_bn ?_
  refine q_n ?_
  refine w_reg rfl ?_
  refine v_move rfl ?_
  refine v_add lay3 rfl rfl (i64r (by omega)) ?_
  refine v_assign rfl ?_
  refine v_nil ?_
  refine q_n ?_
  refine ⟨_, _, _, ?_, ⟨i + 1, rfl, by omega, all_step hi1 hd (dig_b8 (by omega) (by omega)), rfl, rfl⟩, by omega⟩
  exact turn0 ⟨tr_v, tr_i (by rw [num_next hi1, ← dval_b8 (dig_b8 (by omega) (by omega))]), tr_v, trivial⟩
end Go.VL
namespace Go.VL
set_option maxRecDepth 20000
theorem dec_le : ∀ (k n : Nat), 0 < k → n < 10 ^ k → (Lib.decDigits n).length ≤ k := by
  intro k
  induction k with
  | zero => intro n h0; omega
  | succ k ih =>
    intro n _ hn
    by_cases h : n < 10
    · rw [Lib.decDigits_one h]; simp
    · rw [dec_unsnoc h, List.length_append]
      have hk : 0 < k := by
        rcases Nat.eq_zero_or_pos k with rfl | h1
        · exact absurd hn (by omega)
        · exact h1
      have := ih (n / 10) hk (by rw [Nat.pow_succ] at hn; omega)
      simp only [List.length_cons, List.length_nil]
      omega
theorem itoa_nat' (n : Nat) : Lib.itoa (n : Int) = Lib.decDigits n := by
  unfold Lib.itoa
  rw [if_neg (by omega), Int.toNat_natCast]
theorem nine_dec {n : Nat} (h : n < 1000000000) : nine (Lib.decDigits n) := by
  obtain ⟨h1, h2, h3, h4⟩ := dec_digs n
  refine ⟨h3, dec_le 9 n (by decide) (by omega), fun e => ?_, h1⟩
  rw [h4 e, Lib.decDigits_one (by decide)]
  rfl
/-- A whole number of so many digits at most. -/
def wh (k : Nat) (s : List UInt8) : Prop := nine s ∧ s.length ≤ k
instance (k : Nat) (s : List UInt8) : Decidable (wh k s) := by unfold wh; infer_instance
theorem nine_parse {s : List UInt8} (h : nine s) : pOk s = true ∧ pn s = nineV s ∧ 0 ≤ nineV s ∧ nineV s < ((10 ^ s.length : Nat) : Int) := by
  have e := (dec_numL s.length s rfl h.1 h.2.2.2 h.2.2.1).1
  have hlt := numL_lt s.length s rfl h.2.2.2
  have hb : numL s < 2 ^ 63 := by
    have : 10 ^ s.length ≤ 10 ^ 9 := Nat.pow_le_pow_right (by decide) h.2.1
    omega
  have hp := parse_dec hb
  rw [e] at hp
  refine ⟨?_, ?_, ?_, ?_⟩
  · unfold pOk
    rw [hp]
    simp only
    rw [itoa_nat', e]
    exact beq_self_eq_true s
  · unfold pn
    rw [hp, nine_yes h]
  · rw [nine_yes h]; omega
  · rw [nine_yes h]; exact Int.ofNat_lt.2 hlt
theorem wh_iff {k : Nat} (hk : k ≤ 9) {s : List UInt8} : (pOk s = true ∧ 0 ≤ pn s ∧ s.length ≤ k) ↔ wh k s := by
  constructor
  · rintro ⟨h1, h2, h3⟩
    refine ⟨?_, h3⟩
    unfold pOk at h1
    unfold pn at h2
    split at h1
    · rename_i v hv
      rw [hv] at h2
      simp only at h2
      obtain ⟨n, rfl⟩ := Int.eq_ofNat_of_zero_le h2
      have e : Lib.decDigits n = s := by simpa [itoa_nat'] using h1
      subst e
      have hn := (dec_digs n)
      have := numL_lt _ (Lib.decDigits n) rfl hn.1
      rw [hn.2.1] at this
      refine nine_dec (Nat.lt_of_lt_of_le this ?_)
      calc 10 ^ (Lib.decDigits n).length ≤ 10 ^ 9 := Nat.pow_le_pow_right (by decide) (by omega)
        _ = 1000000000 := by decide
    · cases h1
  · rintro ⟨h1, h2⟩
    have := nine_parse h1
    exact ⟨this.1, by rw [this.2.1]; exact this.2.2.1, h2⟩
theorem wh_pn {k : Nat} {s : List UInt8} (h : wh k s) : pn s = nineV s := (nine_parse h.1).2.1
theorem wh_rng {s : List UInt8} (h : wh 6 s) : 0 ≤ nineV s ∧ nineV s ≤ 999999 := by
  have h1 := nine_parse h.1
  refine ⟨h1.2.2.1, ?_⟩
  have h2 : 10 ^ s.length ≤ 1000000 := Nat.le_trans (Nat.pow_le_pow_right (by decide) h.2) (Nat.le_of_ble_eq_true rfl)
  have h3 := h1.2.2.2
  omega
/-- What the reference's reader tells of a number that is none. -/
def whV (k : Nat) (s : List UInt8) : Int := if s.length ≤ k then nineV s else 0
theorem whV_yes {k : Nat} {s : List UInt8} (h : wh k s) : whV k s = nineV s := by unfold whV; rw [if_pos h.2]
/-- A number of less than five digits has less than five digits. -/
theorem nine_four {s : List UInt8} (h : nine s) (hv : nineV s ≤ 1024) : s.length ≤ 4 := by
  have e := (dec_numL s.length s rfl h.1 h.2.2.2 h.2.2.1).1
  rw [nine_yes h] at hv
  rw [← e]
  exact dec_le 4 _ (by decide) (by omega)
/-! Fractions. -/
def neg1 (w : List UInt8) : Bool := w.head? == some 45
def top1 (w : List UInt8) : List UInt8 := if neg1 w then w.tail else w
def sg1 (w : List UInt8) (n : Int) : Int := if neg1 w then -n else n
def aI (x : Int) : Int := bits .and .i64 x (x - 1)
def okB (b : List UInt8) : Prop := wh 6 b ∧ 2 ≤ nineV b ∧ nineV b ≤ 1024 ∧ aI (nineV b) = 0
instance (b : List UInt8) : Decidable (okB b) := by unfold okB; infer_instance
def fr1 (w0 : List UInt8) (wr : List (List UInt8)) : Option (Int × Int) :=
  if wh 6 (top1 w0) then match wr with
    | [] => some (sg1 w0 (nineV (top1 w0)), 1)
    | [b] => if okB b then some (sg1 w0 (nineV (top1 w0)), nineV b) else none
    | _ => none
  else none
def frac (s : List UInt8) : Option (Int × Int) := match splitB 47 s with
  | [] => none
  | w0 :: wr => fr1 w0 wr
abbrev nr (n : Int) : Option Nat := some (FloatKind.f32.nearest n)
def frv (s : List UInt8) : Option Nat := match frac s with
  | some (n, d) => fop .quo .f32 (nr n) (nr d)
  | none => some 0
def frok (s : List UInt8) : Bool := (frac s).isSome
theorem fr_some {s : List UInt8} {n d : Int} (h : frac s = some (n, d)) : frv s = fop .quo .f32 (nr n) (nr d) ∧ frok s = true := by
  unfold frv frok
  rw [h]
  exact ⟨rfl, rfl⟩
theorem fr_none {s : List UInt8} (h : frac s = none) : frv s = some 0 ∧ frok s = false := by
  unfold frv frok
  rw [h]
  exact ⟨rfl, rfl⟩
theorem frac_at {s w0 : List UInt8} {wr : List (List UInt8)} (h : splitB 47 s = w0 :: wr) : frac s = fr1 w0 wr := by unfold frac; rw [h]
theorem fr1_no {w0 : List UInt8} {wr : List (List UInt8)} (h : ¬ wh 6 (top1 w0)) : fr1 w0 wr = none := by unfold fr1; rw [if_neg h]
theorem fr1_one {w0 : List UInt8} (h : wh 6 (top1 w0)) : fr1 w0 [] = some (sg1 w0 (nineV (top1 w0)), 1) := by unfold fr1; rw [if_pos h]
theorem fr1_two {w0 b : List UInt8} (h : wh 6 (top1 w0)) (hb : okB b) : fr1 w0 [b] = some (sg1 w0 (nineV (top1 w0)), nineV b) := by unfold fr1; rw [if_pos h]; simp only; rw [if_pos hb]
theorem fr1_bad {w0 b : List UInt8} (hb : ¬ okB b) : fr1 w0 [b] = none := by
  unfold fr1
  split
  · simp only; rw [if_neg hb]
  · rfl
theorem fr1_many {w0 b c : List UInt8} {r : List (List UInt8)} : fr1 w0 (b :: c :: r) = none := by
  unfold fr1
  split <;> rfl
/-- The word without its sign, cut. -/
theorem split_top {s w0 : List UInt8} {wr : List (List UInt8)} (h : splitB 47 s = w0 :: wr) : neg1 s = neg1 w0 ∧ splitB 47 (top1 s) = top1 w0 :: wr := by
  cases s with
  | nil =>
    simp only [splitB, List.cons.injEq] at h
    obtain ⟨rfl, rfl⟩ := h
    exact ⟨rfl, rfl⟩
  | cons x r =>
    unfold splitB at h
    split at h
    · rename_i hx
      simp only [List.cons.injEq] at h
      obtain ⟨rfl, hr⟩ := h
      subst hx
      have e1 : neg1 (47 :: r) = false := rfl
      have e2 : top1 (47 :: r) = 47 :: r := rfl
      refine ⟨rfl, ?_⟩
      rw [e2]
      show splitB 47 (47 :: r) = [] :: wr
      rw [splitB, if_pos rfl, hr]
    · rename_i hx
      cases hr : splitB 47 r with
      | nil => exact absurd hr (splitB_ne 47 r)
      | cons p q =>
        rw [hr] at h
        simp only [List.cons.injEq] at h
        obtain ⟨rfl, rfl⟩ := h
        have e1 : neg1 (x :: r) = neg1 (x :: p) := rfl
        refine ⟨e1, ?_⟩
        unfold top1
        rw [← e1]
        by_cases hn : neg1 (x :: r) = true
        · rw [if_pos hn, if_pos hn]
          exact hr
        · rw [if_neg hn, if_neg hn, splitB, if_neg hx, hr]
theorem splitB_one {c : UInt8} {s p : List UInt8} (h : splitB c s = [p]) : s = p ∧ ∀ x ∈ s, x ≠ c := by
  have e := join_split c s
  rw [h] at e
  have e2 : p = s := e
  subst e2
  exact ⟨rfl, splitB_free c p p (by rw [h]; simp)⟩
/-- A single by one. -/
theorem read_wordS {r : Nat} (hr : r < 2139095040) (s : Bool) : ∃ (m e : Nat), fS.read (fS.word s r) = .number s m (-149 + (e : Int)) ∧ val r = m * 2 ^ e ∧ m < 16777216 := by
  have hw : fS.word s r / 2147483648 % 2 = (if s then 1 else 0) ∧ fS.word s r % 2147483648 = r := by
    cases s
    · show r / 2147483648 % 2 = 0 ∧ r % 2147483648 = r
      omega
    · show (fS.signWeight + r) / 2147483648 % 2 = 1 ∧ (fS.signWeight + r) % 2147483648 = r
      rw [fS_sw]
      omega
  have hs : ((if s then 1 else 0 : Nat) == 1) = s := by cases s <;> rfl
  unfold Ieee.Format.read
  rw [fS_sw, fS_bi, fS_in, fS_lp]
  simp only [hw.1, hw.2, hs]
  unfold val
  by_cases h : r < 8388608
  · rw [if_pos h, if_pos h]
    exact ⟨r, 0, by simp, by simp, by omega⟩
  · rw [if_neg h, if_neg h, if_pos hr]
    exact ⟨_, _, rfl, rfl, by omega⟩
theorem quo_one {r : Nat} (hr : r < 2139095040) (s : Bool) : fS.div (fS.word s r) 1065353216 = some (fS.word s r) := by
  obtain ⟨m, e, h1, h2, h3⟩ := read_wordS hr s
  have h0 : fS.read 1065353216 = .number false 8388608 (-23) := by decide
  unfold Ieee.Format.div
  rw [h1, h0, fS_fb]
  unfold Ieee.Datum.quotient
  have hl : m.log2 ≤ 23 := by
    rcases Nat.eq_zero_or_pos m with rfl | hm
    · decide
    · have h4 := Nat.log2_self_le (by omega : m ≠ 0)
      have : 2 ^ m.log2 < 2 ^ 24 := by
        have : (2 : Nat) ^ 24 = 16777216 := by decide
        omega
      have := (Nat.pow_lt_pow_iff_right (show 1 < 2 by decide)).1 this
      omega
  have hlog : Nat.log2 8388608 = 23 := by decide
  simp only [hlog]
  rw [if_neg (by decide)]
  obtain ⟨d, hd⟩ : ∃ d, 23 + 2 + 23 - m.log2 = 23 + d := ⟨25 - m.log2, by omega⟩
  rw [hd]
  have hsh : m <<< (23 + d) = 8388608 * (m * 2 ^ d) := by
    rw [Nat.shiftLeft_eq, Nat.pow_add, show (2 : Nat) ^ 23 = 8388608 by decide]
    ac_rfl
  rw [hsh, Nat.mul_div_cancel_left _ (by decide), Nat.mul_mod_right]
  simp only [Option.map_some, Bool.xor_false, bne_self_eq_false, Bool.toNat_false, Nat.add_zero]
  congr 1
  show fS.nearest s (2 * (m * 2 ^ d)) _ = _
  rw [nearest_rung, show 2 * (m * 2 ^ d) = m * 2 ^ (d + 1) by rw [Nat.pow_succ]; ac_rfl]
  congr 1
  have e1 : (-149 + (e : Int) - -23 - ((23 + d : Nat) : Int) - 1) = (-149 + (e : Int)) - ((d + 1 : Nat) : Int) := by omega
  rw [e1, rung_scale, ← val_rung hr, h2]
  have := rung_scale m e (-149 + (e : Int))
  rw [← this]
  congr 1
  omega
theorem near_small {n : Int} (h : -999999 ≤ n ∧ n ≤ 999999) : fop .quo .f32 (nr n) (nr 1) = nr n := by
  have e1 : FloatKind.f32.nearest n = fS.word (decide (n < 0)) (rung n.natAbs 0) := nearest_rung _ _ _
  have e2 : FloatKind.f32.nearest 1 = 1065353216 := by decide
  unfold nr
  rw [e1, e2]
  refine quo_one ?_ _
  have h1 := rung_mono (p := 0) (n1 := n.natAbs) (n2 := 1000000) (by omega)
  have h2 : rung 1000000 0 < 2139095040 := by decide
  omega
end Go.VL
namespace Go.VL
open Go.RowKit
set_option maxRecDepth 20000
set_option maxHeartbeats 8000000
theorem neg_yes {w : List UInt8} (h : 0 < w.length) (e : b8 w[0] = 45) : neg1 w = true ∧ (w.take w.length).drop 1 = top1 w := by
  cases w with
  | nil => simp at h
  | cons x r =>
    have hx : x = 45 := b8_inj.1 (e : b8 x = b8 45)
    subst hx
    refine ⟨rfl, ?_⟩
    rw [take_all]
    rfl
theorem neg_no0 {w : List UInt8} (h : w.length = 0) : neg1 w = false ∧ w = top1 w := by
  obtain rfl : w = [] := List.length_eq_zero_iff.1 h
  exact ⟨rfl, rfl⟩
theorem neg_no {w : List UInt8} (h : 0 < w.length) (e : ¬ b8 w[0] = 45) : neg1 w = false ∧ w = top1 w := by
  cases w with
  | nil => simp at h
  | cons x r =>
    have hx : ¬ x = 45 := fun hx => e (congrArg b8 hx)
    have h1 : neg1 (x :: r) = false := by
      show (some x == some 45) = false
      simp [hx]
    refine ⟨h1, ?_⟩
    unfold top1
    rw [h1]
    rfl
theorem sgm {w : List UInt8} (h : neg1 w = true) (n : Int) : -1 * n = sg1 w n := by unfold sg1; rw [if_pos h]; omega
theorem sgp {w : List UInt8} (h : neg1 w = false) (n : Int) : 1 * n = sg1 w n := by unfold sg1; rw [if_neg (by rw [h]; decide)]; omega
theorem sgi {w : List UInt8} (h : neg1 w = true) (n : Int) : 0 - n = sg1 w n := by unfold sg1; rw [if_pos h]; omega
theorem sgj {w : List UInt8} (h : neg1 w = false) (n : Int) : n = sg1 w n := by unfold sg1; rw [if_neg (by rw [h]; decide)]
theorem sg_rng1 {w : List UInt8} (h : wh 6 (top1 w)) : -999999 ≤ sg1 w (nineV (top1 w)) ∧ sg1 w (nineV (top1 w)) ≤ 999999 := by
  have := wh_rng h
  unfold sg1
  split <;> omega
theorem len_nil {α : Type} {l : List α} (h : l.length = 0) : l = [] := List.length_eq_zero_iff.1 h
theorem len_one {α : Type} {l : List α} (h : l.length = 1) : ∃ b, l = [b] := List.length_eq_one_iff.1 h
theorem top1_le (w : List UInt8) : (top1 w).length ≤ w.length := by
  unfold top1
  split
  · rw [List.length_tail]; omega
  · exact Nat.le_refl _
theorem okB4 (b : List UInt8) : okB b ↔ wh 4 b ∧ 2 ≤ nineV b ∧ nineV b ≤ 1024 ∧ aI (nineV b) = 0 := by
  unfold okB
  constructor
  · rintro ⟨h1, h2, h3, h4⟩
    exact ⟨⟨h1.1, nine_four h1.1 h3⟩, h2, h3, h4⟩
  · rintro ⟨h1, h2, h3, h4⟩
    exact ⟨⟨h1.1, Nat.le_trans h1.2 (by decide)⟩, h2, h3, h4⟩
theorem many_no {u b c : List UInt8} {r : List (List UInt8)} (h : splitB 47 u = b :: c :: r) : ¬ wh 4 u := fun hw => by
  rw [splitB_none fun x hx e => by
    subst e
    exact absurd (hw.1.2.2.2 _ hx) (by decide)] at h
  simp at h
theorem tr_fe {H : List Ob} {g : List (Option Nat)} {k : FloatKind} {a b : Option Nat} (h : a = b) : TrV H g (.c (.f k a)) (.c (.f k b)) := by
  subst h; exact tr_f
variable [Inhabited Env]
theorem cInR (a lo hi : Int) : PureC X 29 [cI a, cI lo, cI hi] (cB (decide (lo ≤ a ∧ a ≤ hi))) := by
  refine PureC.of_body (drawD_ok X) (fun _ _ => Go.Proofs.Tryd.call29 _ _) Go.Proofs.Tryd.func29 rfl (n := 15) rfl ?_
  refine w_seq ?_
  refine w_reg rfl ?_
  refine v_assign (c := .v (.bool false)) rfl ?_
  refine v_nil ?_
  refine q_n ?_
  refine w_seq ?_
  refine w_reg rfl ?_
  refine v_move rfl ?_
  refine v_move rfl ?_
  refine v_leq lay2 rfl rfl (fun h1 => ?_) (fun h1 => ?_)
  rotate_left
  · refine v_move rfl ?_
    refine v_guard_off rfl rfl rfl ?_
    refine v_guard_off rfl rfl rfl ?_
    refine v_guard_off rfl rfl rfl ?_
    refine v_pick_f (v := .v (.bool false)) rfl rfl ?_
    refine v_assign rfl ?_
    refine v_nil ?_
    refine q_n ?_
    refine w_ret ?_
    refine r_r rfl ?_
    exact a_b (by simp <;> omega)
  refine v_move rfl ?_
  refine v_guard_on rfl rfl ?_
  refine v_move rfl ?_
  refine v_guard_on rfl rfl ?_
  refine v_move rfl ?_
  refine v_guard_on rfl rfl ?_
  refine v_leq lay2 rfl rfl (fun h2 => ?_) (fun h2 => ?_)
  · refine v_pick_t rfl rfl ?_
    refine v_assign rfl ?_
    refine v_nil ?_
    refine q_n ?_
    refine w_ret ?_
    refine r_r rfl ?_
    exact a_b (by simp <;> omega)
  refine v_pick_t rfl rfl ?_
  refine v_assign rfl ?_
  refine v_nil ?_
  refine q_n ?_
  refine w_ret ?_
  refine r_r rfl ?_
  exact a_b (by simp <;> omega)

theorem cIn (a lo hi : Int) : PureC X 15 [cI a, cI lo, cI hi] (cB (decide (lo ≤ a ∧ a ≤ hi))) := by
  refine PureC.of_body (drawD_ok X) (fun _ _ => Go.Proofs.Tryd.call15 _ _) Go.Proofs.Tryd.func15 rfl (n := 15) rfl ?_
  refine w_seq ?_
  refine w_reg rfl ?_
  refine v_assign (c := .v (.bool false)) rfl ?_
  refine v_nil ?_
  refine q_n ?_
  refine w_seq ?_
  refine w_reg rfl ?_
  refine v_move rfl ?_
  refine v_move rfl ?_
  refine v_geq lay2 rfl rfl (fun h1 => ?_) (fun h1 => ?_)
  rotate_left
  · refine v_move rfl ?_
    refine v_guard_off rfl rfl rfl ?_
    refine v_guard_off rfl rfl rfl ?_
    refine v_guard_off rfl rfl rfl ?_
    refine v_pick_f (v := .v (.bool false)) rfl rfl ?_
    refine v_assign rfl ?_
    refine v_nil ?_
    refine q_n ?_
    refine w_ret ?_
    refine r_r rfl ?_
    exact a_b (by simp <;> omega)
  refine v_move rfl ?_
  refine v_guard_on rfl rfl ?_
  refine v_move rfl ?_
  refine v_guard_on rfl rfl ?_
  refine v_move rfl ?_
  refine v_guard_on rfl rfl ?_
  refine v_leq lay2 rfl rfl (fun h2 => ?_) (fun h2 => ?_)
  · refine v_pick_t rfl rfl ?_
    refine v_assign rfl ?_
    refine v_nil ?_
    refine q_n ?_
    refine w_ret ?_
    refine r_r rfl ?_
    exact a_b (by simp <;> omega)
  refine v_pick_t rfl rfl ?_
  refine v_assign rfl ?_
  refine v_nil ?_
  refine q_n ?_
  refine w_ret ?_
  refine r_r rfl ?_
  exact a_b (by simp <;> omega)

theorem cCodeIft (x : Int) : PureC X 28 [cB true, cI x] (cI x) := by
  refine PureC.of_body (drawD_ok X) (fun _ _ => Go.Proofs.Tryd.call28 _ _) Go.Proofs.Tryd.func28 rfl (n := 7) rfl ?_
  refine w_seq ?_
  refine w_reg rfl ?_
  refine v_assign (c := .v (.int .i64 0)) rfl ?_
  refine v_nil ?_
  refine q_n ?_
  refine w_seq ?_
  refine w_seq ?_
  refine w_reg rfl ?_
  refine v_move rfl ?_
  refine v_nil ?_
  refine q_n ?_
  refine w_t rfl ?_
  refine w_seq ?_
  refine w_reg rfl ?_
  refine v_move rfl ?_
  refine v_assign rfl ?_
  refine v_nil ?_
  refine q_n ?_
  refine w_ret (q_r ?_)
  refine r_r rfl ?_
  exact tr_v

theorem cCodeIff (x : Int) : PureC X 28 [cB false, cI x] (cI 0) := by
  refine PureC.of_body (drawD_ok X) (fun _ _ => Go.Proofs.Tryd.call28 _ _) Go.Proofs.Tryd.func28 rfl (n := 7) rfl ?_
  refine w_seq ?_
  refine w_reg rfl ?_
  refine v_assign (c := .v (.int .i64 0)) rfl ?_
  refine v_nil ?_
  refine q_n ?_
  refine w_seq ?_
  refine w_seq ?_
  refine w_reg rfl ?_
  refine v_move rfl ?_
  refine v_nil ?_
  refine q_n ?_
  refine w_f rfl ?_
  refine w_skip ?_
  refine q_n ?_
  refine w_seq ?_
  refine w_reg rfl ?_
  refine v_assign (c := .v (.int .i64 0)) rfl ?_
  refine v_nil ?_
  refine q_n ?_
  refine w_ret ?_
  refine r_r rfl ?_
  exact tr_v

theorem cCodeIf (b : Bool) (x : Int) : PureC X 28 [cB b, cI x] (cI (if b then x else 0)) := by
  cases b
  · exact cCodeIff x
  · exact cCodeIft x

theorem cFirst (xs : List Int) (hx : xs.length ≤ 2 ^ 40) : PureC X 27 [.c (ints false xs)] (cI (firstNZ xs)) := by
  refine PureC.of_body (drawD_ok X) (fun _ _ => Go.Proofs.Tryd.call27 _ _) Go.Proofs.Tryd.func27 rfl (n := 15) rfl ?_
  refine w_seq ?_
  refine w_reg rfl ?_
  refine v_assign (c := .v (.int .i64 0)) rfl ?_
  refine v_nil ?_
  refine q_n ?_
  refine w_seq ?_
  refine w_seq ?_
  refine w_reg rfl ?_
  refine v_move rfl ?_
  refine v_len_sl lay32 rfl ?_
  refine v_move (c := .v (.int .i64 0)) rfl ?_
  refine v_nil ?_
  refine q_n ?_
  refine w_block ?_
  refine w_loop (fun k sl H => ∃ i : Nat, k = xs.length - i ∧ i ≤ xs.length ∧ (∀ x ∈ xs.take i, x = 0) ∧ sl = sls [(5, .c (ints false xs)), (6, cI xs.length), (7, cI i)] ∧ H = []) ?_ ?_
  · refine ⟨_, _, _, ?_, 0, rfl, Nat.zero_le _, by simp, rfl, rfl⟩
    exact turn0 ⟨tr_sl, tr_v, tr_v, trivial⟩
  rintro k sl H ⟨i, rfl, hi, hp, rfl, rfl⟩
  refine w_seq ?_
  refine w_reg rfl ?_
  refine v_lss lay3 rfl rfl (fun h1 => ?_) (fun h1 => ?_)
  rotate_left
  · refine v_nil ?_
    refine q_n ?_
    refine w_seq ?_
    refine w_f rfl ?_
    refine w_exit ?_
    refine q_e ?_
    refine q_e ?_
    refine q_hit ?_
    refine q_n ?_
    refine w_seq ?_
    refine w_reg rfl ?_
    refine v_assign (c := .v (.int .i64 0)) rfl ?_
    refine v_nil ?_
    refine q_n ?_
    refine w_ret ?_
    refine r_r rfl ?_
    obtain rfl : i = xs.length := by omega
    rw [List.take_length] at hp
    exact a_i (firstNZ_none hp).symm
  have hj : i < xs.length := by omega
  refine v_nil ?_
  refine q_n ?_
  refine w_seq ?_
  refine w_t rfl ?_
  refine w_skip ?_
  refine q_n ?_
  refine w_seq ?_
  refine w_block ?_
  refine w_seq ?_
  refine w_reg rfl ?_
  refine v_idx_e (k := 1) (i) int_len lay32 lay2 rfl rfl rfl (rfl) rfl (rfl) ((by omega : i < xs.length)) ?_
  refine v_load_vw (.c (.v _)) lay2 rfl rfl rfl ?_
  refine v_assign rfl ?_
  refine v_nil ?_
  refine q_n ?_
  refine w_seq ?_
  refine w_reg rfl ?_
  refine v_move rfl ?_
  refine v_neq lay2 rfl rfl (fun h3 => ?_) (fun h3 => ?_)
  · refine v_nil ?_
    refine q_n ?_
    refine w_t rfl ?_
    refine w_seq ?_
    refine w_reg rfl ?_
    refine v_move rfl ?_
    refine v_assign rfl ?_
    refine v_nil ?_
    refine q_n ?_
    refine w_ret (q_br (q_r (q_r (q_br (q_r ?_)))))
    refine r_r rfl ?_
    exact a_i (firstNZ_hit hj hp h3).symm
  refine v_nil ?_
  refine q_n ?_
  refine w_f rfl ?_
  refine w_skip ?_
  refine q_bn ?_
  refine q_n ?_
  refine w_reg rfl ?_
  refine v_add lay3 rfl rfl (i64r (by omega)) ?_
  refine v_move rfl ?_
  refine v_nil ?_
  refine q_n ?_
  refine ⟨_, _, _, ?_, ⟨i + 1, rfl, by omega, all_step hj hp h3, rfl, rfl⟩, by omega⟩
  exact turn0 ⟨tr_sl, tr_v, tr_v, trivial⟩

theorem cWhS (k : Nat) (s : List UInt8) : PureC X 14 [cS s, cI k] (.tup [cI (whV k s), cB (decide (wh k s))]) := by
  refine PureC.of_body (drawD_ok X) (fun _ _ => Go.Proofs.Tryd.call14 _ _) Go.Proofs.Tryd.func14 rfl (n := 14) rfl ?_
  have h0 : (tx s).size = s.length := rfl
  refine w_seq ?_
  refine w_reg rfl ?_
  refine v_assign (c := .v (.int .i64 0)) rfl ?_
  refine v_assign (c := .v (.bool false)) rfl ?_
  refine v_nil ?_
  refine q_n ?_
  refine w_seq ?_
  refine w_seq ?_
  refine w_reg rfl ?_
  refine v_move rfl ?_
  refine v_len_s lay9 rfl ?_
  refine v_move rfl ?_
  refine v_gtr lay3 rfl rfl (fun h1 => ?_) (fun h1 => ?_)
  · refine v_nil ?_
    refine q_n ?_
    refine w_t rfl ?_
    refine w_seq ?_
    refine w_reg rfl ?_
    refine v_assign (c := .v (.int .i64 0)) rfl ?_
    refine v_assign (c := .v (.bool false)) rfl ?_
    refine v_nil ?_
    refine q_n ?_
    refine w_ret (q_r ?_)
    refine r_r rfl ?_
    have hn : ¬ wh k s := fun h => by have := h.2; omega
    rw [show whV k s = 0 by unfold whV; rw [if_neg (by omega)], decide_eq_false hn]
    exact a_tup (.cons tr_v (.cons tr_v .nil))
  refine v_nil ?_
  refine q_n ?_
  refine w_f rfl ?_
  refine w_skip ?_
  refine q_n ?_
  refine w_seq ?_
  refine w_reg rfl ?_
  refine v_move rfl ?_
  refine v_call (cNumS _) rfl rfl rfl (.cons vw_v .nil) ?_
  refine v_extract_c rfl rfl ?_
  refine v_extract_c rfl rfl ?_
  refine v_assign rfl ?_
  refine v_assign rfl ?_
  refine v_nil ?_
  refine q_n ?_
  refine w_ret ?_
  refine r_r rfl ?_
  have hl : s.length ≤ k := by omega
  rw [show whV k s = nineV s by unfold whV; rw [if_pos hl], show decide (wh k s) = decide (nine s) from decide_eq_decide.2 ⟨fun h => h.1, fun h => ⟨h, hl⟩⟩]
  exact a_tup (.cons tr_v (.cons tr_v .nil))

theorem cWhT {k : Nat} {s : List UInt8} (h : wh k s) : PureC X 14 [cS s, cI k] (.tup [cI (nineV s), cB true]) := by
  have := cWhS k s
  rwa [decide_eq_true h, whV_yes h] at this
theorem cWhF {k : Nat} {s : List UInt8} (h : ¬ wh k s) : PureC X 14 [cS s, cI k] (.tup [cI (whV k s), cB false]) := by
  have := cWhS k s
  rwa [decide_eq_false h] at this
theorem cNumIT {s : List UInt8} (hl : s.length ≤ 1048576) (h : pOk s = true) : PureC X 36 [cS s] (.tup [cI (pn s), cB true]) := by
  have := cNum s hl
  rwa [h] at this
theorem cNumIF {s : List UInt8} (hl : s.length ≤ 1048576) (h : ¬ pOk s = true) : PureC X 36 [cS s] (.tup [cI (pn s), cB false]) := by
  have := cNum s hl
  rwa [eq_false_of_ne_true h] at this

theorem cWhI (k : Nat) (hk : k ≤ 9) (s : List UInt8) (hl : s.length ≤ 1048576) : PureC X 26 [cS s, cI k] (.tup [cI (pn s), cB (decide (wh k s))]) := by
  refine PureC.of_body (drawD_ok X) (fun _ _ => Go.Proofs.Tryd.call26 _ _) Go.Proofs.Tryd.func26 rfl (n := 25) rfl ?_
  have h0 : (tx s).size = s.length := rfl
  refine w_seq ?_
  refine w_reg rfl ?_
  refine v_assign (c := .v (.int .i64 0)) rfl ?_
  refine v_assign (c := .v (.bool false)) rfl ?_
  refine v_nil ?_
  refine q_n ?_
  refine w_seq ?_
  refine w_reg rfl ?_
  refine v_move rfl ?_
  refine dec_split (p := pOk s = true) (fun h1 => ?_) (fun h1 => ?_)
  rotate_left
  · refine v_call (cNumIF hl h1) rfl rfl rfl (.cons vw_v .nil) ?_
    refine v_move_t rfl ?_
    refine v_extract_c rfl rfl ?_
    refine v_extract_c rfl rfl ?_
    refine v_assign rfl ?_
    refine v_assign rfl ?_
    refine v_nil ?_
    refine q_n ?_
    refine w_seq ?_
    refine w_reg rfl ?_
    refine v_move rfl ?_
    refine v_move rfl ?_
    refine v_move rfl ?_
    refine v_guard_off rfl rfl rfl ?_
    refine v_guard_off rfl rfl rfl ?_
    refine v_pick_f (v := .v (.bool false)) rfl rfl ?_
    refine v_move rfl ?_
    refine v_guard_off rfl rfl rfl ?_
    refine v_guard_off rfl rfl rfl ?_
    refine v_guard_off rfl rfl rfl ?_
    refine v_guard_off rfl rfl rfl ?_
    refine v_pick_f (v := .v (.bool false)) rfl rfl ?_
    refine v_assign rfl ?_
    refine v_assign rfl ?_
    refine v_nil ?_
    refine q_n ?_
    refine w_ret ?_
    refine r_r rfl ?_
    have hw : ¬ wh k s := fun hw => by
      obtain ⟨a1, a2, a3⟩ := (wh_iff hk).2 hw
      first | omega | exact absurd a1 (by assumption)
    rw [decide_eq_false hw]
    exact a_tup (.cons tr_v (.cons tr_v .nil))
  refine v_call (cNumIT hl h1) rfl rfl rfl (.cons vw_v .nil) ?_
  refine v_move_t rfl ?_
  refine v_extract_c rfl rfl ?_
  refine v_extract_c rfl rfl ?_
  refine v_assign rfl ?_
  refine v_assign rfl ?_
  refine v_nil ?_
  refine q_n ?_
  refine w_seq ?_
  refine w_reg rfl ?_
  refine v_move rfl ?_
  refine v_move rfl ?_
  refine v_move rfl ?_
  refine v_guard_on rfl rfl ?_
  refine v_move rfl ?_
  refine v_guard_on rfl rfl ?_
  refine v_geq lay2 rfl rfl (fun h2 => ?_) (fun h2 => ?_)
  rotate_left
  · refine v_pick_t rfl rfl ?_
    refine v_move rfl ?_
    refine v_guard_off rfl rfl rfl ?_
    refine v_guard_off rfl rfl rfl ?_
    refine v_guard_off rfl rfl rfl ?_
    refine v_guard_off rfl rfl rfl ?_
    refine v_pick_f (v := .v (.bool false)) rfl rfl ?_
    refine v_assign rfl ?_
    refine v_assign rfl ?_
    refine v_nil ?_
    refine q_n ?_
    refine w_ret ?_
    refine r_r rfl ?_
    have hw : ¬ wh k s := fun hw => by
      obtain ⟨a1, a2, a3⟩ := (wh_iff hk).2 hw
      first | omega | exact absurd a1 (by assumption)
    rw [decide_eq_false hw]
    exact a_tup (.cons tr_v (.cons tr_v .nil))
  refine v_pick_t rfl rfl ?_
  refine v_move rfl ?_
  refine v_guard_on rfl rfl ?_
  refine v_move rfl ?_
  refine v_guard_on rfl rfl ?_
  refine v_len_s lay9 rfl ?_
  refine v_guard_on rfl rfl ?_
  refine v_move rfl ?_
  refine v_guard_on rfl rfl ?_
  refine v_leq lay3 rfl rfl (fun h3 => ?_) (fun h3 => ?_)
  · refine v_pick_t rfl rfl ?_
    refine v_assign rfl ?_
    refine v_assign rfl ?_
    refine v_nil ?_
    refine q_n ?_
    refine w_ret ?_
    refine r_r rfl ?_
    rw [decide_eq_true ((wh_iff hk).1 ⟨by assumption, by omega, by omega⟩)]
    exact a_tup (.cons tr_v (.cons tr_v .nil))
  refine v_pick_t rfl rfl ?_
  refine v_assign rfl ?_
  refine v_assign rfl ?_
  refine v_nil ?_
  refine q_n ?_
  refine w_ret ?_
  refine r_r rfl ?_
  have hw : ¬ wh k s := fun hw => by
    obtain ⟨a1, a2, a3⟩ := (wh_iff hk).2 hw
    first | omega | exact absurd a1 (by assumption)
  rw [decide_eq_false hw]
  exact a_tup (.cons tr_v (.cons tr_v .nil))

theorem cWiT {k : Nat} (hk : k ≤ 9) {s : List UInt8} (hl : s.length ≤ 1048576) (h : wh k s) : PureC X 26 [cS s, cI k] (.tup [cI (nineV s), cB true]) := by
  have := cWhI k hk s hl
  rwa [decide_eq_true h, wh_pn h] at this
theorem cWiF {k : Nat} (hk : k ≤ 9) {s : List UInt8} (hl : s.length ≤ 1048576) (h : ¬ wh k s) : PureC X 26 [cS s, cI k] (.tup [cI (pn s), cB false]) := by
  have := cWhI k hk s hl
  rwa [decide_eq_false h] at this

theorem cCutP (s p : List UInt8) : PureC X 37 [cS s, cS p] (.tup [cS (Lib.trimPrefix s p), cB (Lib.hasPrefix s p)]) :=
  PureC.of_calls (fun _ _ => Go.Proofs.Tryd.call37 _ _) fun w F μ arr hS hr => by
    obtain ⟨x, y, rfl, h1, h2⟩ := two_args hr
    obtain rfl := rv_v h1
    obtain rfl := rv_v h2
    exact (Go.Proofs.Tryd.strings_CutPrefix (tx s) (tx p) w).mono fun e w' ⟨he, hw⟩ => ⟨_, he, (by rw [hw]; exact Below.refl _ _), rv_two (.c (.fz (.v rfl))) (.c (.fz (.v rfl)))⟩
omit [Inhabited Env] in
theorem pre_neg (s : List UInt8) : Lib.hasPrefix s [45] = neg1 s ∧ Lib.trimPrefix s [45] = top1 s := by
  cases s with
  | nil => exact ⟨rfl, rfl⟩
  | cons x r =>
    have e : Lib.hasPrefix (x :: r) [45] = (45 == x) := by
      show List.isPrefixOf [45] (x :: r) = _
      simp [List.isPrefixOf]
    have e1 : neg1 (x :: r) = (45 == x) := by
      show (some x == some 45) = _
      by_cases h : x = 45
      · subst h; rfl
      · have a1 : (x == 45) = false := beq_eq_false_iff_ne.2 h
        have a2 : (45 == x) = false := beq_eq_false_iff_ne.2 (Ne.symm h)
        show (x == 45) = (45 == x)
        rw [a1, a2]
    refine ⟨e.trans e1.symm, ?_⟩
    unfold Lib.trimPrefix top1
    rw [e, e1]
    split <;> rfl
theorem cCpT {s : List UInt8} (h : neg1 s = true) : PureC X 37 [cS s, cS [45]] (.tup [cS (top1 s), cB true]) := by
  have := cCutP s [45]
  rw [(pre_neg s).1, (pre_neg s).2, h] at this
  exact this
theorem cCpF {s : List UInt8} (h : ¬ neg1 s = true) : PureC X 37 [cS s, cS [45]] (.tup [cS (top1 s), cB false]) := by
  have := cCutP s [45]
  rw [(pre_neg s).1, (pre_neg s).2, eq_false_of_ne_true h] at this
  exact this
theorem cIx1 (s : List UInt8) (c : UInt8) : PureC X 42 [cS s, cS [c]] (cI (Lib.indexByte s c)) :=
  PureC.of_calls (fun _ _ => Go.Proofs.Tryd.call42 _ _) fun w F μ arr hS hr => by
    obtain ⟨x, y, rfl, h1, h2⟩ := two_args hr
    obtain rfl := rv_v h1
    obtain rfl := rv_v h2
    exact (Go.Proofs.Tryd.stringslite_Index_one (tx s) c w).mono fun e w' ⟨he, hw⟩ => ⟨_, he, (by rw [hw]; exact Below.refl _ _), .c (.fz (.v rfl))⟩

theorem cCutLT (s : List UInt8) (c : UInt8) (hs : s.length ≤ 1048576) (m : Nat) (hm : m < s.length) (im : Lib.indexByte s c = (m : Int)) : PureC X 46 [cS s, cS [c]] (.tup [cS (s.take m), cS (s.drop (m + 1)), cB true]) := by
  refine PureC.of_body (drawD_ok X) (fun _ _ => Go.Proofs.Tryd.call46 _ _) Go.Proofs.Tryd.func46 rfl (n := 23) rfl ?_
  have h0 : (tx s).size = s.length := rfl
  refine w_seq ?_
  refine w_reg rfl ?_
  refine v_assign (c := .v _) rfl ?_
  refine v_assign (c := .v _) rfl ?_
  refine v_assign (c := .v (.bool false)) rfl ?_
  refine v_nil ?_
  refine q_n ?_
  refine w_seq ?_
  refine w_seq ?_
  refine w_reg rfl ?_
  refine v_move rfl ?_
  refine v_move rfl ?_
  refine v_call (cIx1 _ _) rfl rfl rfl (.cons vw_v (.cons vw_v .nil)) ?_
  refine v_assign rfl ?_
  refine v_nil ?_
  refine q_n ?_
  refine w_seq ?_
  refine w_reg rfl ?_
  refine v_move rfl ?_
  refine v_geq lay3 rfl rfl (fun h1 => ?_) (fun h1 => ?_)
  rotate_left
  · exfalso; omega
  refine v_nil ?_
  refine q_n ?_
  refine w_t rfl ?_
  refine w_seq ?_
  refine w_draw [0, 0, 3, 0, 0, 0, 32, 112, 248, 7, 1023, 2047] [⟨0, 0, []⟩, ⟨1, 0, []⟩, ⟨2, 0, []⟩, ⟨3, 0, []⟩, ⟨4, 0, []⟩, ⟨5, 0, []⟩, ⟨6, 0, []⟩, ⟨7, 0, []⟩, ⟨8, 0, []⟩, ⟨9, 0, []⟩, ⟨10, 0, []⟩, ⟨11, 0, []⟩] rfl rfl ?_
  refine d_q rfl rfl rfl rfl rfl ?_
  refine v_move rfl ?_
  refine v_nil ?_
  refine d_q rfl rfl rfl rfl rfl ?_
  refine v_move rfl ?_
  refine v_nil ?_
  refine d_q rfl rfl rfl rfl rfl ?_
  refine v_sslice (0) (m) lay9 rfl rfl rfl (rfl) (by omega) (⟨by omega, by omega⟩) ?_
  refine v_nil ?_
  refine d_q rfl rfl rfl rfl rfl ?_
  refine v_move rfl ?_
  refine v_nil ?_
  refine d_q rfl rfl rfl rfl rfl ?_
  refine v_move rfl ?_
  refine v_nil ?_
  refine d_q rfl rfl rfl rfl rfl ?_
  refine v_move rfl ?_
  refine v_nil ?_
  refine d_q rfl rfl rfl rfl rfl ?_
  refine v_len_s lay9 rfl ?_
  refine v_nil ?_
  refine d_q rfl rfl rfl rfl rfl ?_
  refine v_add lay3 rfl rfl (i64r (by have h9 : (tx [c]).size = 1 := rfl; omega)) ?_
  refine v_nil ?_
  refine d_q rfl rfl rfl rfl rfl ?_
  refine v_sslice (m + 1) (s.length) lay9 rfl rfl rfl (by show Lib.indexByte s c + 1 = _; omega) (rfl) (⟨by omega, Nat.le_refl _⟩) ?_
  refine v_nil ?_
  refine d_q rfl rfl rfl rfl rfl ?_
  refine v_assign rfl ?_
  refine v_nil ?_
  refine d_q rfl rfl rfl rfl rfl ?_
  refine v_assign rfl ?_
  refine v_nil ?_
  refine d_q rfl rfl rfl rfl rfl ?_
  refine v_assign (c := .v (.bool true)) rfl ?_
  refine v_nil ?_
  refine d_nil ?_
  refine q_n ?_
  refine w_ret (q_r ?_)
  refine r_r rfl ?_
  exact a_tup (.cons (a_s rfl) (.cons (a_s (by rw [take_all])) (.cons tr_v .nil)))

theorem cCutLF (s : List UInt8) (c : UInt8) (im : Lib.indexByte s c = -1) : PureC X 46 [cS s, cS [c]] (.tup [cS s, cS [], cB false]) := by
  refine PureC.of_body (drawD_ok X) (fun _ _ => Go.Proofs.Tryd.call46 _ _) Go.Proofs.Tryd.func46 rfl (n := 23) rfl ?_
  refine w_seq ?_
  refine w_reg rfl ?_
  refine v_assign (c := .v _) rfl ?_
  refine v_assign (c := .v _) rfl ?_
  refine v_assign (c := .v (.bool false)) rfl ?_
  refine v_nil ?_
  refine q_n ?_
  refine w_seq ?_
  refine w_seq ?_
  refine w_reg rfl ?_
  refine v_move rfl ?_
  refine v_move rfl ?_
  refine v_call (cIx1 _ _) rfl rfl rfl (.cons vw_v (.cons vw_v .nil)) ?_
  refine v_assign rfl ?_
  refine v_nil ?_
  refine q_n ?_
  refine w_seq ?_
  refine w_reg rfl ?_
  refine v_move rfl ?_
  refine v_geq lay3 rfl rfl (fun h1 => ?_) (fun h1 => ?_)
  · exfalso; omega
  refine v_nil ?_
  refine q_n ?_
  refine w_f rfl ?_
  refine w_skip ?_
  refine q_n ?_
  refine w_seq ?_
  refine w_reg rfl ?_
  refine v_move rfl ?_
  refine v_assign rfl ?_
  refine v_assign (c := .v _) rfl ?_
  refine v_assign (c := .v (.bool false)) rfl ?_
  refine v_nil ?_
  refine q_n ?_
  refine w_ret ?_
  refine r_r rfl ?_
  exact a_tup (.cons tr_v (.cons tr_v (.cons tr_v .nil)))

theorem cCutG (s : List UInt8) (c : UInt8) (a b : List UInt8) (t : Bool) (hc : PureC X 46 [cS s, cS [c]] (.tup [cS a, cS b, cB t])) : PureC X 38 [cS s, cS [c]] (.tup [cS a, cS b, cB t]) := by
  refine PureC.of_body (drawD_ok X) (fun _ _ => Go.Proofs.Tryd.call38 _ _) Go.Proofs.Tryd.func38 rfl (n := 13) rfl ?_
  refine w_seq ?_
  refine w_reg rfl ?_
  refine v_assign (c := .v _) rfl ?_
  refine v_assign (c := .v _) rfl ?_
  refine v_assign (c := .v (.bool false)) rfl ?_
  refine v_nil ?_
  refine q_n ?_
  refine w_seq ?_
  refine w_reg rfl ?_
  refine v_move rfl ?_
  refine v_move rfl ?_
  refine v_call (hc) rfl rfl rfl (.cons vw_v (.cons vw_v .nil)) ?_
  refine v_extract_c rfl rfl ?_
  refine v_extract_c rfl rfl ?_
  refine v_extract_c rfl rfl ?_
  refine v_assign rfl ?_
  refine v_assign rfl ?_
  refine v_assign rfl ?_
  refine v_nil ?_
  refine q_n ?_
  refine w_ret ?_
  refine r_r rfl ?_
  exact a_tup (.cons tr_v (.cons tr_v (.cons tr_v .nil)))

theorem cCut1 {s p : List UInt8} {c : UInt8} (h : splitB c s = [p]) : PureC X 38 [cS s, cS [c]] (.tup [cS p, cS [], cB false]) := by
  obtain ⟨rfl, hx⟩ := splitB_one h
  rcases index_byte c s with ⟨h1, -⟩ | ⟨m, hm, -, -, he⟩
  · exact cCutG s c _ _ _ (cCutLF s c h1)
  · exact absurd he (hx _ (List.getElem_mem hm))
theorem cCut2 {s p b : List UInt8} {r : List (List UInt8)} {c : UInt8} (hs : s.length ≤ 1048576) (h : splitB c s = p :: b :: r) : ∃ u : List UInt8, splitB c u = b :: r ∧ u.length ≤ s.length ∧ PureC X 38 [cS s, cS [c]] (.tup [cS p, cS u, cB true]) := by
  rcases index_byte c s with ⟨-, h1⟩ | ⟨m, hm, im, hf, he⟩
  · rw [splitB_none h1] at h
    simp at h
  · rw [splitB_hit hm hf he] at h
    simp only [List.cons.injEq] at h
    obtain ⟨rfl, h2⟩ := h
    exact ⟨s.drop (m + 1), h2, by rw [List.length_drop]; omega, cCutG s c _ _ _ (cCutLT s c hs m hm im)⟩

theorem cFrS1 (s w0 : List UInt8) (wr : List (List UInt8)) (hs : s.length ≤ 1048576) (hws : splitB 47 s = w0 :: wr) : PureC X 24 [cS s] (.tup [.c (.f .f32 (frv s)), cB (frok s)]) := by
  refine PureC.of_body (drawD_ok X) (fun _ _ => Go.Proofs.Tryd.call24 _ _) Go.Proofs.Tryd.func24 rfl (n := 76) rfl ?_
  have hsp : PureC X 9 [cS s, .c (.v (.int .u8 47))] (.c (.sl true (w0 :: wr).length 1 (flat st (w0 :: wr)))) := hws ▸ cSplitS s 47 hs
  have h0 : (tx w0).size = w0.length := rfl
  have hlen : (w0 :: wr).length = wr.length + 1 := rfl
  have hst : ∀ h : wh 6 (top1 w0), ∀ t, t = top1 w0 → PureC X 14 [cS t, cI 6] (.tup [cI (nineV (top1 w0)), cB true]) := by rintro h _ rfl; exact cWhT h
  have hsf : ∀ h : ¬ wh 6 (top1 w0), ∀ t, t = top1 w0 → PureC X 14 [cS t, cI 6] (.tup [cI (whV 6 (top1 w0)), cB false]) := by rintro h _ rfl; exact cWhF h
  refine w_seq ?_
  refine w_reg rfl ?_
  refine v_assign (c := .f _ _) rfl ?_
  refine v_assign (c := .v (.bool false)) rfl ?_
  refine v_nil ?_
  refine q_n ?_
  refine w_seq ?_
  refine w_reg rfl ?_
  refine v_move rfl ?_
  refine v_call (hsp) rfl rfl rfl (.cons vw_v (.cons vw_v .nil)) ?_
  refine v_assign rfl ?_
  refine v_nil ?_
  refine q_n ?_
  refine w_seq ?_
  refine w_reg rfl ?_
  refine v_move rfl ?_
  refine v_idx_e (k := 1) (0) st_len lay28 lay9 rfl rfl rfl (rfl) rfl (rfl) (by simp) ?_
  refine v_load_vw (cS w0) lay9 rfl rfl rfl ?_
  refine v_assign rfl ?_
  refine v_nil ?_
  refine q_n ?_
  refine w_seq ?_
  refine w_reg rfl ?_
  refine v_assign (c := .v (.int .i64 1)) rfl ?_
  refine v_nil ?_
  refine q_n ?_
  refine w_seq ?_
  refine w_seq ?_
  refine w_reg rfl ?_
  refine v_move rfl ?_
  refine v_len_s lay9 rfl ?_
  refine v_gtr lay3 rfl rfl (fun h2 => ?_) (fun h2 => ?_)
  rotate_left
  · obtain ⟨hg, ew⟩ := neg_no0 (w := w0) (by omega)
    refine v_move rfl ?_
    refine v_guard_off rfl rfl rfl ?_
    refine v_guard_off rfl rfl rfl ?_
    refine v_guard_off rfl rfl rfl ?_
    refine v_pick_f (v := .v (.bool false)) rfl rfl ?_
    refine v_nil ?_
    refine q_n ?_
    refine w_f rfl ?_
    refine w_skip ?_
    refine q_n ?_
    refine w_seq ?_
    refine w_reg rfl ?_
    refine v_move rfl ?_
    refine dec_split (p := wh 6 (top1 w0)) (fun h20 => ?_) (fun h20 => ?_)
    rotate_left
    · refine v_call (hsf h20 _ ew) rfl rfl rfl (.cons vw_v (.cons vw_v .nil)) ?_
      refine v_move_t rfl ?_
      refine v_extract_c rfl rfl ?_
      refine v_extract_c rfl rfl ?_
      refine v_assign rfl ?_
      refine v_assign rfl ?_
      refine v_nil ?_
      refine q_n ?_
      refine w_seq ?_
      refine w_seq ?_
      refine w_reg rfl ?_
      refine v_move rfl ?_
      refine v_not true rfl rfl ?_
      refine v_move rfl ?_
      refine v_guard_off rfl rfl rfl ?_
      refine v_guard_off rfl rfl rfl ?_
      refine v_guard_off rfl rfl rfl ?_
      refine v_pick_t (v := .v (.bool true)) rfl rfl ?_
      refine v_nil ?_
      refine q_n ?_
      refine w_t rfl ?_
      refine w_seq ?_
      refine w_reg rfl ?_
      refine v_assign (c := .f _ _) rfl ?_
      refine v_assign (c := .v (.bool false)) rfl ?_
      refine v_nil ?_
      refine q_n ?_
      refine w_ret (q_r ?_)
      refine r_r rfl ?_
      have hfr : frac s = none := by rw [frac_at hws]; exact fr1_no (by assumption)
      obtain ⟨e1, e2⟩ := fr_none hfr
      rw [e1, e2]
      exact a_tup (.cons (tr_fe (by decide)) (.cons tr_v .nil))
    refine v_call (hst h20 _ ew) rfl rfl rfl (.cons vw_v (.cons vw_v .nil)) ?_
    refine v_move_t rfl ?_
    refine v_extract_c rfl rfl ?_
    refine v_extract_c rfl rfl ?_
    refine v_assign rfl ?_
    refine v_assign rfl ?_
    refine v_nil ?_
    refine q_n ?_
    refine w_seq ?_
    refine w_seq ?_
    refine w_reg rfl ?_
    refine v_move rfl ?_
    refine v_not false rfl rfl ?_
    refine v_move rfl ?_
    refine v_guard_on rfl rfl ?_
    refine v_move rfl ?_
    refine v_guard_on rfl rfl ?_
    refine v_len_sl lay28 rfl ?_
    refine v_guard_on rfl rfl ?_
    refine v_gtr lay3 rfl rfl (fun h21 => ?_) (fun h21 => ?_)
    · refine v_pick_f rfl rfl ?_
      refine v_nil ?_
      refine q_n ?_
      refine w_t rfl ?_
      refine w_seq ?_
      refine w_reg rfl ?_
      refine v_assign (c := .f _ _) rfl ?_
      refine v_assign (c := .v (.bool false)) rfl ?_
      refine v_nil ?_
      refine q_n ?_
      refine w_ret (q_r ?_)
      refine r_r rfl ?_
      have hfr : frac s = none := by
        rw [frac_at hws]
        rcases wr with _ | ⟨b, _ | ⟨c, r⟩⟩
        · exfalso; have : ([] : List (List UInt8)).length = 0 := rfl; omega
        · exfalso; have : [b].length = 1 := rfl; omega
        · exact fr1_many
      obtain ⟨e1, e2⟩ := fr_none hfr
      rw [e1, e2]
      exact a_tup (.cons (tr_fe (by decide)) (.cons tr_v .nil))
    refine v_pick_f rfl rfl ?_
    refine v_nil ?_
    refine q_n ?_
    refine w_f rfl ?_
    refine w_skip ?_
    refine q_n ?_
    refine w_seq ?_
    refine w_seq ?_
    refine w_reg rfl ?_
    refine v_move rfl ?_
    refine v_len_sl lay28 rfl ?_
    refine v_eql lay3 rfl rfl (fun h22 => ?_) (fun h22 => ?_)
    · obtain rfl : wr = [] := len_nil (by omega)
      refine v_nil ?_
      refine q_n ?_
      refine w_t rfl ?_
      refine w_seq ?_
      refine w_reg rfl ?_
      refine v_move rfl ?_
      refine v_move rfl ?_
      refine v_mul lay2 rfl rfl (i64r (by first | (have := wh_rng (by assumption : wh 6 (top1 w0)); omega) | omega)) ?_
      refine v_conv_if lay2 lay44 rfl ?_
      refine v_assign rfl ?_
      refine v_assign (c := .v (.bool true)) rfl ?_
      refine v_nil ?_
      refine q_n ?_
      refine w_ret (q_r ?_)
      refine r_r rfl ?_
      have hW : wh 6 (top1 w0) := by assumption
      obtain ⟨e1, e2⟩ := fr_some ((frac_at hws).trans (fr1_one hW))
      rw [e1, e2, near_small (sg_rng1 hW)]
      exact a_tup (.cons (tr_fe (congrArg (fun z => nr z) (sgp hg _))) (.cons tr_v .nil))
    obtain ⟨b, rfl⟩ : ∃ b, wr = [b] := len_one (by omega)
    refine v_nil ?_
    refine q_n ?_
    refine w_f rfl ?_
    refine w_skip ?_
    refine q_n ?_
    refine w_seq ?_
    refine w_reg rfl ?_
    refine v_move rfl ?_
    refine v_idx_e (k := 1) (1) st_len lay28 lay9 rfl rfl rfl (rfl) rfl (rfl) (Nat.le_refl 2) ?_
    refine v_load_vw (cS b) lay9 rfl rfl rfl ?_
    refine dec_split (p := wh 6 b) (fun h24 => ?_) (fun h24 => ?_)
    rotate_left
    · refine v_call (cWhF h24) rfl rfl rfl (.cons vw_v (.cons vw_v .nil)) ?_
      refine v_move_t rfl ?_
      refine v_extract_c rfl rfl ?_
      refine v_extract_c rfl rfl ?_
      refine v_assign rfl ?_
      refine v_assign rfl ?_
      refine v_nil ?_
      refine q_n ?_
      refine w_seq ?_
      refine w_seq ?_
      refine w_reg rfl ?_
      refine v_move rfl ?_
      refine v_not true rfl rfl ?_
      refine v_move rfl ?_
      refine v_guard_off rfl rfl rfl ?_
      refine v_guard_off rfl rfl rfl ?_
      refine v_pick_t (v := .v (.bool true)) rfl rfl ?_
      refine v_move rfl ?_
      refine v_guard_off rfl rfl rfl ?_
      refine v_guard_off rfl rfl rfl ?_
      refine v_pick_t (v := .v (.bool true)) rfl rfl ?_
      refine v_move rfl ?_
      refine v_guard_off rfl rfl rfl ?_
      refine v_guard_off rfl rfl rfl ?_
      refine v_guard_off rfl rfl rfl ?_
      refine v_guard_off rfl rfl rfl ?_
      refine v_guard_off rfl rfl rfl ?_
      refine v_pick_t (v := .v (.bool true)) rfl rfl ?_
      refine v_nil ?_
      refine q_n ?_
      refine w_t rfl ?_
      refine w_seq ?_
      refine w_reg rfl ?_
      refine v_assign (c := .f _ _) rfl ?_
      refine v_assign (c := .v (.bool false)) rfl ?_
      refine v_nil ?_
      refine q_n ?_
      refine w_ret (q_r ?_)
      refine r_r rfl ?_
      have hfr : frac s = none := by
        rw [frac_at hws]
        refine fr1_bad fun hb => ?_
        obtain ⟨b1, b2, b3, b4⟩ := hb
        first | omega | contradiction
      obtain ⟨e1, e2⟩ := fr_none hfr
      rw [e1, e2]
      exact a_tup (.cons (tr_fe (by decide)) (.cons tr_v .nil))
    refine v_call (cWhT h24) rfl rfl rfl (.cons vw_v (.cons vw_v .nil)) ?_
    refine v_move_t rfl ?_
    refine v_extract_c rfl rfl ?_
    refine v_extract_c rfl rfl ?_
    refine v_assign rfl ?_
    refine v_assign rfl ?_
    refine v_nil ?_
    refine q_n ?_
    refine w_seq ?_
    refine w_seq ?_
    refine w_reg rfl ?_
    refine v_move rfl ?_
    refine v_not false rfl rfl ?_
    refine v_move rfl ?_
    refine v_guard_on rfl rfl ?_
    refine v_move rfl ?_
    refine v_guard_on rfl rfl ?_
    refine v_lss lay2 rfl rfl (fun h25 => ?_) (fun h25 => ?_)
    · refine v_pick_f rfl rfl ?_
      refine v_move rfl ?_
      refine v_guard_off rfl rfl rfl ?_
      refine v_guard_off rfl rfl rfl ?_
      refine v_pick_t (v := .v (.bool true)) rfl rfl ?_
      refine v_move rfl ?_
      refine v_guard_off rfl rfl rfl ?_
      refine v_guard_off rfl rfl rfl ?_
      refine v_guard_off rfl rfl rfl ?_
      refine v_guard_off rfl rfl rfl ?_
      refine v_guard_off rfl rfl rfl ?_
      refine v_pick_t (v := .v (.bool true)) rfl rfl ?_
      refine v_nil ?_
      refine q_n ?_
      refine w_t rfl ?_
      refine w_seq ?_
      refine w_reg rfl ?_
      refine v_assign (c := .f _ _) rfl ?_
      refine v_assign (c := .v (.bool false)) rfl ?_
      refine v_nil ?_
      refine q_n ?_
      refine w_ret (q_r ?_)
      refine r_r rfl ?_
      have hfr : frac s = none := by
        rw [frac_at hws]
        refine fr1_bad fun hb => ?_
        obtain ⟨b1, b2, b3, b4⟩ := hb
        first | omega | contradiction
      obtain ⟨e1, e2⟩ := fr_none hfr
      rw [e1, e2]
      exact a_tup (.cons (tr_fe (by decide)) (.cons tr_v .nil))
    refine v_pick_f rfl rfl ?_
    refine v_move rfl ?_
    refine v_guard_on rfl rfl ?_
    refine v_move rfl ?_
    refine v_guard_on rfl rfl ?_
    refine v_gtr lay2 rfl rfl (fun h26 => ?_) (fun h26 => ?_)
    · refine v_pick_f rfl rfl ?_
      refine v_move rfl ?_
      refine v_guard_off rfl rfl rfl ?_
      refine v_guard_off rfl rfl rfl ?_
      refine v_guard_off rfl rfl rfl ?_
      refine v_guard_off rfl rfl rfl ?_
      refine v_guard_off rfl rfl rfl ?_
      refine v_pick_t (v := .v (.bool true)) rfl rfl ?_
      refine v_nil ?_
      refine q_n ?_
      refine w_t rfl ?_
      refine w_seq ?_
      refine w_reg rfl ?_
      refine v_assign (c := .f _ _) rfl ?_
      refine v_assign (c := .v (.bool false)) rfl ?_
      refine v_nil ?_
      refine q_n ?_
      refine w_ret (q_r ?_)
      refine r_r rfl ?_
      have hfr : frac s = none := by
        rw [frac_at hws]
        refine fr1_bad fun hb => ?_
        obtain ⟨b1, b2, b3, b4⟩ := hb
        first | omega | contradiction
      obtain ⟨e1, e2⟩ := fr_none hfr
      rw [e1, e2]
      exact a_tup (.cons (tr_fe (by decide)) (.cons tr_v .nil))
    refine v_pick_f rfl rfl ?_
    refine v_move rfl ?_
    refine v_guard_on rfl rfl ?_
    refine v_move rfl ?_
    refine v_guard_on rfl rfl ?_
    refine v_move rfl ?_
    refine v_guard_on rfl rfl ?_
    refine v_sub lay2 rfl rfl (i64r (by first | (have := wh_rng (by assumption : wh 6 (top1 w0)); omega) | omega)) ?_
    refine v_guard_on rfl rfl ?_
    refine v_bin (c := .v (.int .i64 (aI (nineV b)))) lay2 rfl rfl (rfl) ?_
    refine v_guard_on rfl rfl ?_
    refine v_neq lay2 rfl rfl (fun h27 => ?_) (fun h27 => ?_)
    · refine v_pick_f rfl rfl ?_
      refine v_nil ?_
      refine q_n ?_
      refine w_t rfl ?_
      refine w_seq ?_
      refine w_reg rfl ?_
      refine v_assign (c := .f _ _) rfl ?_
      refine v_assign (c := .v (.bool false)) rfl ?_
      refine v_nil ?_
      refine q_n ?_
      refine w_ret (q_r ?_)
      refine r_r rfl ?_
      have hfr : frac s = none := by
        rw [frac_at hws]
        refine fr1_bad fun hb => ?_
        obtain ⟨b1, b2, b3, b4⟩ := hb
        first | omega | contradiction
      obtain ⟨e1, e2⟩ := fr_none hfr
      rw [e1, e2]
      exact a_tup (.cons (tr_fe (by decide)) (.cons tr_v .nil))
    refine v_pick_f rfl rfl ?_
    refine v_nil ?_
    refine q_n ?_
    refine w_f rfl ?_
    refine w_skip ?_
    refine q_n ?_
    refine w_seq ?_
    refine w_reg rfl ?_
    refine v_move rfl ?_
    refine v_move rfl ?_
    refine v_mul lay2 rfl rfl (i64r (by first | (have := wh_rng (by assumption : wh 6 (top1 w0)); omega) | omega)) ?_
    refine v_conv_if lay2 lay44 rfl ?_
    refine v_move rfl ?_
    refine v_conv_if lay2 lay44 rfl ?_
    refine v_bin (c := .f _ _) lay44 rfl rfl rfl ?_
    refine v_assign rfl ?_
    refine v_assign (c := .v (.bool true)) rfl ?_
    refine v_nil ?_
    refine q_n ?_
    refine w_ret ?_
    refine r_r rfl ?_
    have hW : wh 6 (top1 w0) := by assumption
    have hob : okB b := ⟨by assumption, by omega, by omega, by omega⟩
    obtain ⟨e1, e2⟩ := fr_some ((frac_at hws).trans (fr1_two hW hob))
    rw [e1, e2]
    exact a_tup (.cons (tr_fe (congrArg (fun z => fop .quo .f32 (nr z) (nr (nineV b))) (sgp hg _))) (.cons tr_v .nil))
  refine v_move rfl ?_
  refine v_guard_on rfl rfl ?_
  refine v_move rfl ?_
  refine v_guard_on rfl rfl ?_
  refine v_sidx (0) lay9 rfl rfl (rfl) (by omega) ?_
  refine v_guard_on rfl rfl ?_
  refine v_eql lay5 rfl rfl (fun h3 => ?_) (fun h3 => ?_)
  rotate_left
  · obtain ⟨hg, ew⟩ := neg_no (w := w0) (by omega) h3
    refine v_pick_t rfl rfl ?_
    refine v_nil ?_
    refine q_n ?_
    refine w_f rfl ?_
    refine w_skip ?_
    refine q_n ?_
    refine w_seq ?_
    refine w_reg rfl ?_
    refine v_move rfl ?_
    refine dec_split (p := wh 6 (top1 w0)) (fun h12 => ?_) (fun h12 => ?_)
    rotate_left
    · refine v_call (hsf h12 _ ew) rfl rfl rfl (.cons vw_v (.cons vw_v .nil)) ?_
      refine v_move_t rfl ?_
      refine v_extract_c rfl rfl ?_
      refine v_extract_c rfl rfl ?_
      refine v_assign rfl ?_
      refine v_assign rfl ?_
      refine v_nil ?_
      refine q_n ?_
      refine w_seq ?_
      refine w_seq ?_
      refine w_reg rfl ?_
      refine v_move rfl ?_
      refine v_not true rfl rfl ?_
      refine v_move rfl ?_
      refine v_guard_off rfl rfl rfl ?_
      refine v_guard_off rfl rfl rfl ?_
      refine v_guard_off rfl rfl rfl ?_
      refine v_pick_t (v := .v (.bool true)) rfl rfl ?_
      refine v_nil ?_
      refine q_n ?_
      refine w_t rfl ?_
      refine w_seq ?_
      refine w_reg rfl ?_
      refine v_assign (c := .f _ _) rfl ?_
      refine v_assign (c := .v (.bool false)) rfl ?_
      refine v_nil ?_
      refine q_n ?_
      refine w_ret (q_r ?_)
      refine r_r rfl ?_
      have hfr : frac s = none := by rw [frac_at hws]; exact fr1_no (by assumption)
      obtain ⟨e1, e2⟩ := fr_none hfr
      rw [e1, e2]
      exact a_tup (.cons (tr_fe (by decide)) (.cons tr_v .nil))
    refine v_call (hst h12 _ ew) rfl rfl rfl (.cons vw_v (.cons vw_v .nil)) ?_
    refine v_move_t rfl ?_
    refine v_extract_c rfl rfl ?_
    refine v_extract_c rfl rfl ?_
    refine v_assign rfl ?_
    refine v_assign rfl ?_
    refine v_nil ?_
    refine q_n ?_
    refine w_seq ?_
    refine w_seq ?_
    refine w_reg rfl ?_
    refine v_move rfl ?_
    refine v_not false rfl rfl ?_
    refine v_move rfl ?_
    refine v_guard_on rfl rfl ?_
    refine v_move rfl ?_
    refine v_guard_on rfl rfl ?_
    refine v_len_sl lay28 rfl ?_
    refine v_guard_on rfl rfl ?_
    refine v_gtr lay3 rfl rfl (fun h13 => ?_) (fun h13 => ?_)
    · refine v_pick_f rfl rfl ?_
      refine v_nil ?_
      refine q_n ?_
      refine w_t rfl ?_
      refine w_seq ?_
      refine w_reg rfl ?_
      refine v_assign (c := .f _ _) rfl ?_
      refine v_assign (c := .v (.bool false)) rfl ?_
      refine v_nil ?_
      refine q_n ?_
      refine w_ret (q_r ?_)
      refine r_r rfl ?_
      have hfr : frac s = none := by
        rw [frac_at hws]
        rcases wr with _ | ⟨b, _ | ⟨c, r⟩⟩
        · exfalso; have : ([] : List (List UInt8)).length = 0 := rfl; omega
        · exfalso; have : [b].length = 1 := rfl; omega
        · exact fr1_many
      obtain ⟨e1, e2⟩ := fr_none hfr
      rw [e1, e2]
      exact a_tup (.cons (tr_fe (by decide)) (.cons tr_v .nil))
    refine v_pick_f rfl rfl ?_
    refine v_nil ?_
    refine q_n ?_
    refine w_f rfl ?_
    refine w_skip ?_
    refine q_n ?_
    refine w_seq ?_
    refine w_seq ?_
    refine w_reg rfl ?_
    refine v_move rfl ?_
    refine v_len_sl lay28 rfl ?_
    refine v_eql lay3 rfl rfl (fun h14 => ?_) (fun h14 => ?_)
    · obtain rfl : wr = [] := len_nil (by omega)
      refine v_nil ?_
      refine q_n ?_
      refine w_t rfl ?_
      refine w_seq ?_
      refine w_reg rfl ?_
      refine v_move rfl ?_
      refine v_move rfl ?_
      refine v_mul lay2 rfl rfl (i64r (by first | (have := wh_rng (by assumption : wh 6 (top1 w0)); omega) | omega)) ?_
      refine v_conv_if lay2 lay44 rfl ?_
      refine v_assign rfl ?_
      refine v_assign (c := .v (.bool true)) rfl ?_
      refine v_nil ?_
      refine q_n ?_
      refine w_ret (q_r ?_)
      refine r_r rfl ?_
      have hW : wh 6 (top1 w0) := by assumption
      obtain ⟨e1, e2⟩ := fr_some ((frac_at hws).trans (fr1_one hW))
      rw [e1, e2, near_small (sg_rng1 hW)]
      exact a_tup (.cons (tr_fe (congrArg (fun z => nr z) (sgp hg _))) (.cons tr_v .nil))
    obtain ⟨b, rfl⟩ : ∃ b, wr = [b] := len_one (by omega)
    refine v_nil ?_
    refine q_n ?_
    refine w_f rfl ?_
    refine w_skip ?_
    refine q_n ?_
    refine w_seq ?_
    refine w_reg rfl ?_
    refine v_move rfl ?_
    refine v_idx_e (k := 1) (1) st_len lay28 lay9 rfl rfl rfl (rfl) rfl (rfl) (Nat.le_refl 2) ?_
    refine v_load_vw (cS b) lay9 rfl rfl rfl ?_
    refine dec_split (p := wh 6 b) (fun h16 => ?_) (fun h16 => ?_)
    rotate_left
    · refine v_call (cWhF h16) rfl rfl rfl (.cons vw_v (.cons vw_v .nil)) ?_
      refine v_move_t rfl ?_
      refine v_extract_c rfl rfl ?_
      refine v_extract_c rfl rfl ?_
      refine v_assign rfl ?_
      refine v_assign rfl ?_
      refine v_nil ?_
      refine q_n ?_
      refine w_seq ?_
      refine w_seq ?_
      refine w_reg rfl ?_
      refine v_move rfl ?_
      refine v_not true rfl rfl ?_
      refine v_move rfl ?_
      refine v_guard_off rfl rfl rfl ?_
      refine v_guard_off rfl rfl rfl ?_
      refine v_pick_t (v := .v (.bool true)) rfl rfl ?_
      refine v_move rfl ?_
      refine v_guard_off rfl rfl rfl ?_
      refine v_guard_off rfl rfl rfl ?_
      refine v_pick_t (v := .v (.bool true)) rfl rfl ?_
      refine v_move rfl ?_
      refine v_guard_off rfl rfl rfl ?_
      refine v_guard_off rfl rfl rfl ?_
      refine v_guard_off rfl rfl rfl ?_
      refine v_guard_off rfl rfl rfl ?_
      refine v_guard_off rfl rfl rfl ?_
      refine v_pick_t (v := .v (.bool true)) rfl rfl ?_
      refine v_nil ?_
      refine q_n ?_
      refine w_t rfl ?_
      refine w_seq ?_
      refine w_reg rfl ?_
      refine v_assign (c := .f _ _) rfl ?_
      refine v_assign (c := .v (.bool false)) rfl ?_
      refine v_nil ?_
      refine q_n ?_
      refine w_ret (q_r ?_)
      refine r_r rfl ?_
      have hfr : frac s = none := by
        rw [frac_at hws]
        refine fr1_bad fun hb => ?_
        obtain ⟨b1, b2, b3, b4⟩ := hb
        first | omega | contradiction
      obtain ⟨e1, e2⟩ := fr_none hfr
      rw [e1, e2]
      exact a_tup (.cons (tr_fe (by decide)) (.cons tr_v .nil))
    refine v_call (cWhT h16) rfl rfl rfl (.cons vw_v (.cons vw_v .nil)) ?_
    refine v_move_t rfl ?_
    refine v_extract_c rfl rfl ?_
    refine v_extract_c rfl rfl ?_
    refine v_assign rfl ?_
    refine v_assign rfl ?_
    refine v_nil ?_
    refine q_n ?_
    refine w_seq ?_
    refine w_seq ?_
    refine w_reg rfl ?_
    refine v_move rfl ?_
    refine v_not false rfl rfl ?_
    refine v_move rfl ?_
    refine v_guard_on rfl rfl ?_
    refine v_move rfl ?_
    refine v_guard_on rfl rfl ?_
    refine v_lss lay2 rfl rfl (fun h17 => ?_) (fun h17 => ?_)
    · refine v_pick_f rfl rfl ?_
      refine v_move rfl ?_
      refine v_guard_off rfl rfl rfl ?_
      refine v_guard_off rfl rfl rfl ?_
      refine v_pick_t (v := .v (.bool true)) rfl rfl ?_
      refine v_move rfl ?_
      refine v_guard_off rfl rfl rfl ?_
      refine v_guard_off rfl rfl rfl ?_
      refine v_guard_off rfl rfl rfl ?_
      refine v_guard_off rfl rfl rfl ?_
      refine v_guard_off rfl rfl rfl ?_
      refine v_pick_t (v := .v (.bool true)) rfl rfl ?_
      refine v_nil ?_
      refine q_n ?_
      refine w_t rfl ?_
      refine w_seq ?_
      refine w_reg rfl ?_
      refine v_assign (c := .f _ _) rfl ?_
      refine v_assign (c := .v (.bool false)) rfl ?_
      refine v_nil ?_
      refine q_n ?_
      refine w_ret (q_r ?_)
      refine r_r rfl ?_
      have hfr : frac s = none := by
        rw [frac_at hws]
        refine fr1_bad fun hb => ?_
        obtain ⟨b1, b2, b3, b4⟩ := hb
        first | omega | contradiction
      obtain ⟨e1, e2⟩ := fr_none hfr
      rw [e1, e2]
      exact a_tup (.cons (tr_fe (by decide)) (.cons tr_v .nil))
    refine v_pick_f rfl rfl ?_
    refine v_move rfl ?_
    refine v_guard_on rfl rfl ?_
    refine v_move rfl ?_
    refine v_guard_on rfl rfl ?_
    refine v_gtr lay2 rfl rfl (fun h18 => ?_) (fun h18 => ?_)
    · refine v_pick_f rfl rfl ?_
      refine v_move rfl ?_
      refine v_guard_off rfl rfl rfl ?_
      refine v_guard_off rfl rfl rfl ?_
      refine v_guard_off rfl rfl rfl ?_
      refine v_guard_off rfl rfl rfl ?_
      refine v_guard_off rfl rfl rfl ?_
      refine v_pick_t (v := .v (.bool true)) rfl rfl ?_
      refine v_nil ?_
      refine q_n ?_
      refine w_t rfl ?_
      refine w_seq ?_
      refine w_reg rfl ?_
      refine v_assign (c := .f _ _) rfl ?_
      refine v_assign (c := .v (.bool false)) rfl ?_
      refine v_nil ?_
      refine q_n ?_
      refine w_ret (q_r ?_)
      refine r_r rfl ?_
      have hfr : frac s = none := by
        rw [frac_at hws]
        refine fr1_bad fun hb => ?_
        obtain ⟨b1, b2, b3, b4⟩ := hb
        first | omega | contradiction
      obtain ⟨e1, e2⟩ := fr_none hfr
      rw [e1, e2]
      exact a_tup (.cons (tr_fe (by decide)) (.cons tr_v .nil))
    refine v_pick_f rfl rfl ?_
    refine v_move rfl ?_
    refine v_guard_on rfl rfl ?_
    refine v_move rfl ?_
    refine v_guard_on rfl rfl ?_
    refine v_move rfl ?_
    refine v_guard_on rfl rfl ?_
    refine v_sub lay2 rfl rfl (i64r (by first | (have := wh_rng (by assumption : wh 6 (top1 w0)); omega) | omega)) ?_
    refine v_guard_on rfl rfl ?_
    refine v_bin (c := .v (.int .i64 (aI (nineV b)))) lay2 rfl rfl (rfl) ?_
    refine v_guard_on rfl rfl ?_
    refine v_neq lay2 rfl rfl (fun h19 => ?_) (fun h19 => ?_)
    · refine v_pick_f rfl rfl ?_
      refine v_nil ?_
      refine q_n ?_
      refine w_t rfl ?_
      refine w_seq ?_
      refine w_reg rfl ?_
      refine v_assign (c := .f _ _) rfl ?_
      refine v_assign (c := .v (.bool false)) rfl ?_
      refine v_nil ?_
      refine q_n ?_
      refine w_ret (q_r ?_)
      refine r_r rfl ?_
      have hfr : frac s = none := by
        rw [frac_at hws]
        refine fr1_bad fun hb => ?_
        obtain ⟨b1, b2, b3, b4⟩ := hb
        first | omega | contradiction
      obtain ⟨e1, e2⟩ := fr_none hfr
      rw [e1, e2]
      exact a_tup (.cons (tr_fe (by decide)) (.cons tr_v .nil))
    refine v_pick_f rfl rfl ?_
    refine v_nil ?_
    refine q_n ?_
    refine w_f rfl ?_
    refine w_skip ?_
    refine q_n ?_
    refine w_seq ?_
    refine w_reg rfl ?_
    refine v_move rfl ?_
    refine v_move rfl ?_
    refine v_mul lay2 rfl rfl (i64r (by first | (have := wh_rng (by assumption : wh 6 (top1 w0)); omega) | omega)) ?_
    refine v_conv_if lay2 lay44 rfl ?_
    refine v_move rfl ?_
    refine v_conv_if lay2 lay44 rfl ?_
    refine v_bin (c := .f _ _) lay44 rfl rfl rfl ?_
    refine v_assign rfl ?_
    refine v_assign (c := .v (.bool true)) rfl ?_
    refine v_nil ?_
    refine q_n ?_
    refine w_ret ?_
    refine r_r rfl ?_
    have hW : wh 6 (top1 w0) := by assumption
    have hob : okB b := ⟨by assumption, by omega, by omega, by omega⟩
    obtain ⟨e1, e2⟩ := fr_some ((frac_at hws).trans (fr1_two hW hob))
    rw [e1, e2]
    exact a_tup (.cons (tr_fe (congrArg (fun z => fop .quo .f32 (nr z) (nr (nineV b))) (sgp hg _))) (.cons tr_v .nil))
  obtain ⟨hg, ew⟩ := neg_yes (w := w0) (by omega) h3
  refine v_pick_t rfl rfl ?_
  refine v_nil ?_
  refine q_n ?_
  refine w_t rfl ?_
  refine w_seq ?_
  refine w_reg rfl ?_
  refine v_assign (c := .v (.int .i64 (-1))) rfl ?_
  refine v_nil ?_
  refine q_n ?_
  refine w_reg rfl ?_
  refine v_move rfl ?_
  refine v_sslice (1) (w0.length) lay9 rfl rfl rfl (rfl) (rfl) (⟨by omega, Nat.le_refl _⟩) ?_
  refine v_assign rfl ?_
  refine v_nil ?_
  refine q_n ?_
  refine w_seq ?_
  refine w_reg rfl ?_
  refine v_move rfl ?_
  refine dec_split (p := wh 6 (top1 w0)) (fun h4 => ?_) (fun h4 => ?_)
  rotate_left
  · refine v_call (hsf h4 _ ew) rfl rfl rfl (.cons vw_v (.cons vw_v .nil)) ?_
    refine v_move_t rfl ?_
    refine v_extract_c rfl rfl ?_
    refine v_extract_c rfl rfl ?_
    refine v_assign rfl ?_
    refine v_assign rfl ?_
    refine v_nil ?_
    refine q_n ?_
    refine w_seq ?_
    refine w_seq ?_
    refine w_reg rfl ?_
    refine v_move rfl ?_
    refine v_not true rfl rfl ?_
    refine v_move rfl ?_
    refine v_guard_off rfl rfl rfl ?_
    refine v_guard_off rfl rfl rfl ?_
    refine v_guard_off rfl rfl rfl ?_
    refine v_pick_t (v := .v (.bool true)) rfl rfl ?_
    refine v_nil ?_
    refine q_n ?_
    refine w_t rfl ?_
    refine w_seq ?_
    refine w_reg rfl ?_
    refine v_assign (c := .f _ _) rfl ?_
    refine v_assign (c := .v (.bool false)) rfl ?_
    refine v_nil ?_
    refine q_n ?_
    refine w_ret (q_r ?_)
    refine r_r rfl ?_
    have hfr : frac s = none := by rw [frac_at hws]; exact fr1_no (by assumption)
    obtain ⟨e1, e2⟩ := fr_none hfr
    rw [e1, e2]
    exact a_tup (.cons (tr_fe (by decide)) (.cons tr_v .nil))
  refine v_call (hst h4 _ ew) rfl rfl rfl (.cons vw_v (.cons vw_v .nil)) ?_
  refine v_move_t rfl ?_
  refine v_extract_c rfl rfl ?_
  refine v_extract_c rfl rfl ?_
  refine v_assign rfl ?_
  refine v_assign rfl ?_
  refine v_nil ?_
  refine q_n ?_
  refine w_seq ?_
  refine w_seq ?_
  refine w_reg rfl ?_
  refine v_move rfl ?_
  refine v_not false rfl rfl ?_
  refine v_move rfl ?_
  refine v_guard_on rfl rfl ?_
  refine v_move rfl ?_
  refine v_guard_on rfl rfl ?_
  refine v_len_sl lay28 rfl ?_
  refine v_guard_on rfl rfl ?_
  refine v_gtr lay3 rfl rfl (fun h5 => ?_) (fun h5 => ?_)
  · refine v_pick_f rfl rfl ?_
    refine v_nil ?_
    refine q_n ?_
    refine w_t rfl ?_
    refine w_seq ?_
    refine w_reg rfl ?_
    refine v_assign (c := .f _ _) rfl ?_
    refine v_assign (c := .v (.bool false)) rfl ?_
    refine v_nil ?_
    refine q_n ?_
    refine w_ret (q_r ?_)
    refine r_r rfl ?_
    have hfr : frac s = none := by
      rw [frac_at hws]
      rcases wr with _ | ⟨b, _ | ⟨c, r⟩⟩
      · exfalso; have : ([] : List (List UInt8)).length = 0 := rfl; omega
      · exfalso; have : [b].length = 1 := rfl; omega
      · exact fr1_many
    obtain ⟨e1, e2⟩ := fr_none hfr
    rw [e1, e2]
    exact a_tup (.cons (tr_fe (by decide)) (.cons tr_v .nil))
  refine v_pick_f rfl rfl ?_
  refine v_nil ?_
  refine q_n ?_
  refine w_f rfl ?_
  refine w_skip ?_
  refine q_n ?_
  refine w_seq ?_
  refine w_seq ?_
  refine w_reg rfl ?_
  refine v_move rfl ?_
  refine v_len_sl lay28 rfl ?_
  refine v_eql lay3 rfl rfl (fun h6 => ?_) (fun h6 => ?_)
  · obtain rfl : wr = [] := len_nil (by omega)
    refine v_nil ?_
    refine q_n ?_
    refine w_t rfl ?_
    refine w_seq ?_
    refine w_reg rfl ?_
    refine v_move rfl ?_
    refine v_move rfl ?_
    refine v_mul lay2 rfl rfl (i64r (by first | (have := wh_rng (by assumption : wh 6 (top1 w0)); omega) | omega)) ?_
    refine v_conv_if lay2 lay44 rfl ?_
    refine v_assign rfl ?_
    refine v_assign (c := .v (.bool true)) rfl ?_
    refine v_nil ?_
    refine q_n ?_
    refine w_ret (q_r ?_)
    refine r_r rfl ?_
    have hW : wh 6 (top1 w0) := by assumption
    obtain ⟨e1, e2⟩ := fr_some ((frac_at hws).trans (fr1_one hW))
    rw [e1, e2, near_small (sg_rng1 hW)]
    exact a_tup (.cons (tr_fe (congrArg (fun z => nr z) (sgm hg _))) (.cons tr_v .nil))
  obtain ⟨b, rfl⟩ : ∃ b, wr = [b] := len_one (by omega)
  refine v_nil ?_
  refine q_n ?_
  refine w_f rfl ?_
  refine w_skip ?_
  refine q_n ?_
  refine w_seq ?_
  refine w_reg rfl ?_
  refine v_move rfl ?_
  refine v_idx_e (k := 1) (1) st_len lay28 lay9 rfl rfl rfl (rfl) rfl (rfl) (Nat.le_refl 2) ?_
  refine v_load_vw (cS b) lay9 rfl rfl rfl ?_
  refine dec_split (p := wh 6 b) (fun h8 => ?_) (fun h8 => ?_)
  rotate_left
  · refine v_call (cWhF h8) rfl rfl rfl (.cons vw_v (.cons vw_v .nil)) ?_
    refine v_move_t rfl ?_
    refine v_extract_c rfl rfl ?_
    refine v_extract_c rfl rfl ?_
    refine v_assign rfl ?_
    refine v_assign rfl ?_
    refine v_nil ?_
    refine q_n ?_
    refine w_seq ?_
    refine w_seq ?_
    refine w_reg rfl ?_
    refine v_move rfl ?_
    refine v_not true rfl rfl ?_
    refine v_move rfl ?_
    refine v_guard_off rfl rfl rfl ?_
    refine v_guard_off rfl rfl rfl ?_
    refine v_pick_t (v := .v (.bool true)) rfl rfl ?_
    refine v_move rfl ?_
    refine v_guard_off rfl rfl rfl ?_
    refine v_guard_off rfl rfl rfl ?_
    refine v_pick_t (v := .v (.bool true)) rfl rfl ?_
    refine v_move rfl ?_
    refine v_guard_off rfl rfl rfl ?_
    refine v_guard_off rfl rfl rfl ?_
    refine v_guard_off rfl rfl rfl ?_
    refine v_guard_off rfl rfl rfl ?_
    refine v_guard_off rfl rfl rfl ?_
    refine v_pick_t (v := .v (.bool true)) rfl rfl ?_
    refine v_nil ?_
    refine q_n ?_
    refine w_t rfl ?_
    refine w_seq ?_
    refine w_reg rfl ?_
    refine v_assign (c := .f _ _) rfl ?_
    refine v_assign (c := .v (.bool false)) rfl ?_
    refine v_nil ?_
    refine q_n ?_
    refine w_ret (q_r ?_)
    refine r_r rfl ?_
    have hfr : frac s = none := by
      rw [frac_at hws]
      refine fr1_bad fun hb => ?_
      obtain ⟨b1, b2, b3, b4⟩ := hb
      first | omega | contradiction
    obtain ⟨e1, e2⟩ := fr_none hfr
    rw [e1, e2]
    exact a_tup (.cons (tr_fe (by decide)) (.cons tr_v .nil))
  refine v_call (cWhT h8) rfl rfl rfl (.cons vw_v (.cons vw_v .nil)) ?_
  refine v_move_t rfl ?_
  refine v_extract_c rfl rfl ?_
  refine v_extract_c rfl rfl ?_
  refine v_assign rfl ?_
  refine v_assign rfl ?_
  refine v_nil ?_
  refine q_n ?_
  refine w_seq ?_
  refine w_seq ?_
  refine w_reg rfl ?_
  refine v_move rfl ?_
  refine v_not false rfl rfl ?_
  refine v_move rfl ?_
  refine v_guard_on rfl rfl ?_
  refine v_move rfl ?_
  refine v_guard_on rfl rfl ?_
  refine v_lss lay2 rfl rfl (fun h9 => ?_) (fun h9 => ?_)
  · refine v_pick_f rfl rfl ?_
    refine v_move rfl ?_
    refine v_guard_off rfl rfl rfl ?_
    refine v_guard_off rfl rfl rfl ?_
    refine v_pick_t (v := .v (.bool true)) rfl rfl ?_
    refine v_move rfl ?_
    refine v_guard_off rfl rfl rfl ?_
    refine v_guard_off rfl rfl rfl ?_
    refine v_guard_off rfl rfl rfl ?_
    refine v_guard_off rfl rfl rfl ?_
    refine v_guard_off rfl rfl rfl ?_
    refine v_pick_t (v := .v (.bool true)) rfl rfl ?_
    refine v_nil ?_
    refine q_n ?_
    refine w_t rfl ?_
    refine w_seq ?_
    refine w_reg rfl ?_
    refine v_assign (c := .f _ _) rfl ?_
    refine v_assign (c := .v (.bool false)) rfl ?_
    refine v_nil ?_
    refine q_n ?_
    refine w_ret (q_r ?_)
    refine r_r rfl ?_
    have hfr : frac s = none := by
      rw [frac_at hws]
      refine fr1_bad fun hb => ?_
      obtain ⟨b1, b2, b3, b4⟩ := hb
      first | omega | contradiction
    obtain ⟨e1, e2⟩ := fr_none hfr
    rw [e1, e2]
    exact a_tup (.cons (tr_fe (by decide)) (.cons tr_v .nil))
  refine v_pick_f rfl rfl ?_
  refine v_move rfl ?_
  refine v_guard_on rfl rfl ?_
  refine v_move rfl ?_
  refine v_guard_on rfl rfl ?_
  refine v_gtr lay2 rfl rfl (fun h10 => ?_) (fun h10 => ?_)
  · refine v_pick_f rfl rfl ?_
    refine v_move rfl ?_
    refine v_guard_off rfl rfl rfl ?_
    refine v_guard_off rfl rfl rfl ?_
    refine v_guard_off rfl rfl rfl ?_
    refine v_guard_off rfl rfl rfl ?_
    refine v_guard_off rfl rfl rfl ?_
    refine v_pick_t (v := .v (.bool true)) rfl rfl ?_
    refine v_nil ?_
    refine q_n ?_
    refine w_t rfl ?_
    refine w_seq ?_
    refine w_reg rfl ?_
    refine v_assign (c := .f _ _) rfl ?_
    refine v_assign (c := .v (.bool false)) rfl ?_
    refine v_nil ?_
    refine q_n ?_
    refine w_ret (q_r ?_)
    refine r_r rfl ?_
    have hfr : frac s = none := by
      rw [frac_at hws]
      refine fr1_bad fun hb => ?_
      obtain ⟨b1, b2, b3, b4⟩ := hb
      first | omega | contradiction
    obtain ⟨e1, e2⟩ := fr_none hfr
    rw [e1, e2]
    exact a_tup (.cons (tr_fe (by decide)) (.cons tr_v .nil))
  refine v_pick_f rfl rfl ?_
  refine v_move rfl ?_
  refine v_guard_on rfl rfl ?_
  refine v_move rfl ?_
  refine v_guard_on rfl rfl ?_
  refine v_move rfl ?_
  refine v_guard_on rfl rfl ?_
  refine v_sub lay2 rfl rfl (i64r (by first | (have := wh_rng (by assumption : wh 6 (top1 w0)); omega) | omega)) ?_
  refine v_guard_on rfl rfl ?_
  refine v_bin (c := .v (.int .i64 (aI (nineV b)))) lay2 rfl rfl (rfl) ?_
  refine v_guard_on rfl rfl ?_
  refine v_neq lay2 rfl rfl (fun h11 => ?_) (fun h11 => ?_)
  · refine v_pick_f rfl rfl ?_
    refine v_nil ?_
    refine q_n ?_
    refine w_t rfl ?_
    refine w_seq ?_
    refine w_reg rfl ?_
    refine v_assign (c := .f _ _) rfl ?_
    refine v_assign (c := .v (.bool false)) rfl ?_
    refine v_nil ?_
    refine q_n ?_
    refine w_ret (q_r ?_)
    refine r_r rfl ?_
    have hfr : frac s = none := by
      rw [frac_at hws]
      refine fr1_bad fun hb => ?_
      obtain ⟨b1, b2, b3, b4⟩ := hb
      first | omega | contradiction
    obtain ⟨e1, e2⟩ := fr_none hfr
    rw [e1, e2]
    exact a_tup (.cons (tr_fe (by decide)) (.cons tr_v .nil))
  refine v_pick_f rfl rfl ?_
  refine v_nil ?_
  refine q_n ?_
  refine w_f rfl ?_
  refine w_skip ?_
  refine q_n ?_
  refine w_seq ?_
  refine w_reg rfl ?_
  refine v_move rfl ?_
  refine v_move rfl ?_
  refine v_mul lay2 rfl rfl (i64r (by first | (have := wh_rng (by assumption : wh 6 (top1 w0)); omega) | omega)) ?_
  refine v_conv_if lay2 lay44 rfl ?_
  refine v_move rfl ?_
  refine v_conv_if lay2 lay44 rfl ?_
  refine v_bin (c := .f _ _) lay44 rfl rfl rfl ?_
  refine v_assign rfl ?_
  refine v_assign (c := .v (.bool true)) rfl ?_
  refine v_nil ?_
  refine q_n ?_
  refine w_ret ?_
  refine r_r rfl ?_
  have hW : wh 6 (top1 w0) := by assumption
  have hob : okB b := ⟨by assumption, by omega, by omega, by omega⟩
  obtain ⟨e1, e2⟩ := fr_some ((frac_at hws).trans (fr1_two hW hob))
  rw [e1, e2]
  exact a_tup (.cons (tr_fe (congrArg (fun z => fop .quo .f32 (nr z) (nr (nineV b))) (sgm hg _))) (.cons tr_v .nil))

theorem cFrI0 (s w0 : List UInt8) (hws : splitB 47 s = [w0]) (hs : s.length ≤ 1048576) : PureC X 32 [cS s] (.tup [.c (.f .f32 (frv s)), cB (frok s)]) := by
  refine PureC.of_body (drawD_ok X) (fun _ _ => Go.Proofs.Tryd.call32 _ _) Go.Proofs.Tryd.func32 rfl (n := 61) rfl ?_
  have hlw : (top1 w0).length ≤ 1048576 := Nat.le_trans (splitB_part 47 (top1 s) _ (by rw [(split_top hws).2]; simp)) (Nat.le_trans (top1_le s) hs)
  refine w_seq ?_
  refine w_reg rfl ?_
  refine v_assign (c := .f _ _) rfl ?_
  refine v_assign (c := .v (.bool false)) rfl ?_
  refine v_nil ?_
  refine q_n ?_
  refine w_seq ?_
  refine w_reg rfl ?_
  refine v_move rfl ?_
  refine dec_split (p := neg1 s = true) (fun h1 => ?_) (fun h1 => ?_)
  rotate_left
  · refine v_call (cCpF h1) rfl rfl rfl (.cons vw_v (.cons vw_v .nil)) ?_
    refine v_move_t rfl ?_
    refine v_extract_c rfl rfl ?_
    refine v_extract_c rfl rfl ?_
    refine v_assign rfl ?_
    refine v_assign rfl ?_
    refine v_nil ?_
    refine q_n ?_
    refine w_seq ?_
    refine w_reg rfl ?_
    refine v_move rfl ?_
    refine v_call (cCut1 (split_top hws).2) rfl rfl rfl (.cons vw_v (.cons vw_v .nil)) ?_
    refine v_move_t rfl ?_
    refine v_extract_c rfl rfl ?_
    refine v_extract_c rfl rfl ?_
    refine v_extract_c rfl rfl ?_
    refine v_assign rfl ?_
    refine v_assign rfl ?_
    refine v_assign rfl ?_
    refine v_nil ?_
    refine q_n ?_
    refine w_seq ?_
    refine w_reg rfl ?_
    refine v_move rfl ?_
    refine dec_split (p := wh 6 (top1 w0)) (fun h3 => ?_) (fun h3 => ?_)
    rotate_left
    · refine v_call (cWiF (by decide) hlw h3) rfl rfl rfl (.cons vw_v (.cons vw_v .nil)) ?_
      refine v_move_t rfl ?_
      refine v_extract_c rfl rfl ?_
      refine v_extract_c rfl rfl ?_
      refine v_assign rfl ?_
      refine v_assign rfl ?_
      refine v_nil ?_
      refine q_n ?_
      refine w_seq ?_
      refine w_reg rfl ?_
      refine v_assign (c := .v (.int .i64 1)) rfl ?_
      refine v_nil ?_
      refine q_n ?_
      refine w_seq ?_
      refine w_seq ?_
      refine w_reg rfl ?_
      refine v_move rfl ?_
      refine v_nil ?_
      refine q_n ?_
      refine w_f rfl ?_
      refine w_skip ?_
      refine q_n ?_
      refine w_seq ?_
      refine w_seq ?_
      refine w_reg rfl ?_
      refine v_move rfl ?_
      refine v_not true rfl rfl ?_
      refine v_nil ?_
      refine q_n ?_
      refine w_t rfl ?_
      refine w_seq ?_
      refine w_reg rfl ?_
      refine v_assign (c := .f _ _) rfl ?_
      refine v_assign (c := .v (.bool false)) rfl ?_
      refine v_nil ?_
      refine q_n ?_
      refine w_ret (q_r ?_)
      refine r_r rfl ?_
      have hfr : frac s = none := by rw [frac_at hws]; exact fr1_no (by assumption)
      obtain ⟨e1, e2⟩ := fr_none hfr
      rw [e1, e2]
      exact a_tup (.cons (tr_fe (by decide)) (.cons tr_v .nil))
    refine v_call (cWiT (by decide) hlw h3) rfl rfl rfl (.cons vw_v (.cons vw_v .nil)) ?_
    refine v_move_t rfl ?_
    refine v_extract_c rfl rfl ?_
    refine v_extract_c rfl rfl ?_
    refine v_assign rfl ?_
    refine v_assign rfl ?_
    refine v_nil ?_
    refine q_n ?_
    refine w_seq ?_
    refine w_reg rfl ?_
    refine v_assign (c := .v (.int .i64 1)) rfl ?_
    refine v_nil ?_
    refine q_n ?_
    refine w_seq ?_
    refine w_seq ?_
    refine w_reg rfl ?_
    refine v_move rfl ?_
    refine v_nil ?_
    refine q_n ?_
    refine w_f rfl ?_
    refine w_skip ?_
    refine q_n ?_
    refine w_seq ?_
    refine w_seq ?_
    refine w_reg rfl ?_
    refine v_move rfl ?_
    refine v_not false rfl rfl ?_
    refine v_nil ?_
    refine q_n ?_
    refine w_f rfl ?_
    refine w_skip ?_
    refine q_n ?_
    refine w_seq ?_
    refine w_seq ?_
    refine w_reg rfl ?_
    refine v_move rfl ?_
    refine v_nil ?_
    refine q_n ?_
    refine w_f rfl ?_
    refine w_skip ?_
    refine q_n ?_
    refine w_seq ?_
    refine w_reg rfl ?_
    refine v_move rfl ?_
    refine v_conv_if lay2 lay44 rfl ?_
    refine v_move rfl ?_
    refine v_conv_if lay2 lay44 rfl ?_
    refine v_bin (c := .f _ _) lay44 rfl rfl rfl ?_
    refine v_assign rfl ?_
    refine v_assign (c := .v (.bool true)) rfl ?_
    refine v_nil ?_
    refine q_n ?_
    refine w_ret ?_
    refine r_r rfl ?_
    have hg : neg1 w0 = false := by first | exact (split_top hws).1.symm.trans (by assumption) | exact (split_top hws).1.symm.trans (eq_false_of_ne_true (by assumption))
    have hW : wh 6 (top1 w0) := by assumption
    obtain ⟨e1, e2⟩ := fr_some ((frac_at hws).trans (fr1_one hW))
    rw [e1, e2]
    exact a_tup (.cons (tr_fe (congrArg (fun z => fop .quo .f32 (nr z) (nr 1)) (sgj hg _))) (.cons tr_v .nil))
  refine v_call (cCpT h1) rfl rfl rfl (.cons vw_v (.cons vw_v .nil)) ?_
  refine v_move_t rfl ?_
  refine v_extract_c rfl rfl ?_
  refine v_extract_c rfl rfl ?_
  refine v_assign rfl ?_
  refine v_assign rfl ?_
  refine v_nil ?_
  refine q_n ?_
  refine w_seq ?_
  refine w_reg rfl ?_
  refine v_move rfl ?_
  refine v_call (cCut1 (split_top hws).2) rfl rfl rfl (.cons vw_v (.cons vw_v .nil)) ?_
  refine v_move_t rfl ?_
  refine v_extract_c rfl rfl ?_
  refine v_extract_c rfl rfl ?_
  refine v_extract_c rfl rfl ?_
  refine v_assign rfl ?_
  refine v_assign rfl ?_
  refine v_assign rfl ?_
  refine v_nil ?_
  refine q_n ?_
  refine w_seq ?_
  refine w_reg rfl ?_
  refine v_move rfl ?_
  refine dec_split (p := wh 6 (top1 w0)) (fun h2 => ?_) (fun h2 => ?_)
  rotate_left
  · refine v_call (cWiF (by decide) hlw h2) rfl rfl rfl (.cons vw_v (.cons vw_v .nil)) ?_
    refine v_move_t rfl ?_
    refine v_extract_c rfl rfl ?_
    refine v_extract_c rfl rfl ?_
    refine v_assign rfl ?_
    refine v_assign rfl ?_
    refine v_nil ?_
    refine q_n ?_
    refine w_seq ?_
    refine w_reg rfl ?_
    refine v_assign (c := .v (.int .i64 1)) rfl ?_
    refine v_nil ?_
    refine q_n ?_
    refine w_seq ?_
    refine w_seq ?_
    refine w_reg rfl ?_
    refine v_move rfl ?_
    refine v_nil ?_
    refine q_n ?_
    refine w_f rfl ?_
    refine w_skip ?_
    refine q_n ?_
    refine w_seq ?_
    refine w_seq ?_
    refine w_reg rfl ?_
    refine v_move rfl ?_
    refine v_not true rfl rfl ?_
    refine v_nil ?_
    refine q_n ?_
    refine w_t rfl ?_
    refine w_seq ?_
    refine w_reg rfl ?_
    refine v_assign (c := .f _ _) rfl ?_
    refine v_assign (c := .v (.bool false)) rfl ?_
    refine v_nil ?_
    refine q_n ?_
    refine w_ret (q_r ?_)
    refine r_r rfl ?_
    have hfr : frac s = none := by rw [frac_at hws]; exact fr1_no (by assumption)
    obtain ⟨e1, e2⟩ := fr_none hfr
    rw [e1, e2]
    exact a_tup (.cons (tr_fe (by decide)) (.cons tr_v .nil))
  refine v_call (cWiT (by decide) hlw h2) rfl rfl rfl (.cons vw_v (.cons vw_v .nil)) ?_
  refine v_move_t rfl ?_
  refine v_extract_c rfl rfl ?_
  refine v_extract_c rfl rfl ?_
  refine v_assign rfl ?_
  refine v_assign rfl ?_
  refine v_nil ?_
  refine q_n ?_
  refine w_seq ?_
  refine w_reg rfl ?_
  refine v_assign (c := .v (.int .i64 1)) rfl ?_
  refine v_nil ?_
  refine q_n ?_
  refine w_seq ?_
  refine w_seq ?_
  refine w_reg rfl ?_
  refine v_move rfl ?_
  refine v_nil ?_
  refine q_n ?_
  refine w_f rfl ?_
  refine w_skip ?_
  refine q_n ?_
  refine w_seq ?_
  refine w_seq ?_
  refine w_reg rfl ?_
  refine v_move rfl ?_
  refine v_not false rfl rfl ?_
  refine v_nil ?_
  refine q_n ?_
  refine w_f rfl ?_
  refine w_skip ?_
  refine q_n ?_
  refine w_seq ?_
  refine w_seq ?_
  refine w_reg rfl ?_
  refine v_move rfl ?_
  refine v_nil ?_
  refine q_n ?_
  refine w_t rfl ?_
  refine w_reg rfl ?_
  refine v_move rfl ?_
  refine v_ineg (0 - nineV (top1 w0)) rfl (wrap_of (i64r (by have := wh_rng (by assumption : wh 6 (top1 w0)); omega))) ?_
  refine v_assign rfl ?_
  refine v_nil ?_
  refine q_n ?_
  refine w_seq ?_
  refine w_reg rfl ?_
  refine v_move rfl ?_
  refine v_conv_if lay2 lay44 rfl ?_
  refine v_move rfl ?_
  refine v_conv_if lay2 lay44 rfl ?_
  refine v_bin (c := .f _ _) lay44 rfl rfl rfl ?_
  refine v_assign rfl ?_
  refine v_assign (c := .v (.bool true)) rfl ?_
  refine v_nil ?_
  refine q_n ?_
  refine w_ret ?_
  refine r_r rfl ?_
  have hg : neg1 w0 = true := by first | exact (split_top hws).1.symm.trans (by assumption) | exact (split_top hws).1.symm.trans (eq_false_of_ne_true (by assumption))
  have hW : wh 6 (top1 w0) := by assumption
  obtain ⟨e1, e2⟩ := fr_some ((frac_at hws).trans (fr1_one hW))
  rw [e1, e2]
  exact a_tup (.cons (tr_fe (congrArg (fun z => fop .quo .f32 (nr z) (nr 1)) (sgi hg _))) (.cons tr_v .nil))

theorem cFrI1 (s w0 : List UInt8) (b : List UInt8) (hws : splitB 47 s = [w0, b]) (hs : s.length ≤ 1048576) : PureC X 32 [cS s] (.tup [.c (.f .f32 (frv s)), cB (frok s)]) := by
  refine PureC.of_body (drawD_ok X) (fun _ _ => Go.Proofs.Tryd.call32 _ _) Go.Proofs.Tryd.func32 rfl (n := 61) rfl ?_
  have hlw : (top1 w0).length ≤ 1048576 := Nat.le_trans (splitB_part 47 (top1 s) _ (by rw [(split_top hws).2]; simp)) (Nat.le_trans (top1_le s) hs)
  obtain ⟨u, hu, hlu', hcut⟩ := cCut2 (Nat.le_trans (top1_le s) hs) (split_top hws).2
  obtain ⟨rfl, -⟩ := splitB_one hu
  have hlu : u.length ≤ 1048576 := Nat.le_trans hlu' (Nat.le_trans (top1_le s) hs)
  refine w_seq ?_
  refine w_reg rfl ?_
  refine v_assign (c := .f _ _) rfl ?_
  refine v_assign (c := .v (.bool false)) rfl ?_
  refine v_nil ?_
  refine q_n ?_
  refine w_seq ?_
  refine w_reg rfl ?_
  refine v_move rfl ?_
  refine dec_split (p := neg1 s = true) (fun h1 => ?_) (fun h1 => ?_)
  rotate_left
  · refine v_call (cCpF h1) rfl rfl rfl (.cons vw_v (.cons vw_v .nil)) ?_
    refine v_move_t rfl ?_
    refine v_extract_c rfl rfl ?_
    refine v_extract_c rfl rfl ?_
    refine v_assign rfl ?_
    refine v_assign rfl ?_
    refine v_nil ?_
    refine q_n ?_
    refine w_seq ?_
    refine w_reg rfl ?_
    refine v_move rfl ?_
    refine v_call (hcut) rfl rfl rfl (.cons vw_v (.cons vw_v .nil)) ?_
    refine v_move_t rfl ?_
    refine v_extract_c rfl rfl ?_
    refine v_extract_c rfl rfl ?_
    refine v_extract_c rfl rfl ?_
    refine v_assign rfl ?_
    refine v_assign rfl ?_
    refine v_assign rfl ?_
    refine v_nil ?_
    refine q_n ?_
    refine w_seq ?_
    refine w_reg rfl ?_
    refine v_move rfl ?_
    refine dec_split (p := wh 6 (top1 w0)) (fun h7 => ?_) (fun h7 => ?_)
    rotate_left
    · refine v_call (cWiF (by decide) hlw h7) rfl rfl rfl (.cons vw_v (.cons vw_v .nil)) ?_
      refine v_move_t rfl ?_
      refine v_extract_c rfl rfl ?_
      refine v_extract_c rfl rfl ?_
      refine v_assign rfl ?_
      refine v_assign rfl ?_
      refine v_nil ?_
      refine q_n ?_
      refine w_seq ?_
      refine w_reg rfl ?_
      refine v_assign (c := .v (.int .i64 1)) rfl ?_
      refine v_nil ?_
      refine q_n ?_
      refine w_seq ?_
      refine w_seq ?_
      refine w_reg rfl ?_
      refine v_move rfl ?_
      refine v_nil ?_
      refine q_n ?_
      refine w_t rfl ?_
      refine w_seq ?_
      refine w_reg rfl ?_
      refine v_move rfl ?_
      refine dec_split (p := wh 4 u) (fun h11 => ?_) (fun h11 => ?_)
      · refine v_call (cWiT (by decide) hlu h11) rfl rfl rfl (.cons vw_v (.cons vw_v .nil)) ?_
        refine v_move_t rfl ?_
        refine v_extract_c rfl rfl ?_
        refine v_extract_c rfl rfl ?_
        refine v_assign rfl ?_
        refine v_assign rfl ?_
        refine v_nil ?_
        refine q_n ?_
        refine w_reg rfl ?_
        refine v_move rfl ?_
        refine v_move rfl ?_
        refine v_move rfl ?_
        refine v_guard_off rfl rfl rfl ?_
        refine v_pick_f (v := .v (.bool false)) rfl rfl ?_
        refine v_move rfl ?_
        refine v_guard_off rfl rfl rfl ?_
        refine v_guard_off rfl rfl rfl ?_
        refine v_pick_f (v := .v (.bool false)) rfl rfl ?_
        refine v_move rfl ?_
        refine v_guard_off rfl rfl rfl ?_
        refine v_guard_off rfl rfl rfl ?_
        refine v_guard_off rfl rfl rfl ?_
        refine v_guard_off rfl rfl rfl ?_
        refine v_guard_off rfl rfl rfl ?_
        refine v_pick_f (v := .v (.bool false)) rfl rfl ?_
        refine v_assign rfl ?_
        refine v_assign rfl ?_
        refine v_nil ?_
        refine q_n ?_
        refine w_seq ?_
        refine w_seq ?_
        refine w_reg rfl ?_
        refine v_move rfl ?_
        refine v_not true rfl rfl ?_
        refine v_nil ?_
        refine q_n ?_
        refine w_t rfl ?_
        refine w_seq ?_
        refine w_reg rfl ?_
        refine v_assign (c := .f _ _) rfl ?_
        refine v_assign (c := .v (.bool false)) rfl ?_
        refine v_nil ?_
        refine q_n ?_
        refine w_ret (q_r ?_)
        refine r_r rfl ?_
        have hfr : frac s = none := by
          rw [frac_at hws]
          first
            | exact fr1_no (by assumption)
            | (refine fr1_bad fun hb => ?_
               obtain ⟨b1, b2, b3, b4⟩ := (okB4 u).1 hb
               first | omega | contradiction)
        obtain ⟨e1, e2⟩ := fr_none hfr
        rw [e1, e2]
        exact a_tup (.cons (tr_fe (by decide)) (.cons tr_v .nil))
      refine v_call (cWiF (by decide) hlu h11) rfl rfl rfl (.cons vw_v (.cons vw_v .nil)) ?_
      refine v_move_t rfl ?_
      refine v_extract_c rfl rfl ?_
      refine v_extract_c rfl rfl ?_
      refine v_assign rfl ?_
      refine v_assign rfl ?_
      refine v_nil ?_
      refine q_n ?_
      refine w_reg rfl ?_
      refine v_move rfl ?_
      refine v_move rfl ?_
      refine v_move rfl ?_
      refine v_guard_off rfl rfl rfl ?_
      refine v_pick_f (v := .v (.bool false)) rfl rfl ?_
      refine v_move rfl ?_
      refine v_guard_off rfl rfl rfl ?_
      refine v_guard_off rfl rfl rfl ?_
      refine v_pick_f (v := .v (.bool false)) rfl rfl ?_
      refine v_move rfl ?_
      refine v_guard_off rfl rfl rfl ?_
      refine v_guard_off rfl rfl rfl ?_
      refine v_guard_off rfl rfl rfl ?_
      refine v_guard_off rfl rfl rfl ?_
      refine v_guard_off rfl rfl rfl ?_
      refine v_pick_f (v := .v (.bool false)) rfl rfl ?_
      refine v_assign rfl ?_
      refine v_assign rfl ?_
      refine v_nil ?_
      refine q_n ?_
      refine w_seq ?_
      refine w_seq ?_
      refine w_reg rfl ?_
      refine v_move rfl ?_
      refine v_not true rfl rfl ?_
      refine v_nil ?_
      refine q_n ?_
      refine w_t rfl ?_
      refine w_seq ?_
      refine w_reg rfl ?_
      refine v_assign (c := .f _ _) rfl ?_
      refine v_assign (c := .v (.bool false)) rfl ?_
      refine v_nil ?_
      refine q_n ?_
      refine w_ret (q_r ?_)
      refine r_r rfl ?_
      have hfr : frac s = none := by
        rw [frac_at hws]
        first
          | exact fr1_no (by assumption)
          | (refine fr1_bad fun hb => ?_
             obtain ⟨b1, b2, b3, b4⟩ := (okB4 u).1 hb
             first | omega | contradiction)
      obtain ⟨e1, e2⟩ := fr_none hfr
      rw [e1, e2]
      exact a_tup (.cons (tr_fe (by decide)) (.cons tr_v .nil))
    refine v_call (cWiT (by decide) hlw h7) rfl rfl rfl (.cons vw_v (.cons vw_v .nil)) ?_
    refine v_move_t rfl ?_
    refine v_extract_c rfl rfl ?_
    refine v_extract_c rfl rfl ?_
    refine v_assign rfl ?_
    refine v_assign rfl ?_
    refine v_nil ?_
    refine q_n ?_
    refine w_seq ?_
    refine w_reg rfl ?_
    refine v_assign (c := .v (.int .i64 1)) rfl ?_
    refine v_nil ?_
    refine q_n ?_
    refine w_seq ?_
    refine w_seq ?_
    refine w_reg rfl ?_
    refine v_move rfl ?_
    refine v_nil ?_
    refine q_n ?_
    refine w_t rfl ?_
    refine w_seq ?_
    refine w_reg rfl ?_
    refine v_move rfl ?_
    refine dec_split (p := wh 4 u) (fun h8 => ?_) (fun h8 => ?_)
    rotate_left
    · refine v_call (cWiF (by decide) hlu h8) rfl rfl rfl (.cons vw_v (.cons vw_v .nil)) ?_
      refine v_move_t rfl ?_
      refine v_extract_c rfl rfl ?_
      refine v_extract_c rfl rfl ?_
      refine v_assign rfl ?_
      refine v_assign rfl ?_
      refine v_nil ?_
      refine q_n ?_
      refine w_reg rfl ?_
      refine v_move rfl ?_
      refine v_move rfl ?_
      refine v_move rfl ?_
      refine v_guard_on rfl rfl ?_
      refine v_move rfl ?_
      refine v_pick_t rfl rfl ?_
      refine v_move rfl ?_
      refine v_guard_off rfl rfl rfl ?_
      refine v_guard_off rfl rfl rfl ?_
      refine v_pick_f (v := .v (.bool false)) rfl rfl ?_
      refine v_move rfl ?_
      refine v_guard_off rfl rfl rfl ?_
      refine v_guard_off rfl rfl rfl ?_
      refine v_guard_off rfl rfl rfl ?_
      refine v_guard_off rfl rfl rfl ?_
      refine v_guard_off rfl rfl rfl ?_
      refine v_pick_f (v := .v (.bool false)) rfl rfl ?_
      refine v_assign rfl ?_
      refine v_assign rfl ?_
      refine v_nil ?_
      refine q_n ?_
      refine w_seq ?_
      refine w_seq ?_
      refine w_reg rfl ?_
      refine v_move rfl ?_
      refine v_not true rfl rfl ?_
      refine v_nil ?_
      refine q_n ?_
      refine w_t rfl ?_
      refine w_seq ?_
      refine w_reg rfl ?_
      refine v_assign (c := .f _ _) rfl ?_
      refine v_assign (c := .v (.bool false)) rfl ?_
      refine v_nil ?_
      refine q_n ?_
      refine w_ret (q_r ?_)
      refine r_r rfl ?_
      have hfr : frac s = none := by
        rw [frac_at hws]
        first
          | exact fr1_no (by assumption)
          | (refine fr1_bad fun hb => ?_
             obtain ⟨b1, b2, b3, b4⟩ := (okB4 u).1 hb
             first | omega | contradiction)
      obtain ⟨e1, e2⟩ := fr_none hfr
      rw [e1, e2]
      exact a_tup (.cons (tr_fe (by decide)) (.cons tr_v .nil))
    refine v_call (cWiT (by decide) hlu h8) rfl rfl rfl (.cons vw_v (.cons vw_v .nil)) ?_
    refine v_move_t rfl ?_
    refine v_extract_c rfl rfl ?_
    refine v_extract_c rfl rfl ?_
    refine v_assign rfl ?_
    refine v_assign rfl ?_
    refine v_nil ?_
    refine q_n ?_
    refine w_reg rfl ?_
    refine v_move rfl ?_
    refine v_move rfl ?_
    refine v_move rfl ?_
    refine v_guard_on rfl rfl ?_
    refine v_move rfl ?_
    refine v_pick_t rfl rfl ?_
    refine v_move rfl ?_
    refine v_guard_on rfl rfl ?_
    refine v_move rfl ?_
    refine v_guard_on rfl rfl ?_
    refine v_callb (cInR _ _ _) rfl rfl (.cons vw_v (.cons vw_v (.cons vw_v .nil))) (fun h9 => ?_) (fun h9 => ?_)
    rotate_left
    · refine v_pick_t rfl rfl ?_
      refine v_move rfl ?_
      refine v_guard_off rfl rfl rfl ?_
      refine v_guard_off rfl rfl rfl ?_
      refine v_guard_off rfl rfl rfl ?_
      refine v_guard_off rfl rfl rfl ?_
      refine v_guard_off rfl rfl rfl ?_
      refine v_pick_f (v := .v (.bool false)) rfl rfl ?_
      refine v_assign rfl ?_
      refine v_assign rfl ?_
      refine v_nil ?_
      refine q_n ?_
      refine w_seq ?_
      refine w_seq ?_
      refine w_reg rfl ?_
      refine v_move rfl ?_
      refine v_not true rfl rfl ?_
      refine v_nil ?_
      refine q_n ?_
      refine w_t rfl ?_
      refine w_seq ?_
      refine w_reg rfl ?_
      refine v_assign (c := .f _ _) rfl ?_
      refine v_assign (c := .v (.bool false)) rfl ?_
      refine v_nil ?_
      refine q_n ?_
      refine w_ret (q_r ?_)
      refine r_r rfl ?_
      have hfr : frac s = none := by
        rw [frac_at hws]
        first
          | exact fr1_no (by assumption)
          | (refine fr1_bad fun hb => ?_
             obtain ⟨b1, b2, b3, b4⟩ := (okB4 u).1 hb
             first | omega | contradiction)
      obtain ⟨e1, e2⟩ := fr_none hfr
      rw [e1, e2]
      exact a_tup (.cons (tr_fe (by decide)) (.cons tr_v .nil))
    refine v_pick_t rfl rfl ?_
    refine v_move rfl ?_
    refine v_guard_on rfl rfl ?_
    refine v_move rfl ?_
    refine v_guard_on rfl rfl ?_
    refine v_move rfl ?_
    refine v_guard_on rfl rfl ?_
    refine v_sub lay2 rfl rfl (i64r (by omega)) ?_
    refine v_guard_on rfl rfl ?_
    refine v_bin (c := .v (.int .i64 (aI (nineV u)))) lay2 rfl rfl (rfl) ?_
    refine v_guard_on rfl rfl ?_
    refine v_eql lay2 rfl rfl (fun h10 => ?_) (fun h10 => ?_)
    rotate_left
    · refine v_pick_t rfl rfl ?_
      refine v_assign rfl ?_
      refine v_assign rfl ?_
      refine v_nil ?_
      refine q_n ?_
      refine w_seq ?_
      refine w_seq ?_
      refine w_reg rfl ?_
      refine v_move rfl ?_
      refine v_not true rfl rfl ?_
      refine v_nil ?_
      refine q_n ?_
      refine w_t rfl ?_
      refine w_seq ?_
      refine w_reg rfl ?_
      refine v_assign (c := .f _ _) rfl ?_
      refine v_assign (c := .v (.bool false)) rfl ?_
      refine v_nil ?_
      refine q_n ?_
      refine w_ret (q_r ?_)
      refine r_r rfl ?_
      have hfr : frac s = none := by
        rw [frac_at hws]
        first
          | exact fr1_no (by assumption)
          | (refine fr1_bad fun hb => ?_
             obtain ⟨b1, b2, b3, b4⟩ := (okB4 u).1 hb
             first | omega | contradiction)
      obtain ⟨e1, e2⟩ := fr_none hfr
      rw [e1, e2]
      exact a_tup (.cons (tr_fe (by decide)) (.cons tr_v .nil))
    refine v_pick_t rfl rfl ?_
    refine v_assign rfl ?_
    refine v_assign rfl ?_
    refine v_nil ?_
    refine q_n ?_
    refine w_seq ?_
    refine w_seq ?_
    refine w_reg rfl ?_
    refine v_move rfl ?_
    refine v_not false rfl rfl ?_
    refine v_nil ?_
    refine q_n ?_
    refine w_f rfl ?_
    refine w_skip ?_
    refine q_n ?_
    refine w_seq ?_
    refine w_seq ?_
    refine w_reg rfl ?_
    refine v_move rfl ?_
    refine v_nil ?_
    refine q_n ?_
    refine w_f rfl ?_
    refine w_skip ?_
    refine q_n ?_
    refine w_seq ?_
    refine w_reg rfl ?_
    refine v_move rfl ?_
    refine v_conv_if lay2 lay44 rfl ?_
    refine v_move rfl ?_
    refine v_conv_if lay2 lay44 rfl ?_
    refine v_bin (c := .f _ _) lay44 rfl rfl rfl ?_
    refine v_assign rfl ?_
    refine v_assign (c := .v (.bool true)) rfl ?_
    refine v_nil ?_
    refine q_n ?_
    refine w_ret ?_
    refine r_r rfl ?_
    have hg : neg1 w0 = false := by first | exact (split_top hws).1.symm.trans (by assumption) | exact (split_top hws).1.symm.trans (eq_false_of_ne_true (by assumption))
    have hW : wh 6 (top1 w0) := by assumption
    have hob : okB u := (okB4 u).2 ⟨by assumption, by omega, by omega, by assumption⟩
    obtain ⟨e1, e2⟩ := fr_some ((frac_at hws).trans (fr1_two hW hob))
    rw [e1, e2]
    exact a_tup (.cons (tr_fe (congrArg (fun z => fop .quo .f32 (nr z) (nr (nineV u))) (sgj hg _))) (.cons tr_v .nil))
  refine v_call (cCpT h1) rfl rfl rfl (.cons vw_v (.cons vw_v .nil)) ?_
  refine v_move_t rfl ?_
  refine v_extract_c rfl rfl ?_
  refine v_extract_c rfl rfl ?_
  refine v_assign rfl ?_
  refine v_assign rfl ?_
  refine v_nil ?_
  refine q_n ?_
  refine w_seq ?_
  refine w_reg rfl ?_
  refine v_move rfl ?_
  refine v_call (hcut) rfl rfl rfl (.cons vw_v (.cons vw_v .nil)) ?_
  refine v_move_t rfl ?_
  refine v_extract_c rfl rfl ?_
  refine v_extract_c rfl rfl ?_
  refine v_extract_c rfl rfl ?_
  refine v_assign rfl ?_
  refine v_assign rfl ?_
  refine v_assign rfl ?_
  refine v_nil ?_
  refine q_n ?_
  refine w_seq ?_
  refine w_reg rfl ?_
  refine v_move rfl ?_
  refine dec_split (p := wh 6 (top1 w0)) (fun h2 => ?_) (fun h2 => ?_)
  rotate_left
  · refine v_call (cWiF (by decide) hlw h2) rfl rfl rfl (.cons vw_v (.cons vw_v .nil)) ?_
    refine v_move_t rfl ?_
    refine v_extract_c rfl rfl ?_
    refine v_extract_c rfl rfl ?_
    refine v_assign rfl ?_
    refine v_assign rfl ?_
    refine v_nil ?_
    refine q_n ?_
    refine w_seq ?_
    refine w_reg rfl ?_
    refine v_assign (c := .v (.int .i64 1)) rfl ?_
    refine v_nil ?_
    refine q_n ?_
    refine w_seq ?_
    refine w_seq ?_
    refine w_reg rfl ?_
    refine v_move rfl ?_
    refine v_nil ?_
    refine q_n ?_
    refine w_t rfl ?_
    refine w_seq ?_
    refine w_reg rfl ?_
    refine v_move rfl ?_
    refine dec_split (p := wh 4 u) (fun h6 => ?_) (fun h6 => ?_)
    · refine v_call (cWiT (by decide) hlu h6) rfl rfl rfl (.cons vw_v (.cons vw_v .nil)) ?_
      refine v_move_t rfl ?_
      refine v_extract_c rfl rfl ?_
      refine v_extract_c rfl rfl ?_
      refine v_assign rfl ?_
      refine v_assign rfl ?_
      refine v_nil ?_
      refine q_n ?_
      refine w_reg rfl ?_
      refine v_move rfl ?_
      refine v_move rfl ?_
      refine v_move rfl ?_
      refine v_guard_off rfl rfl rfl ?_
      refine v_pick_f (v := .v (.bool false)) rfl rfl ?_
      refine v_move rfl ?_
      refine v_guard_off rfl rfl rfl ?_
      refine v_guard_off rfl rfl rfl ?_
      refine v_pick_f (v := .v (.bool false)) rfl rfl ?_
      refine v_move rfl ?_
      refine v_guard_off rfl rfl rfl ?_
      refine v_guard_off rfl rfl rfl ?_
      refine v_guard_off rfl rfl rfl ?_
      refine v_guard_off rfl rfl rfl ?_
      refine v_guard_off rfl rfl rfl ?_
      refine v_pick_f (v := .v (.bool false)) rfl rfl ?_
      refine v_assign rfl ?_
      refine v_assign rfl ?_
      refine v_nil ?_
      refine q_n ?_
      refine w_seq ?_
      refine w_seq ?_
      refine w_reg rfl ?_
      refine v_move rfl ?_
      refine v_not true rfl rfl ?_
      refine v_nil ?_
      refine q_n ?_
      refine w_t rfl ?_
      refine w_seq ?_
      refine w_reg rfl ?_
      refine v_assign (c := .f _ _) rfl ?_
      refine v_assign (c := .v (.bool false)) rfl ?_
      refine v_nil ?_
      refine q_n ?_
      refine w_ret (q_r ?_)
      refine r_r rfl ?_
      have hfr : frac s = none := by
        rw [frac_at hws]
        first
          | exact fr1_no (by assumption)
          | (refine fr1_bad fun hb => ?_
             obtain ⟨b1, b2, b3, b4⟩ := (okB4 u).1 hb
             first | omega | contradiction)
      obtain ⟨e1, e2⟩ := fr_none hfr
      rw [e1, e2]
      exact a_tup (.cons (tr_fe (by decide)) (.cons tr_v .nil))
    refine v_call (cWiF (by decide) hlu h6) rfl rfl rfl (.cons vw_v (.cons vw_v .nil)) ?_
    refine v_move_t rfl ?_
    refine v_extract_c rfl rfl ?_
    refine v_extract_c rfl rfl ?_
    refine v_assign rfl ?_
    refine v_assign rfl ?_
    refine v_nil ?_
    refine q_n ?_
    refine w_reg rfl ?_
    refine v_move rfl ?_
    refine v_move rfl ?_
    refine v_move rfl ?_
    refine v_guard_off rfl rfl rfl ?_
    refine v_pick_f (v := .v (.bool false)) rfl rfl ?_
    refine v_move rfl ?_
    refine v_guard_off rfl rfl rfl ?_
    refine v_guard_off rfl rfl rfl ?_
    refine v_pick_f (v := .v (.bool false)) rfl rfl ?_
    refine v_move rfl ?_
    refine v_guard_off rfl rfl rfl ?_
    refine v_guard_off rfl rfl rfl ?_
    refine v_guard_off rfl rfl rfl ?_
    refine v_guard_off rfl rfl rfl ?_
    refine v_guard_off rfl rfl rfl ?_
    refine v_pick_f (v := .v (.bool false)) rfl rfl ?_
    refine v_assign rfl ?_
    refine v_assign rfl ?_
    refine v_nil ?_
    refine q_n ?_
    refine w_seq ?_
    refine w_seq ?_
    refine w_reg rfl ?_
    refine v_move rfl ?_
    refine v_not true rfl rfl ?_
    refine v_nil ?_
    refine q_n ?_
    refine w_t rfl ?_
    refine w_seq ?_
    refine w_reg rfl ?_
    refine v_assign (c := .f _ _) rfl ?_
    refine v_assign (c := .v (.bool false)) rfl ?_
    refine v_nil ?_
    refine q_n ?_
    refine w_ret (q_r ?_)
    refine r_r rfl ?_
    have hfr : frac s = none := by
      rw [frac_at hws]
      first
        | exact fr1_no (by assumption)
        | (refine fr1_bad fun hb => ?_
           obtain ⟨b1, b2, b3, b4⟩ := (okB4 u).1 hb
           first | omega | contradiction)
    obtain ⟨e1, e2⟩ := fr_none hfr
    rw [e1, e2]
    exact a_tup (.cons (tr_fe (by decide)) (.cons tr_v .nil))
  refine v_call (cWiT (by decide) hlw h2) rfl rfl rfl (.cons vw_v (.cons vw_v .nil)) ?_
  refine v_move_t rfl ?_
  refine v_extract_c rfl rfl ?_
  refine v_extract_c rfl rfl ?_
  refine v_assign rfl ?_
  refine v_assign rfl ?_
  refine v_nil ?_
  refine q_n ?_
  refine w_seq ?_
  refine w_reg rfl ?_
  refine v_assign (c := .v (.int .i64 1)) rfl ?_
  refine v_nil ?_
  refine q_n ?_
  refine w_seq ?_
  refine w_seq ?_
  refine w_reg rfl ?_
  refine v_move rfl ?_
  refine v_nil ?_
  refine q_n ?_
  refine w_t rfl ?_
  refine w_seq ?_
  refine w_reg rfl ?_
  refine v_move rfl ?_
  refine dec_split (p := wh 4 u) (fun h3 => ?_) (fun h3 => ?_)
  rotate_left
  · refine v_call (cWiF (by decide) hlu h3) rfl rfl rfl (.cons vw_v (.cons vw_v .nil)) ?_
    refine v_move_t rfl ?_
    refine v_extract_c rfl rfl ?_
    refine v_extract_c rfl rfl ?_
    refine v_assign rfl ?_
    refine v_assign rfl ?_
    refine v_nil ?_
    refine q_n ?_
    refine w_reg rfl ?_
    refine v_move rfl ?_
    refine v_move rfl ?_
    refine v_move rfl ?_
    refine v_guard_on rfl rfl ?_
    refine v_move rfl ?_
    refine v_pick_t rfl rfl ?_
    refine v_move rfl ?_
    refine v_guard_off rfl rfl rfl ?_
    refine v_guard_off rfl rfl rfl ?_
    refine v_pick_f (v := .v (.bool false)) rfl rfl ?_
    refine v_move rfl ?_
    refine v_guard_off rfl rfl rfl ?_
    refine v_guard_off rfl rfl rfl ?_
    refine v_guard_off rfl rfl rfl ?_
    refine v_guard_off rfl rfl rfl ?_
    refine v_guard_off rfl rfl rfl ?_
    refine v_pick_f (v := .v (.bool false)) rfl rfl ?_
    refine v_assign rfl ?_
    refine v_assign rfl ?_
    refine v_nil ?_
    refine q_n ?_
    refine w_seq ?_
    refine w_seq ?_
    refine w_reg rfl ?_
    refine v_move rfl ?_
    refine v_not true rfl rfl ?_
    refine v_nil ?_
    refine q_n ?_
    refine w_t rfl ?_
    refine w_seq ?_
    refine w_reg rfl ?_
    refine v_assign (c := .f _ _) rfl ?_
    refine v_assign (c := .v (.bool false)) rfl ?_
    refine v_nil ?_
    refine q_n ?_
    refine w_ret (q_r ?_)
    refine r_r rfl ?_
    have hfr : frac s = none := by
      rw [frac_at hws]
      first
        | exact fr1_no (by assumption)
        | (refine fr1_bad fun hb => ?_
           obtain ⟨b1, b2, b3, b4⟩ := (okB4 u).1 hb
           first | omega | contradiction)
    obtain ⟨e1, e2⟩ := fr_none hfr
    rw [e1, e2]
    exact a_tup (.cons (tr_fe (by decide)) (.cons tr_v .nil))
  refine v_call (cWiT (by decide) hlu h3) rfl rfl rfl (.cons vw_v (.cons vw_v .nil)) ?_
  refine v_move_t rfl ?_
  refine v_extract_c rfl rfl ?_
  refine v_extract_c rfl rfl ?_
  refine v_assign rfl ?_
  refine v_assign rfl ?_
  refine v_nil ?_
  refine q_n ?_
  refine w_reg rfl ?_
  refine v_move rfl ?_
  refine v_move rfl ?_
  refine v_move rfl ?_
  refine v_guard_on rfl rfl ?_
  refine v_move rfl ?_
  refine v_pick_t rfl rfl ?_
  refine v_move rfl ?_
  refine v_guard_on rfl rfl ?_
  refine v_move rfl ?_
  refine v_guard_on rfl rfl ?_
  refine v_callb (cInR _ _ _) rfl rfl (.cons vw_v (.cons vw_v (.cons vw_v .nil))) (fun h4 => ?_) (fun h4 => ?_)
  rotate_left
  · refine v_pick_t rfl rfl ?_
    refine v_move rfl ?_
    refine v_guard_off rfl rfl rfl ?_
    refine v_guard_off rfl rfl rfl ?_
    refine v_guard_off rfl rfl rfl ?_
    refine v_guard_off rfl rfl rfl ?_
    refine v_guard_off rfl rfl rfl ?_
    refine v_pick_f (v := .v (.bool false)) rfl rfl ?_
    refine v_assign rfl ?_
    refine v_assign rfl ?_
    refine v_nil ?_
    refine q_n ?_
    refine w_seq ?_
    refine w_seq ?_
    refine w_reg rfl ?_
    refine v_move rfl ?_
    refine v_not true rfl rfl ?_
    refine v_nil ?_
    refine q_n ?_
    refine w_t rfl ?_
    refine w_seq ?_
    refine w_reg rfl ?_
    refine v_assign (c := .f _ _) rfl ?_
    refine v_assign (c := .v (.bool false)) rfl ?_
    refine v_nil ?_
    refine q_n ?_
    refine w_ret (q_r ?_)
    refine r_r rfl ?_
    have hfr : frac s = none := by
      rw [frac_at hws]
      first
        | exact fr1_no (by assumption)
        | (refine fr1_bad fun hb => ?_
           obtain ⟨b1, b2, b3, b4⟩ := (okB4 u).1 hb
           first | omega | contradiction)
    obtain ⟨e1, e2⟩ := fr_none hfr
    rw [e1, e2]
    exact a_tup (.cons (tr_fe (by decide)) (.cons tr_v .nil))
  refine v_pick_t rfl rfl ?_
  refine v_move rfl ?_
  refine v_guard_on rfl rfl ?_
  refine v_move rfl ?_
  refine v_guard_on rfl rfl ?_
  refine v_move rfl ?_
  refine v_guard_on rfl rfl ?_
  refine v_sub lay2 rfl rfl (i64r (by omega)) ?_
  refine v_guard_on rfl rfl ?_
  refine v_bin (c := .v (.int .i64 (aI (nineV u)))) lay2 rfl rfl (rfl) ?_
  refine v_guard_on rfl rfl ?_
  refine v_eql lay2 rfl rfl (fun h5 => ?_) (fun h5 => ?_)
  rotate_left
  · refine v_pick_t rfl rfl ?_
    refine v_assign rfl ?_
    refine v_assign rfl ?_
    refine v_nil ?_
    refine q_n ?_
    refine w_seq ?_
    refine w_seq ?_
    refine w_reg rfl ?_
    refine v_move rfl ?_
    refine v_not true rfl rfl ?_
    refine v_nil ?_
    refine q_n ?_
    refine w_t rfl ?_
    refine w_seq ?_
    refine w_reg rfl ?_
    refine v_assign (c := .f _ _) rfl ?_
    refine v_assign (c := .v (.bool false)) rfl ?_
    refine v_nil ?_
    refine q_n ?_
    refine w_ret (q_r ?_)
    refine r_r rfl ?_
    have hfr : frac s = none := by
      rw [frac_at hws]
      first
        | exact fr1_no (by assumption)
        | (refine fr1_bad fun hb => ?_
           obtain ⟨b1, b2, b3, b4⟩ := (okB4 u).1 hb
           first | omega | contradiction)
    obtain ⟨e1, e2⟩ := fr_none hfr
    rw [e1, e2]
    exact a_tup (.cons (tr_fe (by decide)) (.cons tr_v .nil))
  refine v_pick_t rfl rfl ?_
  refine v_assign rfl ?_
  refine v_assign rfl ?_
  refine v_nil ?_
  refine q_n ?_
  refine w_seq ?_
  refine w_seq ?_
  refine w_reg rfl ?_
  refine v_move rfl ?_
  refine v_not false rfl rfl ?_
  refine v_nil ?_
  refine q_n ?_
  refine w_f rfl ?_
  refine w_skip ?_
  refine q_n ?_
  refine w_seq ?_
  refine w_seq ?_
  refine w_reg rfl ?_
  refine v_move rfl ?_
  refine v_nil ?_
  refine q_n ?_
  refine w_t rfl ?_
  refine w_reg rfl ?_
  refine v_move rfl ?_
  refine v_ineg (0 - nineV (top1 w0)) rfl (wrap_of (i64r (by have := wh_rng (by assumption : wh 6 (top1 w0)); omega))) ?_
  refine v_assign rfl ?_
  refine v_nil ?_
  refine q_n ?_
  refine w_seq ?_
  refine w_reg rfl ?_
  refine v_move rfl ?_
  refine v_conv_if lay2 lay44 rfl ?_
  refine v_move rfl ?_
  refine v_conv_if lay2 lay44 rfl ?_
  refine v_bin (c := .f _ _) lay44 rfl rfl rfl ?_
  refine v_assign rfl ?_
  refine v_assign (c := .v (.bool true)) rfl ?_
  refine v_nil ?_
  refine q_n ?_
  refine w_ret ?_
  refine r_r rfl ?_
  have hg : neg1 w0 = true := by first | exact (split_top hws).1.symm.trans (by assumption) | exact (split_top hws).1.symm.trans (eq_false_of_ne_true (by assumption))
  have hW : wh 6 (top1 w0) := by assumption
  have hob : okB u := (okB4 u).2 ⟨by assumption, by omega, by omega, by assumption⟩
  obtain ⟨e1, e2⟩ := fr_some ((frac_at hws).trans (fr1_two hW hob))
  rw [e1, e2]
  exact a_tup (.cons (tr_fe (congrArg (fun z => fop .quo .f32 (nr z) (nr (nineV u))) (sgi hg _))) (.cons tr_v .nil))

theorem cFrI2 (s w0 : List UInt8) (b c : List UInt8) (r : List (List UInt8)) (hws : splitB 47 s = w0 :: b :: c :: r) (hs : s.length ≤ 1048576) : PureC X 32 [cS s] (.tup [.c (.f .f32 (frv s)), cB (frok s)]) := by
  refine PureC.of_body (drawD_ok X) (fun _ _ => Go.Proofs.Tryd.call32 _ _) Go.Proofs.Tryd.func32 rfl (n := 61) rfl ?_
  have hlw : (top1 w0).length ≤ 1048576 := Nat.le_trans (splitB_part 47 (top1 s) _ (by rw [(split_top hws).2]; simp)) (Nat.le_trans (top1_le s) hs)
  obtain ⟨u, hu, hlu', hcut⟩ := cCut2 (Nat.le_trans (top1_le s) hs) (split_top hws).2
  have hlu : u.length ≤ 1048576 := Nat.le_trans hlu' (Nat.le_trans (top1_le s) hs)
  have hnu : ¬ wh 4 u := many_no hu
  refine w_seq ?_
  refine w_reg rfl ?_
  refine v_assign (c := .f _ _) rfl ?_
  refine v_assign (c := .v (.bool false)) rfl ?_
  refine v_nil ?_
  refine q_n ?_
  refine w_seq ?_
  refine w_reg rfl ?_
  refine v_move rfl ?_
  refine dec_split (p := neg1 s = true) (fun h1 => ?_) (fun h1 => ?_)
  rotate_left
  · refine v_call (cCpF h1) rfl rfl rfl (.cons vw_v (.cons vw_v .nil)) ?_
    refine v_move_t rfl ?_
    refine v_extract_c rfl rfl ?_
    refine v_extract_c rfl rfl ?_
    refine v_assign rfl ?_
    refine v_assign rfl ?_
    refine v_nil ?_
    refine q_n ?_
    refine w_seq ?_
    refine w_reg rfl ?_
    refine v_move rfl ?_
    refine v_call (hcut) rfl rfl rfl (.cons vw_v (.cons vw_v .nil)) ?_
    refine v_move_t rfl ?_
    refine v_extract_c rfl rfl ?_
    refine v_extract_c rfl rfl ?_
    refine v_extract_c rfl rfl ?_
    refine v_assign rfl ?_
    refine v_assign rfl ?_
    refine v_assign rfl ?_
    refine v_nil ?_
    refine q_n ?_
    refine w_seq ?_
    refine w_reg rfl ?_
    refine v_move rfl ?_
    refine dec_split (p := wh 6 (top1 w0)) (fun h7 => ?_) (fun h7 => ?_)
    rotate_left
    · refine v_call (cWiF (by decide) hlw h7) rfl rfl rfl (.cons vw_v (.cons vw_v .nil)) ?_
      refine v_move_t rfl ?_
      refine v_extract_c rfl rfl ?_
      refine v_extract_c rfl rfl ?_
      refine v_assign rfl ?_
      refine v_assign rfl ?_
      refine v_nil ?_
      refine q_n ?_
      refine w_seq ?_
      refine w_reg rfl ?_
      refine v_assign (c := .v (.int .i64 1)) rfl ?_
      refine v_nil ?_
      refine q_n ?_
      refine w_seq ?_
      refine w_seq ?_
      refine w_reg rfl ?_
      refine v_move rfl ?_
      refine v_nil ?_
      refine q_n ?_
      refine w_t rfl ?_
      refine w_seq ?_
      refine w_reg rfl ?_
      refine v_move rfl ?_
      refine dec_split (p := wh 4 u) (fun h11 => ?_) (fun h11 => ?_)
      · refine v_call (cWiT (by decide) hlu h11) rfl rfl rfl (.cons vw_v (.cons vw_v .nil)) ?_
        refine v_move_t rfl ?_
        refine v_extract_c rfl rfl ?_
        refine v_extract_c rfl rfl ?_
        refine v_assign rfl ?_
        refine v_assign rfl ?_
        refine v_nil ?_
        refine q_n ?_
        refine w_reg rfl ?_
        refine v_move rfl ?_
        refine v_move rfl ?_
        refine v_move rfl ?_
        refine v_guard_off rfl rfl rfl ?_
        refine v_pick_f (v := .v (.bool false)) rfl rfl ?_
        refine v_move rfl ?_
        refine v_guard_off rfl rfl rfl ?_
        refine v_guard_off rfl rfl rfl ?_
        refine v_pick_f (v := .v (.bool false)) rfl rfl ?_
        refine v_move rfl ?_
        refine v_guard_off rfl rfl rfl ?_
        refine v_guard_off rfl rfl rfl ?_
        refine v_guard_off rfl rfl rfl ?_
        refine v_guard_off rfl rfl rfl ?_
        refine v_guard_off rfl rfl rfl ?_
        refine v_pick_f (v := .v (.bool false)) rfl rfl ?_
        refine v_assign rfl ?_
        refine v_assign rfl ?_
        refine v_nil ?_
        refine q_n ?_
        refine w_seq ?_
        refine w_seq ?_
        refine w_reg rfl ?_
        refine v_move rfl ?_
        refine v_not true rfl rfl ?_
        refine v_nil ?_
        refine q_n ?_
        refine w_t rfl ?_
        refine w_seq ?_
        refine w_reg rfl ?_
        refine v_assign (c := .f _ _) rfl ?_
        refine v_assign (c := .v (.bool false)) rfl ?_
        refine v_nil ?_
        refine q_n ?_
        refine w_ret (q_r ?_)
        refine r_r rfl ?_
        have hfr : frac s = none := (frac_at hws).trans fr1_many
        obtain ⟨e1, e2⟩ := fr_none hfr
        rw [e1, e2]
        exact a_tup (.cons (tr_fe (by decide)) (.cons tr_v .nil))
      refine v_call (cWiF (by decide) hlu h11) rfl rfl rfl (.cons vw_v (.cons vw_v .nil)) ?_
      refine v_move_t rfl ?_
      refine v_extract_c rfl rfl ?_
      refine v_extract_c rfl rfl ?_
      refine v_assign rfl ?_
      refine v_assign rfl ?_
      refine v_nil ?_
      refine q_n ?_
      refine w_reg rfl ?_
      refine v_move rfl ?_
      refine v_move rfl ?_
      refine v_move rfl ?_
      refine v_guard_off rfl rfl rfl ?_
      refine v_pick_f (v := .v (.bool false)) rfl rfl ?_
      refine v_move rfl ?_
      refine v_guard_off rfl rfl rfl ?_
      refine v_guard_off rfl rfl rfl ?_
      refine v_pick_f (v := .v (.bool false)) rfl rfl ?_
      refine v_move rfl ?_
      refine v_guard_off rfl rfl rfl ?_
      refine v_guard_off rfl rfl rfl ?_
      refine v_guard_off rfl rfl rfl ?_
      refine v_guard_off rfl rfl rfl ?_
      refine v_guard_off rfl rfl rfl ?_
      refine v_pick_f (v := .v (.bool false)) rfl rfl ?_
      refine v_assign rfl ?_
      refine v_assign rfl ?_
      refine v_nil ?_
      refine q_n ?_
      refine w_seq ?_
      refine w_seq ?_
      refine w_reg rfl ?_
      refine v_move rfl ?_
      refine v_not true rfl rfl ?_
      refine v_nil ?_
      refine q_n ?_
      refine w_t rfl ?_
      refine w_seq ?_
      refine w_reg rfl ?_
      refine v_assign (c := .f _ _) rfl ?_
      refine v_assign (c := .v (.bool false)) rfl ?_
      refine v_nil ?_
      refine q_n ?_
      refine w_ret (q_r ?_)
      refine r_r rfl ?_
      have hfr : frac s = none := (frac_at hws).trans fr1_many
      obtain ⟨e1, e2⟩ := fr_none hfr
      rw [e1, e2]
      exact a_tup (.cons (tr_fe (by decide)) (.cons tr_v .nil))
    refine v_call (cWiT (by decide) hlw h7) rfl rfl rfl (.cons vw_v (.cons vw_v .nil)) ?_
    refine v_move_t rfl ?_
    refine v_extract_c rfl rfl ?_
    refine v_extract_c rfl rfl ?_
    refine v_assign rfl ?_
    refine v_assign rfl ?_
    refine v_nil ?_
    refine q_n ?_
    refine w_seq ?_
    refine w_reg rfl ?_
    refine v_assign (c := .v (.int .i64 1)) rfl ?_
    refine v_nil ?_
    refine q_n ?_
    refine w_seq ?_
    refine w_seq ?_
    refine w_reg rfl ?_
    refine v_move rfl ?_
    refine v_nil ?_
    refine q_n ?_
    refine w_t rfl ?_
    refine w_seq ?_
    refine w_reg rfl ?_
    refine v_move rfl ?_
    refine dec_split (p := wh 4 u) (fun h8 => ?_) (fun h8 => ?_)
    rotate_left
    · refine v_call (cWiF (by decide) hlu h8) rfl rfl rfl (.cons vw_v (.cons vw_v .nil)) ?_
      refine v_move_t rfl ?_
      refine v_extract_c rfl rfl ?_
      refine v_extract_c rfl rfl ?_
      refine v_assign rfl ?_
      refine v_assign rfl ?_
      refine v_nil ?_
      refine q_n ?_
      refine w_reg rfl ?_
      refine v_move rfl ?_
      refine v_move rfl ?_
      refine v_move rfl ?_
      refine v_guard_on rfl rfl ?_
      refine v_move rfl ?_
      refine v_pick_t rfl rfl ?_
      refine v_move rfl ?_
      refine v_guard_off rfl rfl rfl ?_
      refine v_guard_off rfl rfl rfl ?_
      refine v_pick_f (v := .v (.bool false)) rfl rfl ?_
      refine v_move rfl ?_
      refine v_guard_off rfl rfl rfl ?_
      refine v_guard_off rfl rfl rfl ?_
      refine v_guard_off rfl rfl rfl ?_
      refine v_guard_off rfl rfl rfl ?_
      refine v_guard_off rfl rfl rfl ?_
      refine v_pick_f (v := .v (.bool false)) rfl rfl ?_
      refine v_assign rfl ?_
      refine v_assign rfl ?_
      refine v_nil ?_
      refine q_n ?_
      refine w_seq ?_
      refine w_seq ?_
      refine w_reg rfl ?_
      refine v_move rfl ?_
      refine v_not true rfl rfl ?_
      refine v_nil ?_
      refine q_n ?_
      refine w_t rfl ?_
      refine w_seq ?_
      refine w_reg rfl ?_
      refine v_assign (c := .f _ _) rfl ?_
      refine v_assign (c := .v (.bool false)) rfl ?_
      refine v_nil ?_
      refine q_n ?_
      refine w_ret (q_r ?_)
      refine r_r rfl ?_
      have hfr : frac s = none := (frac_at hws).trans fr1_many
      obtain ⟨e1, e2⟩ := fr_none hfr
      rw [e1, e2]
      exact a_tup (.cons (tr_fe (by decide)) (.cons tr_v .nil))
    refine v_call (cWiT (by decide) hlu h8) rfl rfl rfl (.cons vw_v (.cons vw_v .nil)) ?_
    refine v_move_t rfl ?_
    refine v_extract_c rfl rfl ?_
    refine v_extract_c rfl rfl ?_
    refine v_assign rfl ?_
    refine v_assign rfl ?_
    refine v_nil ?_
    refine q_n ?_
    refine w_reg rfl ?_
    refine v_move rfl ?_
    refine v_move rfl ?_
    refine v_move rfl ?_
    refine v_guard_on rfl rfl ?_
    refine v_move rfl ?_
    refine v_pick_t rfl rfl ?_
    refine v_move rfl ?_
    refine v_guard_on rfl rfl ?_
    refine v_move rfl ?_
    refine v_guard_on rfl rfl ?_
    refine v_callb (cInR _ _ _) rfl rfl (.cons vw_v (.cons vw_v (.cons vw_v .nil))) (fun h9 => ?_) (fun h9 => ?_)
    rotate_left
    · refine v_pick_t rfl rfl ?_
      refine v_move rfl ?_
      refine v_guard_off rfl rfl rfl ?_
      refine v_guard_off rfl rfl rfl ?_
      refine v_guard_off rfl rfl rfl ?_
      refine v_guard_off rfl rfl rfl ?_
      refine v_guard_off rfl rfl rfl ?_
      refine v_pick_f (v := .v (.bool false)) rfl rfl ?_
      refine v_assign rfl ?_
      refine v_assign rfl ?_
      refine v_nil ?_
      refine q_n ?_
      refine w_seq ?_
      refine w_seq ?_
      refine w_reg rfl ?_
      refine v_move rfl ?_
      refine v_not true rfl rfl ?_
      refine v_nil ?_
      refine q_n ?_
      refine w_t rfl ?_
      refine w_seq ?_
      refine w_reg rfl ?_
      refine v_assign (c := .f _ _) rfl ?_
      refine v_assign (c := .v (.bool false)) rfl ?_
      refine v_nil ?_
      refine q_n ?_
      refine w_ret (q_r ?_)
      refine r_r rfl ?_
      have hfr : frac s = none := (frac_at hws).trans fr1_many
      obtain ⟨e1, e2⟩ := fr_none hfr
      rw [e1, e2]
      exact a_tup (.cons (tr_fe (by decide)) (.cons tr_v .nil))
    refine v_pick_t rfl rfl ?_
    refine v_move rfl ?_
    refine v_guard_on rfl rfl ?_
    refine v_move rfl ?_
    refine v_guard_on rfl rfl ?_
    refine v_move rfl ?_
    refine v_guard_on rfl rfl ?_
    refine v_sub lay2 rfl rfl (i64r (by omega)) ?_
    refine v_guard_on rfl rfl ?_
    refine v_bin (c := .v (.int .i64 (aI (nineV u)))) lay2 rfl rfl (rfl) ?_
    refine v_guard_on rfl rfl ?_
    refine v_eql lay2 rfl rfl (fun h10 => ?_) (fun h10 => ?_)
    rotate_left
    · refine v_pick_t rfl rfl ?_
      refine v_assign rfl ?_
      refine v_assign rfl ?_
      refine v_nil ?_
      refine q_n ?_
      refine w_seq ?_
      refine w_seq ?_
      refine w_reg rfl ?_
      refine v_move rfl ?_
      refine v_not true rfl rfl ?_
      refine v_nil ?_
      refine q_n ?_
      refine w_t rfl ?_
      refine w_seq ?_
      refine w_reg rfl ?_
      refine v_assign (c := .f _ _) rfl ?_
      refine v_assign (c := .v (.bool false)) rfl ?_
      refine v_nil ?_
      refine q_n ?_
      refine w_ret (q_r ?_)
      refine r_r rfl ?_
      have hfr : frac s = none := (frac_at hws).trans fr1_many
      obtain ⟨e1, e2⟩ := fr_none hfr
      rw [e1, e2]
      exact a_tup (.cons (tr_fe (by decide)) (.cons tr_v .nil))
    refine v_pick_t rfl rfl ?_
    refine v_assign rfl ?_
    refine v_assign rfl ?_
    refine v_nil ?_
    refine q_n ?_
    refine w_seq ?_
    refine w_seq ?_
    refine w_reg rfl ?_
    refine v_move rfl ?_
    refine v_not false rfl rfl ?_
    refine v_nil ?_
    refine q_n ?_
    refine w_f rfl ?_
    refine w_skip ?_
    refine q_n ?_
    refine w_seq ?_
    refine w_seq ?_
    refine w_reg rfl ?_
    refine v_move rfl ?_
    refine v_nil ?_
    refine q_n ?_
    refine w_f rfl ?_
    refine w_skip ?_
    refine q_n ?_
    refine w_seq ?_
    refine w_reg rfl ?_
    refine v_move rfl ?_
    refine v_conv_if lay2 lay44 rfl ?_
    refine v_move rfl ?_
    refine v_conv_if lay2 lay44 rfl ?_
    refine v_bin (c := .f _ _) lay44 rfl rfl rfl ?_
    refine v_assign rfl ?_
    refine v_assign (c := .v (.bool true)) rfl ?_
    refine v_nil ?_
    refine q_n ?_
    refine w_ret ?_
    refine r_r rfl ?_
    have hg : neg1 w0 = false := by first | exact (split_top hws).1.symm.trans (by assumption) | exact (split_top hws).1.symm.trans (eq_false_of_ne_true (by assumption))
    have hW : wh 6 (top1 w0) := by assumption
    exact absurd (by assumption) hnu
  refine v_call (cCpT h1) rfl rfl rfl (.cons vw_v (.cons vw_v .nil)) ?_
  refine v_move_t rfl ?_
  refine v_extract_c rfl rfl ?_
  refine v_extract_c rfl rfl ?_
  refine v_assign rfl ?_
  refine v_assign rfl ?_
  refine v_nil ?_
  refine q_n ?_
  refine w_seq ?_
  refine w_reg rfl ?_
  refine v_move rfl ?_
  refine v_call (hcut) rfl rfl rfl (.cons vw_v (.cons vw_v .nil)) ?_
  refine v_move_t rfl ?_
  refine v_extract_c rfl rfl ?_
  refine v_extract_c rfl rfl ?_
  refine v_extract_c rfl rfl ?_
  refine v_assign rfl ?_
  refine v_assign rfl ?_
  refine v_assign rfl ?_
  refine v_nil ?_
  refine q_n ?_
  refine w_seq ?_
  refine w_reg rfl ?_
  refine v_move rfl ?_
  refine dec_split (p := wh 6 (top1 w0)) (fun h2 => ?_) (fun h2 => ?_)
  rotate_left
  · refine v_call (cWiF (by decide) hlw h2) rfl rfl rfl (.cons vw_v (.cons vw_v .nil)) ?_
    refine v_move_t rfl ?_
    refine v_extract_c rfl rfl ?_
    refine v_extract_c rfl rfl ?_
    refine v_assign rfl ?_
    refine v_assign rfl ?_
    refine v_nil ?_
    refine q_n ?_
    refine w_seq ?_
    refine w_reg rfl ?_
    refine v_assign (c := .v (.int .i64 1)) rfl ?_
    refine v_nil ?_
    refine q_n ?_
    refine w_seq ?_
    refine w_seq ?_
    refine w_reg rfl ?_
    refine v_move rfl ?_
    refine v_nil ?_
    refine q_n ?_
    refine w_t rfl ?_
    refine w_seq ?_
    refine w_reg rfl ?_
    refine v_move rfl ?_
    refine dec_split (p := wh 4 u) (fun h6 => ?_) (fun h6 => ?_)
    · refine v_call (cWiT (by decide) hlu h6) rfl rfl rfl (.cons vw_v (.cons vw_v .nil)) ?_
      refine v_move_t rfl ?_
      refine v_extract_c rfl rfl ?_
      refine v_extract_c rfl rfl ?_
      refine v_assign rfl ?_
      refine v_assign rfl ?_
      refine v_nil ?_
      refine q_n ?_
      refine w_reg rfl ?_
      refine v_move rfl ?_
      refine v_move rfl ?_
      refine v_move rfl ?_
      refine v_guard_off rfl rfl rfl ?_
      refine v_pick_f (v := .v (.bool false)) rfl rfl ?_
      refine v_move rfl ?_
      refine v_guard_off rfl rfl rfl ?_
      refine v_guard_off rfl rfl rfl ?_
      refine v_pick_f (v := .v (.bool false)) rfl rfl ?_
      refine v_move rfl ?_
      refine v_guard_off rfl rfl rfl ?_
      refine v_guard_off rfl rfl rfl ?_
      refine v_guard_off rfl rfl rfl ?_
      refine v_guard_off rfl rfl rfl ?_
      refine v_guard_off rfl rfl rfl ?_
      refine v_pick_f (v := .v (.bool false)) rfl rfl ?_
      refine v_assign rfl ?_
      refine v_assign rfl ?_
      refine v_nil ?_
      refine q_n ?_
      refine w_seq ?_
      refine w_seq ?_
      refine w_reg rfl ?_
      refine v_move rfl ?_
      refine v_not true rfl rfl ?_
      refine v_nil ?_
      refine q_n ?_
      refine w_t rfl ?_
      refine w_seq ?_
      refine w_reg rfl ?_
      refine v_assign (c := .f _ _) rfl ?_
      refine v_assign (c := .v (.bool false)) rfl ?_
      refine v_nil ?_
      refine q_n ?_
      refine w_ret (q_r ?_)
      refine r_r rfl ?_
      have hfr : frac s = none := (frac_at hws).trans fr1_many
      obtain ⟨e1, e2⟩ := fr_none hfr
      rw [e1, e2]
      exact a_tup (.cons (tr_fe (by decide)) (.cons tr_v .nil))
    refine v_call (cWiF (by decide) hlu h6) rfl rfl rfl (.cons vw_v (.cons vw_v .nil)) ?_
    refine v_move_t rfl ?_
    refine v_extract_c rfl rfl ?_
    refine v_extract_c rfl rfl ?_
    refine v_assign rfl ?_
    refine v_assign rfl ?_
    refine v_nil ?_
    refine q_n ?_
    refine w_reg rfl ?_
    refine v_move rfl ?_
    refine v_move rfl ?_
    refine v_move rfl ?_
    refine v_guard_off rfl rfl rfl ?_
    refine v_pick_f (v := .v (.bool false)) rfl rfl ?_
    refine v_move rfl ?_
    refine v_guard_off rfl rfl rfl ?_
    refine v_guard_off rfl rfl rfl ?_
    refine v_pick_f (v := .v (.bool false)) rfl rfl ?_
    refine v_move rfl ?_
    refine v_guard_off rfl rfl rfl ?_
    refine v_guard_off rfl rfl rfl ?_
    refine v_guard_off rfl rfl rfl ?_
    refine v_guard_off rfl rfl rfl ?_
    refine v_guard_off rfl rfl rfl ?_
    refine v_pick_f (v := .v (.bool false)) rfl rfl ?_
    refine v_assign rfl ?_
    refine v_assign rfl ?_
    refine v_nil ?_
    refine q_n ?_
    refine w_seq ?_
    refine w_seq ?_
    refine w_reg rfl ?_
    refine v_move rfl ?_
    refine v_not true rfl rfl ?_
    refine v_nil ?_
    refine q_n ?_
    refine w_t rfl ?_
    refine w_seq ?_
    refine w_reg rfl ?_
    refine v_assign (c := .f _ _) rfl ?_
    refine v_assign (c := .v (.bool false)) rfl ?_
    refine v_nil ?_
    refine q_n ?_
    refine w_ret (q_r ?_)
    refine r_r rfl ?_
    have hfr : frac s = none := (frac_at hws).trans fr1_many
    obtain ⟨e1, e2⟩ := fr_none hfr
    rw [e1, e2]
    exact a_tup (.cons (tr_fe (by decide)) (.cons tr_v .nil))
  refine v_call (cWiT (by decide) hlw h2) rfl rfl rfl (.cons vw_v (.cons vw_v .nil)) ?_
  refine v_move_t rfl ?_
  refine v_extract_c rfl rfl ?_
  refine v_extract_c rfl rfl ?_
  refine v_assign rfl ?_
  refine v_assign rfl ?_
  refine v_nil ?_
  refine q_n ?_
  refine w_seq ?_
  refine w_reg rfl ?_
  refine v_assign (c := .v (.int .i64 1)) rfl ?_
  refine v_nil ?_
  refine q_n ?_
  refine w_seq ?_
  refine w_seq ?_
  refine w_reg rfl ?_
  refine v_move rfl ?_
  refine v_nil ?_
  refine q_n ?_
  refine w_t rfl ?_
  refine w_seq ?_
  refine w_reg rfl ?_
  refine v_move rfl ?_
  refine dec_split (p := wh 4 u) (fun h3 => ?_) (fun h3 => ?_)
  rotate_left
  · refine v_call (cWiF (by decide) hlu h3) rfl rfl rfl (.cons vw_v (.cons vw_v .nil)) ?_
    refine v_move_t rfl ?_
    refine v_extract_c rfl rfl ?_
    refine v_extract_c rfl rfl ?_
    refine v_assign rfl ?_
    refine v_assign rfl ?_
    refine v_nil ?_
    refine q_n ?_
    refine w_reg rfl ?_
    refine v_move rfl ?_
    refine v_move rfl ?_
    refine v_move rfl ?_
    refine v_guard_on rfl rfl ?_
    refine v_move rfl ?_
    refine v_pick_t rfl rfl ?_
    refine v_move rfl ?_
    refine v_guard_off rfl rfl rfl ?_
    refine v_guard_off rfl rfl rfl ?_
    refine v_pick_f (v := .v (.bool false)) rfl rfl ?_
    refine v_move rfl ?_
    refine v_guard_off rfl rfl rfl ?_
    refine v_guard_off rfl rfl rfl ?_
    refine v_guard_off rfl rfl rfl ?_
    refine v_guard_off rfl rfl rfl ?_
    refine v_guard_off rfl rfl rfl ?_
    refine v_pick_f (v := .v (.bool false)) rfl rfl ?_
    refine v_assign rfl ?_
    refine v_assign rfl ?_
    refine v_nil ?_
    refine q_n ?_
    refine w_seq ?_
    refine w_seq ?_
    refine w_reg rfl ?_
    refine v_move rfl ?_
    refine v_not true rfl rfl ?_
    refine v_nil ?_
    refine q_n ?_
    refine w_t rfl ?_
    refine w_seq ?_
    refine w_reg rfl ?_
    refine v_assign (c := .f _ _) rfl ?_
    refine v_assign (c := .v (.bool false)) rfl ?_
    refine v_nil ?_
    refine q_n ?_
    refine w_ret (q_r ?_)
    refine r_r rfl ?_
    have hfr : frac s = none := (frac_at hws).trans fr1_many
    obtain ⟨e1, e2⟩ := fr_none hfr
    rw [e1, e2]
    exact a_tup (.cons (tr_fe (by decide)) (.cons tr_v .nil))
  refine v_call (cWiT (by decide) hlu h3) rfl rfl rfl (.cons vw_v (.cons vw_v .nil)) ?_
  refine v_move_t rfl ?_
  refine v_extract_c rfl rfl ?_
  refine v_extract_c rfl rfl ?_
  refine v_assign rfl ?_
  refine v_assign rfl ?_
  refine v_nil ?_
  refine q_n ?_
  refine w_reg rfl ?_
  refine v_move rfl ?_
  refine v_move rfl ?_
  refine v_move rfl ?_
  refine v_guard_on rfl rfl ?_
  refine v_move rfl ?_
  refine v_pick_t rfl rfl ?_
  refine v_move rfl ?_
  refine v_guard_on rfl rfl ?_
  refine v_move rfl ?_
  refine v_guard_on rfl rfl ?_
  refine v_callb (cInR _ _ _) rfl rfl (.cons vw_v (.cons vw_v (.cons vw_v .nil))) (fun h4 => ?_) (fun h4 => ?_)
  rotate_left
  · refine v_pick_t rfl rfl ?_
    refine v_move rfl ?_
    refine v_guard_off rfl rfl rfl ?_
    refine v_guard_off rfl rfl rfl ?_
    refine v_guard_off rfl rfl rfl ?_
    refine v_guard_off rfl rfl rfl ?_
    refine v_guard_off rfl rfl rfl ?_
    refine v_pick_f (v := .v (.bool false)) rfl rfl ?_
    refine v_assign rfl ?_
    refine v_assign rfl ?_
    refine v_nil ?_
    refine q_n ?_
    refine w_seq ?_
    refine w_seq ?_
    refine w_reg rfl ?_
    refine v_move rfl ?_
    refine v_not true rfl rfl ?_
    refine v_nil ?_
    refine q_n ?_
    refine w_t rfl ?_
    refine w_seq ?_
    refine w_reg rfl ?_
    refine v_assign (c := .f _ _) rfl ?_
    refine v_assign (c := .v (.bool false)) rfl ?_
    refine v_nil ?_
    refine q_n ?_
    refine w_ret (q_r ?_)
    refine r_r rfl ?_
    have hfr : frac s = none := (frac_at hws).trans fr1_many
    obtain ⟨e1, e2⟩ := fr_none hfr
    rw [e1, e2]
    exact a_tup (.cons (tr_fe (by decide)) (.cons tr_v .nil))
  refine v_pick_t rfl rfl ?_
  refine v_move rfl ?_
  refine v_guard_on rfl rfl ?_
  refine v_move rfl ?_
  refine v_guard_on rfl rfl ?_
  refine v_move rfl ?_
  refine v_guard_on rfl rfl ?_
  refine v_sub lay2 rfl rfl (i64r (by omega)) ?_
  refine v_guard_on rfl rfl ?_
  refine v_bin (c := .v (.int .i64 (aI (nineV u)))) lay2 rfl rfl (rfl) ?_
  refine v_guard_on rfl rfl ?_
  refine v_eql lay2 rfl rfl (fun h5 => ?_) (fun h5 => ?_)
  rotate_left
  · refine v_pick_t rfl rfl ?_
    refine v_assign rfl ?_
    refine v_assign rfl ?_
    refine v_nil ?_
    refine q_n ?_
    refine w_seq ?_
    refine w_seq ?_
    refine w_reg rfl ?_
    refine v_move rfl ?_
    refine v_not true rfl rfl ?_
    refine v_nil ?_
    refine q_n ?_
    refine w_t rfl ?_
    refine w_seq ?_
    refine w_reg rfl ?_
    refine v_assign (c := .f _ _) rfl ?_
    refine v_assign (c := .v (.bool false)) rfl ?_
    refine v_nil ?_
    refine q_n ?_
    refine w_ret (q_r ?_)
    refine r_r rfl ?_
    have hfr : frac s = none := (frac_at hws).trans fr1_many
    obtain ⟨e1, e2⟩ := fr_none hfr
    rw [e1, e2]
    exact a_tup (.cons (tr_fe (by decide)) (.cons tr_v .nil))
  refine v_pick_t rfl rfl ?_
  refine v_assign rfl ?_
  refine v_assign rfl ?_
  refine v_nil ?_
  refine q_n ?_
  refine w_seq ?_
  refine w_seq ?_
  refine w_reg rfl ?_
  refine v_move rfl ?_
  refine v_not false rfl rfl ?_
  refine v_nil ?_
  refine q_n ?_
  refine w_f rfl ?_
  refine w_skip ?_
  refine q_n ?_
  refine w_seq ?_
  refine w_seq ?_
  refine w_reg rfl ?_
  refine v_move rfl ?_
  refine v_nil ?_
  refine q_n ?_
  refine w_t rfl ?_
  refine w_reg rfl ?_
  refine v_move rfl ?_
  refine v_ineg (0 - nineV (top1 w0)) rfl (wrap_of (i64r (by have := wh_rng (by assumption : wh 6 (top1 w0)); omega))) ?_
  refine v_assign rfl ?_
  refine v_nil ?_
  refine q_n ?_
  refine w_seq ?_
  refine w_reg rfl ?_
  refine v_move rfl ?_
  refine v_conv_if lay2 lay44 rfl ?_
  refine v_move rfl ?_
  refine v_conv_if lay2 lay44 rfl ?_
  refine v_bin (c := .f _ _) lay44 rfl rfl rfl ?_
  refine v_assign rfl ?_
  refine v_assign (c := .v (.bool true)) rfl ?_
  refine v_nil ?_
  refine q_n ?_
  refine w_ret ?_
  refine r_r rfl ?_
  have hg : neg1 w0 = true := by first | exact (split_top hws).1.symm.trans (by assumption) | exact (split_top hws).1.symm.trans (eq_false_of_ne_true (by assumption))
  have hW : wh 6 (top1 w0) := by assumption
  exact absurd (by assumption) hnu

theorem cFrS (s : List UInt8) (hs : s.length ≤ 1048576) : PureC X 24 [cS s] (.tup [.c (.f .f32 (frv s)), cB (frok s)]) := by
  cases h : splitB 47 s with
  | nil => exact absurd h (splitB_ne 47 s)
  | cons w0 wr => exact cFrS1 s w0 wr hs h
theorem cFrI (s : List UInt8) (hs : s.length ≤ 1048576) : PureC X 32 [cS s] (.tup [.c (.f .f32 (frv s)), cB (frok s)]) := by
  rcases h : splitB 47 s with _ | ⟨w0, _ | ⟨b, _ | ⟨c, r⟩⟩⟩
  · exact absurd h (splitB_ne 47 s)
  · exact cFrI0 s w0 h hs
  · exact cFrI1 s w0 b h hs
  · exact cFrI2 s w0 b c r h hs
end Go.VL
namespace Go.VL
set_option maxRecDepth 20000
abbrev act (k a b c : Int) (x : Option Nat) : List C := [.v (.int .i64 k), .v (.int .i64 a), .v (.int .i64 b), .v (.int .i64 c), .f .f32 x]
abbrev AD := Int × Int × Int × Int × Option Nat
abbrev acE (a : AD) : List C := act a.1 a.2.1 a.2.2.1 a.2.2.2.1 a.2.2.2.2
theorem acE_len (a : AD) : (acE a).length = 5 := rfl
theorem acE_sc (a : AD) : (acE a).all sc = true := rfl
def fenc (f : List UInt8 × Int × Bool) : List C := [.v (.string (tx f.1)), .v (.int .i64 f.2.1), .v (.bool f.2.2)]
theorem fenc_len (f : List UInt8 × Int × Bool) : (fenc f).length = 3 := rfl
def wordA : List (List UInt8) := [] :: formL.map (·.1)
def wholeL : List Int := [0, 1, 2, 2, 1, 3, 1]
def fracL : List Bool := [false, true, true, false, false, true, false]
/-- The kind that a word tells, among the words before i. -/
def kA (l : List UInt8) : Nat → Nat
  | 0 => 0
  | i + 1 => if 1 ≤ i ∧ wordA.getD i [] = l then i else kA l i
theorem kA_lt (l : List UInt8) : ∀ i : Nat, 0 < i → kA l i < i
  | 0, h => by omega
  | 1, _ => by
    show (if 1 ≤ 0 ∧ wordA.getD 0 [] = l then 0 else kA l 0) < 1
    split <;> exact Nat.zero_lt_one
  | i + 2, _ => by
    have := kA_lt l (i + 1) (by omega)
    unfold kA
    split <;> omega
theorem kA_hit {l : List UInt8} {i : Nat} (h1 : 1 ≤ i) (hq : i < wordA.length) (e : wordA[i] = l) : i = kA l (i + 1) := by
  unfold kA
  rw [if_pos ⟨h1, by rw [List.getD, List.getElem?_eq_getElem hq]; exact e⟩]
theorem kA_miss {l : List UInt8} {i : Nat} (hq : i < wordA.length) (e : ¬ wordA[i] = l) : kA l i = kA l (i + 1) := by
  show _ = (if 1 ≤ i ∧ wordA.getD i [] = l then i else kA l i)
  rw [if_neg (fun h => e (by have := h.2; rwa [List.getD, List.getElem?_eq_getElem hq] at this))]
theorem kA_of {l : List UInt8} : ∀ i : Nat, kA l i ≠ 0 → l = wordA.getD (kA l i) []
  | 0, h => absurd rfl h
  | i + 1, h => by
    have ih := kA_of (l := l) i
    unfold kA at h ⊢
    split at h
    · rename_i hc
      rw [if_pos hc]
      exact hc.2.symm
    · rename_i hc
      rw [if_neg hc]
      exact ih h
abbrev kW (l : List UInt8) : Nat := kA l 7
def nW (l : List UInt8) : Nat := (wholeL.getD (kW l) 0).toNat
def fW (l : List UInt8) : Bool := fracL.getD (kW l) false
theorem whole_at : ∀ (q : Nat) (h : q < wholeL.length), 0 ≤ wholeL[q] ∧ wholeL[q] ≤ 3 := by decide
theorem nW_at {l : List UInt8} (h : kW l < wholeL.length) : wholeL[kW l] = (nW l : Int) := by
  have := whole_at _ h
  unfold nW
  rw [List.getD, List.getElem?_eq_getElem h]
  simp only [Option.getD_some]
  omega
theorem nW_le (l : List UInt8) : nW l ≤ 3 := by
  have h : kW l < wholeL.length := kA_lt l 7 (by decide)
  have h1 := nW_at h
  have h2 := whole_at _ h
  omega
theorem fW_at {l : List UInt8} (h : kW l < fracL.length) : fracL[kW l] = fW l := by
  unfold fW
  rw [List.getD, List.getElem?_eq_getElem h]
  rfl
/-- The first so many numbers. -/
def nvA (wr : List (List UInt8)) (m j : Nat) : Int := if j < m then nineV (wr.getD j []) else 0
def rdA (w0 : List UInt8) (wr : List (List UInt8)) : Option AD :=
  if kW w0 = 0 ∨ wr.length ≠ nW w0 + (if fW w0 then 1 else 0) then none
  else if ∀ w ∈ wr.take (nW w0), wh 3 w then
    if fW w0 then (if frok (wr.getD (nW w0) []) = true then some ((kW w0 : Int), nvA wr (nW w0) 0, nvA wr (nW w0) 1, nvA wr (nW w0) 2, frv (wr.getD (nW w0) [])) else none)
    else some ((kW w0 : Int), nvA wr (nW w0) 0, nvA wr (nW w0) 1, nvA wr (nW w0) 2, some 0)
  else none
abbrev noA : AD := (0, 0, 0, 0, some 0)
abbrev rA (r : Option AD) : V := .tup [.agg (acE (r.getD noA)), .c (.v (.bool r.isSome))]
section
variable {w0 : List UInt8} {wr : List (List UInt8)}
theorem rdA_k (h : kW w0 = 0) : rdA w0 wr = none := by unfold rdA; rw [if_pos (.inl h)]
theorem rdA_l (h : wr.length ≠ nW w0 + (if fW w0 then 1 else 0)) : rdA w0 wr = none := by unfold rdA; rw [if_pos (.inr h)]
theorem rdA_w {w : List UInt8} (hw : w ∈ wr.take (nW w0)) (h : ¬ wh 3 w) : rdA w0 wr = none := by
  unfold rdA
  by_cases h1 : kW w0 = 0 ∨ wr.length ≠ nW w0 + (if fW w0 then 1 else 0)
  · rw [if_pos h1]
  · rw [if_neg h1, if_neg fun hh => h (hh w hw)]
theorem rdA_f (hf : fW w0 = true) (h : ¬ frok (wr.getD (nW w0) []) = true) : rdA w0 wr = none := by
  unfold rdA
  by_cases h1 : kW w0 = 0 ∨ wr.length ≠ nW w0 + (if fW w0 then 1 else 0)
  · rw [if_pos h1]
  · rw [if_neg h1]
    by_cases h2 : ∀ w ∈ wr.take (nW w0), wh 3 w
    · rw [if_pos h2, if_pos hf, if_neg h]
    · rw [if_neg h2]
theorem rdA_yes (hk : kW w0 ≠ 0) (hl : wr.length = nW w0 + (if fW w0 then 1 else 0)) (hw : ∀ w ∈ wr.take (nW w0), wh 3 w) (hf : fW w0 = true) (h : frok (wr.getD (nW w0) []) = true) :
    rdA w0 wr = some ((kW w0 : Int), nvA wr (nW w0) 0, nvA wr (nW w0) 1, nvA wr (nW w0) 2, frv (wr.getD (nW w0) [])) := by
  unfold rdA
  rw [if_neg (fun hh => hh.elim hk (fun h2 => h2 hl)), if_pos hw, if_pos hf, if_pos h]
theorem rdA_yes0 (hk : kW w0 ≠ 0) (hl : wr.length = nW w0 + (if fW w0 then 1 else 0)) (hw : ∀ w ∈ wr.take (nW w0), wh 3 w) (hf : ¬ fW w0 = true) :
    rdA w0 wr = some ((kW w0 : Int), nvA wr (nW w0) 0, nvA wr (nW w0) 1, nvA wr (nW w0) 2, some 0) := by
  unfold rdA
  rw [if_neg (fun hh => hh.elim hk (fun h2 => h2 hl)), if_pos hw, if_neg hf]
end
/-- The program's form of a word. -/
theorem form_k : ∀ (q : Nat) (hq : q < formL.length), kW formL[q].1 = q + 1 ∧ (formL[q].2.1 = (nW formL[q].1 : Int)) ∧ formL[q].2.2 = fW formL[q].1 := by decide
theorem form_none {w0 : List UInt8} (h : ∀ f ∈ formL, ¬ f.1 = w0) : kW w0 = 0 := by
  refine Classical.byContradiction fun h0 => ?_
  have e := kA_of 7 h0
  have hlt := kA_lt w0 7 (by decide)
  have hm : ∀ i : Nat, i < 7 → i ≠ 0 → wordA.getD i [] ∈ formL.map (·.1) := by decide
  have := hm _ hlt h0
  rw [← e] at this
  obtain ⟨f, h1, h2⟩ := List.mem_map.1 this
  exact h f h1 h2
theorem nvA_0 (wr : List (List UInt8)) (j : Nat) : nvA wr 0 j = 0 := by unfold nvA; rw [if_neg (by omega)]
theorem nvA_hit {wr : List (List UInt8)} {i n : Nat} (h : i < n) (hi : i < wr.length) : nineV wr[i] = nvA wr (min (i + 1) n) i := by
  unfold nvA
  rw [if_pos (by omega), List.getD, List.getElem?_eq_getElem hi]
  rfl
theorem nvA_keep {wr : List (List UInt8)} {i n j : Nat} (h : j ≠ i ∨ n ≤ i) : nvA wr (min i n) j = nvA wr (min (i + 1) n) j := by
  unfold nvA
  by_cases h1 : j < min i n
  · rw [if_pos h1, if_pos (by omega)]
  · rw [if_neg h1, if_neg (by omega)]
/-- The array of the numbers read. -/
def lsV (wr : List (List UInt8)) (m : Nat) : List Int := [nvA wr m 0, nvA wr m 1, nvA wr m 2]
theorem lsV_set {wr : List (List UInt8)} {i : Nat} (hi : i < 3) (h : i < wr.length) : (lsV wr i).set i (nineV wr[i]) = lsV wr (i + 1) := by
  have e := nvA_hit (n := i + 1) (Nat.lt_succ_self i) h
  rw [Nat.min_self] at e
  have k : ∀ j, j ≠ i → nvA wr i j = nvA wr (i + 1) j := fun j hj => by
    have := nvA_keep (wr := wr) (i := i) (n := i + 1) (j := j) (.inl hj)
    rwa [Nat.min_self, Nat.min_eq_left (by omega)] at this
  match i, hi with
  | 0, _ => simp only [lsV, List.set_cons_zero, e, k 1 (by decide), k 2 (by decide)]
  | 1, _ => simp only [lsV, List.set_cons_zero, List.set_cons_succ, e, k 0 (by decide), k 2 (by decide)]
  | 2, _ => simp only [lsV, List.set_cons_zero, List.set_cons_succ, e, k 0 (by decide), k 1 (by decide)]
theorem lsV_0 (wr : List (List UInt8)) : lsV wr 0 = [0, 0, 0] := by simp only [lsV, nvA_0]
end Go.VL
namespace Go.VL
open Go.RowKit
set_option maxRecDepth 20000
set_option maxHeartbeats 8000000
theorem trc_ac {H : List Ob} {g : List (Option Nat)} {k a b c k' a' b' c' : Int} {x x' : Option Nat} (h1 : k = k') (h2 : a = a') (h3 : b = b') (h4 : c = c') (h5 : x = x') : TrC H g (act k a b c x) (act k' a' b' c' x') := by
  subst h1 h2 h3 h4 h5
  exact .cons tr_v (.cons tr_v (.cons tr_v (.cons tr_v (.cons tr_f .nil))))
theorem trc_form {H : List Ob} {g : List (Option Nat)} {f : List UInt8 × Int × Bool} : TrC H g (fenc f) (fenc f) := .cons tr_v (.cons tr_v (.cons tr_v .nil))
theorem a_none {H : List Ob} {r0 : V} {r : Option AD} (e : r = none) (h : TrV H [] r0 (.tup [.agg (act 0 0 0 0 (some 0)), .c (.v (.bool false))])) : TrV H [] r0 (rA r) := by
  subst e
  exact h
theorem a_some {H : List Ob} {r0 : V} {r : Option AD} {k a b c : Int} {x : Option Nat} (e : r = some (k, a, b, c, x)) (h : TrV H [] r0 (.tup [.agg (act k a b c x), .c (.v (.bool true))])) : TrV H [] r0 (rA r) := by
  subst e
  exact h
theorem d_get {wr : List (List UInt8)} {j : Nat} (h : j < wr.length) : wr.getD j [] = wr[j] := by rw [List.getD, List.getElem?_eq_getElem h]; rfl
variable [Inhabited Env]
theorem cFrST {s : List UInt8} (hs : s.length ≤ 1048576) (h : frok s = true) : PureC X 24 [cS s] (.tup [.c (.f .f32 (frv s)), cB true]) := by
  have := cFrS s hs
  rwa [h] at this
theorem cFrSTF {s : List UInt8} (hs : s.length ≤ 1048576) (h : ¬ frok s = true) : PureC X 24 [cS s] (.tup [.c (.f .f32 (frv s)), cB false]) := by
  have := cFrS s hs
  rwa [eq_false_of_ne_true h] at this

theorem cFrIT {s : List UInt8} (hs : s.length ≤ 1048576) (h : frok s = true) : PureC X 32 [cS s] (.tup [.c (.f .f32 (frv s)), cB true]) := by
  have := cFrI s hs
  rwa [h] at this
theorem cFrITF {s : List UInt8} (hs : s.length ≤ 1048576) (h : ¬ frok s = true) : PureC X 32 [cS s] (.tup [.c (.f .f32 (frv s)), cB false]) := by
  have := cFrI s hs
  rwa [eq_false_of_ne_true h] at this

theorem cWdA : PureC X 23 [] (.tup [.c (.sl true 7 1 (flat st wordA)), .c (.sl true 7 1 (flat int wholeL)), .c (.sl true 7 1 (flat bo fracL))]) := by
  refine PureC.of_body (drawD_ok X) (fun _ _ => Go.Proofs.Tryd.call23 _ _) Go.Proofs.Tryd.func23 rfl (n := 6) rfl ?_
  refine w_seq ?_
  refine w_reg rfl ?_
  refine v_assign rfl ?_
  refine v_assign rfl ?_
  refine v_assign rfl ?_
  refine v_nil ?_
  refine q_n ?_
  refine w_seq ?_
  refine w_reg rfl ?_
  refine v_lit (flat st [_, _, _, _, _, _, _]) (H' := [_]) lay28 lay9 rfl rfl ⟨by decide, by decide⟩ rfl rfl ?_
  refine v_lit (flat int [_, _, _, _, _, _, _]) (H' := [_, _]) lay31 lay3 rfl rfl ⟨by decide, by decide⟩ rfl rfl ?_
  refine v_lit (flat bo [_, _, _, _, _, _, _]) (H' := [_, _, _]) lay58 lay4 rfl rfl ⟨by decide, by decide⟩ rfl rfl ?_
  refine v_assign rfl ?_
  refine v_assign rfl ?_
  refine v_assign rfl ?_
  refine v_nil ?_
  refine q_n ?_
  refine w_ret ?_
  refine r_r rfl ?_
  exact a_tup (.cons (a_flat (xs := wordA) st_sc st_len rfl rfl) (.cons (a_flat (xs := wholeL) int_sc int_len rfl rfl) (.cons (a_flat (xs := fracL) bo_sc bo_len rfl rfl) .nil)))

theorem cRdAS (w0 : List UInt8) (wr : List (List UInt8)) (hs : ∀ w ∈ w0 :: wr, w.length ≤ 1048576) (hwl : wr.length ≤ 2 ^ 30) : PureC X 16 [.c (.sl false (w0 :: wr).length 1 (flat st (w0 :: wr)))] (rA (rdA w0 wr)) := by
  refine PureC.of_body (drawD_ok X) (fun _ _ => Go.Proofs.Tryd.call16 _ _) Go.Proofs.Tryd.func16 rfl (n := 115) rfl ?_
  have hk7 : kA w0 7 < 7 := kA_lt w0 7 (by decide)
  have hlen : (w0 :: wr).length = wr.length + 1 := rfl
  have hq9 : kA w0 7 < wholeL.length := hk7
  have hq10 : kA w0 7 < fracL.length := hk7
  have hnW : wholeL[kA w0 7] = (nW w0 : Int) := nW_at (l := w0) hq9
  have hfr : fracL[kA w0 7] = fW w0 := fW_at (l := w0) hq10
  have hn3 := nW_le w0
  refine w_seq ?_
  refine w_reg rfl ?_
  refine v_alloc (m := 0) (H' := [⟨[.v _, .v _, .v _, .v _, .f _ _], 46, true⟩]) lay46 rfl rfl ?_
  refine v_assign (c := .v (.bool false)) rfl ?_
  refine v_nil ?_
  refine q_n ?_
  refine w_seq ?_
  refine w_reg rfl ?_
  refine v_call (cWdA) rfl rfl rfl .nil ?_
  refine v_move_t rfl ?_
  refine v_extract_c rfl rfl ?_
  refine v_extract_c rfl rfl ?_
  refine v_extract_c rfl rfl ?_
  refine v_assign rfl ?_
  refine v_assign rfl ?_
  refine v_assign rfl ?_
  refine v_nil ?_
  refine q_n ?_
  refine w_seq ?_
  refine w_reg rfl ?_
  refine v_build [(0, 1), (1, 1), (2, 1), (3, 1), (4, 1)] [.v _, .v _, .v _, .v _, .f _ _] lay46 rfl rfl ?_
  refine v_alloc (m := 1) (H' := [_, ⟨[.v _, .v _, .v _, .v _, .f _ _], 46, true⟩]) lay46 rfl rfl ?_
  refine v_store (H' := [_, ⟨[_, _, _, _, _], 46, true⟩]) lay46 rfl rfl rfl rfl rfl rfl ?_
  refine v_nil ?_
  refine q_n ?_
  refine w_seq ?_
  refine w_seq ?_
  refine w_reg rfl ?_
  refine v_assign (c := .v (.int .i64 1)) rfl ?_
  refine v_nil ?_
  refine q_n ?_
  refine w_block ?_
  refine w_loop (fun k sl H => ∃ i : Nat, k = 7 - i ∧ 1 ≤ i ∧ i ≤ 7 ∧ sl = sls [(0, .c (.sl false (w0 :: wr).length 1 (flat st (w0 :: wr)))), (2, .c (.pt 0 0)), (4, .c (.sl true 7 1 (flat st wordA))), (5, .c (.sl true 7 1 (flat int wholeL))), (6, .c (.sl true 7 1 (flat bo fracL))), (7, .c (.pt 1 0)), (8, cI i)] ∧ H = [⟨act (0) 0 0 0 (some 0), 46, true⟩, ⟨act ((kA w0 i : Nat)) 0 0 0 (some 0), 46, true⟩]) ?_ ?_
  · refine ⟨_, _, _, ?_, 1, rfl, Nat.le_refl _, by omega, rfl, rfl⟩
    exact turn [some 0, some 1] rfl rfl rfl ⟨⟨_, rfl, trc_ac rfl rfl rfl rfl (by decide)⟩, ⟨_, rfl, trc_ac rfl rfl rfl rfl (by decide)⟩, trivial⟩ ⟨tr_sl, tr_pt rfl, tr_sl, tr_sl, tr_sl, tr_pt rfl, tr_v, trivial⟩
  rintro k sl H ⟨i, rfl, hi0, hi, rfl, rfl⟩
  refine w_seq ?_
  refine w_seq ?_
  refine w_reg rfl ?_
  refine v_move rfl ?_
  refine v_move rfl ?_
  refine v_len_sl lay28 rfl ?_
  refine v_lss lay3 rfl rfl (fun h1 => ?_) (fun h1 => ?_)
  · have hq8 : i < wordA.length := by show i < 7; omega
    refine v_nil ?_
    refine q_n ?_
    refine w_t rfl ?_
    refine w_skip ?_
    refine q_n ?_
    refine w_seq ?_
    refine w_block ?_
    refine w_seq ?_
    refine w_draw [0, 0, 3, 7, 0, 16, 48, 127] [⟨0, 0, []⟩, ⟨1, 0, []⟩, ⟨2, 0, []⟩, ⟨3, 0, []⟩, ⟨4, 0, []⟩, ⟨5, 0, []⟩, ⟨6, 0, []⟩, ⟨7, 0, []⟩] rfl rfl ?_
    refine d_q rfl rfl rfl rfl rfl ?_
    refine v_move rfl ?_
    refine v_nil ?_
    refine d_q rfl rfl rfl rfl rfl ?_
    refine v_move rfl ?_
    refine v_nil ?_
    refine d_q rfl rfl rfl rfl rfl ?_
    refine v_idx_e (k := 1) (i) st_len lay28 lay9 rfl rfl rfl (rfl) rfl (rfl) (by show i < 7; omega) ?_
    refine v_nil ?_
    refine d_q rfl rfl rfl rfl rfl ?_
    refine v_load_vw (.c (.v _)) lay9 rfl rfl rfl ?_
    refine v_nil ?_
    refine d_q rfl rfl rfl rfl rfl ?_
    refine v_move rfl ?_
    refine v_nil ?_
    refine d_q rfl rfl rfl rfl rfl ?_
    refine v_idx_e (k := 1) (0) st_len lay28 lay9 rfl rfl rfl (rfl) rfl (rfl) (by simp) ?_
    refine v_nil ?_
    refine d_q rfl rfl rfl rfl rfl ?_
    refine v_load_vw (.c (.v _)) lay9 rfl rfl rfl ?_
    refine v_nil ?_
    refine d_q rfl rfl rfl rfl rfl ?_
    refine v_seql lay9 rfl rfl (fun h4 => ?_) (fun h4 => ?_)
    rotate_left
    · have he := h4
      refine v_nil ?_
      refine d_nil ?_
      refine q_n ?_
      refine w_f rfl ?_
      refine w_skip ?_
      refine q_bn ?_
      refine q_n ?_
      refine w_reg rfl ?_
      refine v_move rfl ?_
      refine v_add lay3 rfl rfl (i64r (by omega)) ?_
      refine v_assign rfl ?_
      refine v_nil ?_
      refine q_n ?_
      refine ⟨_, _, _, ?_, ⟨i + 1, rfl, by omega, by omega, rfl, rfl⟩, by omega⟩
      exact turn [some 0, some 1] rfl rfl rfl ⟨⟨_, rfl, trc_ac rfl rfl rfl rfl rfl⟩, ⟨_, rfl, trc_ac (congrArg (fun z : Nat => (z : Int)) (kA_miss (l := w0) hq8 he)) rfl rfl rfl rfl⟩, trivial⟩ ⟨tr_sl, tr_pt rfl, tr_sl, tr_sl, tr_sl, tr_pt rfl, tr_v, trivial⟩
    have he := h4
    refine v_nil ?_
    refine d_nil ?_
    refine q_n ?_
    refine w_t rfl ?_
    refine w_reg rfl ?_
    refine v_move rfl ?_
    refine v_fa_pt (off' := 0) lay46 rfl rfl rfl ?_
    refine v_store (H' := [_, ⟨[_, _, _, _, _], 46, true⟩]) lay2 rfl rfl rfl rfl rfl rfl ?_
    refine v_nil ?_
    refine q_bn ?_
    refine q_n ?_
    refine w_reg rfl ?_
    refine v_move rfl ?_
    refine v_add lay3 rfl rfl (i64r (by omega)) ?_
    refine v_assign rfl ?_
    refine v_nil ?_
    refine q_n ?_
    refine ⟨_, _, _, ?_, ⟨i + 1, rfl, by omega, by omega, rfl, rfl⟩, by omega⟩
    exact turn [some 0, some 1] rfl rfl rfl ⟨⟨_, rfl, trc_ac rfl rfl rfl rfl rfl⟩, ⟨_, rfl, trc_ac (congrArg (fun z : Nat => (z : Int)) (kA_hit (l := w0) hi0 hq8 he)) rfl rfl rfl rfl⟩, trivial⟩ ⟨tr_sl, tr_pt rfl, tr_sl, tr_sl, tr_sl, tr_pt rfl, tr_v, trivial⟩
  obtain rfl : i = 7 := by omega
  refine v_nil ?_
  refine q_n ?_
  refine w_f rfl ?_
  refine w_exit ?_
  refine q_e ?_
  refine q_e ?_
  refine q_hit ?_
  refine q_n ?_
  refine w_seq ?_
  refine w_reg rfl ?_
  refine v_move rfl ?_
  refine v_fa_pt (off' := 0) lay46 rfl rfl rfl ?_
  refine v_load_pt (.c _) lay2 rfl rfl rfl rfl ?_
  refine v_idx_e (k := 1) (kA w0 7) int_len lay31 lay3 rfl rfl rfl (rfl) rfl (rfl) (hq9) ?_
  refine v_load_vw (.c (.v _)) lay3 rfl rfl rfl ?_
  refine v_add lay3 rfl rfl (i64r (by omega)) ?_
  refine v_assign rfl ?_
  refine v_nil ?_
  refine q_n ?_
  refine w_seq ?_
  refine w_seq ?_
  refine w_reg rfl ?_
  refine v_move rfl ?_
  refine v_fa_pt (off' := 0) lay46 rfl rfl rfl ?_
  refine v_load_pt (.c _) lay2 rfl rfl rfl rfl ?_
  refine v_idx_e (k := 1) (kA w0 7) bo_len lay58 lay4 rfl rfl rfl (rfl) rfl (rfl) (hq10) ?_
  refine v_load_vwb lay4 rfl rfl rfl (fun h7 => ?_) (fun h7 => ?_)
  rotate_left
  · have hfx := h7
    have hfW : ¬ fW w0 = true := by rw [← hfr, hfx]; decide
    refine v_nil ?_
    refine q_n ?_
    refine w_f rfl ?_
    refine w_skip ?_
    refine q_n ?_
    refine w_seq ?_
    refine w_seq ?_
    refine w_reg rfl ?_
    refine v_fa_pt (off' := 0) lay46 rfl rfl rfl ?_
    refine v_load_pt (.c _) lay2 rfl rfl rfl rfl ?_
    refine v_eql lay2 rfl rfl (fun h18 => ?_) (fun h18 => ?_)
    · have hk0 : kA w0 7 = 0 := by omega
      refine v_move rfl ?_
      refine v_guard_off rfl rfl rfl ?_
      refine v_guard_off rfl rfl rfl ?_
      refine v_guard_off rfl rfl rfl ?_
      refine v_guard_off rfl rfl rfl ?_
      refine v_pick_t (v := .v (.bool true)) rfl rfl ?_
      refine v_nil ?_
      refine q_n ?_
      refine w_t rfl ?_
      refine w_seq ?_
      refine w_reg rfl ?_
      refine v_build [(0, 1), (1, 1), (2, 1), (3, 1), (4, 1)] [.v _, .v _, .v _, .v _, .f _ _] lay46 rfl rfl ?_
      refine v_store (H' := [⟨[_, _, _, _, _], 46, true⟩, _]) lay46 rfl rfl rfl rfl rfl rfl ?_
      refine v_assign (c := .v (.bool false)) rfl ?_
      refine v_nil ?_
      refine q_n ?_
      refine w_ret (q_r ?_)
      refine r_r rfl ?_
      exact a_none (rdA_k hk0) (a_tup (.cons (a_agg (trc_ac rfl rfl rfl rfl (by decide))) (.cons tr_v .nil)))
    have hk0 : ¬ kA w0 7 = 0 := by omega
    refine v_move rfl ?_
    refine v_guard_on rfl rfl ?_
    refine v_move rfl ?_
    refine v_guard_on rfl rfl ?_
    refine v_len_sl lay28 rfl ?_
    refine v_guard_on rfl rfl ?_
    refine v_move rfl ?_
    refine v_guard_on rfl rfl ?_
    refine v_neq lay3 rfl rfl (fun h19 => ?_) (fun h19 => ?_)
    · refine v_pick_f rfl rfl ?_
      refine v_nil ?_
      refine q_n ?_
      refine w_t rfl ?_
      refine w_seq ?_
      refine w_reg rfl ?_
      refine v_build [(0, 1), (1, 1), (2, 1), (3, 1), (4, 1)] [.v _, .v _, .v _, .v _, .f _ _] lay46 rfl rfl ?_
      refine v_store (H' := [⟨[_, _, _, _, _], 46, true⟩, _]) lay46 rfl rfl rfl rfl rfl rfl ?_
      refine v_assign (c := .v (.bool false)) rfl ?_
      refine v_nil ?_
      refine q_n ?_
      refine w_ret (q_r ?_)
      refine r_r rfl ?_
      exact a_none (rdA_l (by rw [if_neg hfW]; omega)) (a_tup (.cons (a_agg (trc_ac rfl rfl rfl rfl (by decide))) (.cons tr_v .nil)))
    have hlw : wr.length = nW w0 + 0 := by omega
    refine v_pick_f rfl rfl ?_
    refine v_nil ?_
    refine q_n ?_
    refine w_f rfl ?_
    refine w_skip ?_
    refine q_n ?_
    refine w_seq ?_
    refine w_reg rfl ?_
    refine v_build_a [.v _, .v _, .v _] lay61 lay2 rfl ?_
    refine v_alloc (m := 2) (H' := [_, _, ⟨[.v _, .v _, .v _], 61, true⟩]) lay61 rfl rfl ?_
    refine v_store (H' := [_, _, ⟨[_, _, _], 61, true⟩]) lay61 rfl rfl rfl rfl rfl rfl ?_
    refine v_nil ?_
    refine q_n ?_
    refine w_seq ?_
    refine w_seq ?_
    refine w_reg rfl ?_
    refine v_assign (c := .v (.int .i64 0)) rfl ?_
    refine v_nil ?_
    refine q_n ?_
    refine w_block ?_
    refine w_loop (fun k sl H => ∃ j : Nat, k = nW w0 - j ∧ j ≤ nW w0 ∧ (∀ w ∈ wr.take j, wh 3 w) ∧ sl = sls [(0, .c (.sl false (w0 :: wr).length 1 (flat st (w0 :: wr)))), (2, .c (.pt 0 0)), (5, .c (.sl true 7 1 (flat int wholeL))), (6, .c (.sl true 7 1 (flat bo fracL))), (7, .c (.pt 1 0)), (9, cI (wr.length + 1 : Nat)), (10, .c (.pt 2 0)), (11, cI j)] ∧ H = [⟨act (0) 0 0 0 (some 0), 46, true⟩, ⟨act ((kA w0 7 : Nat)) 0 0 0 (some 0), 46, true⟩, ⟨flat int (lsV wr j), 61, true⟩]) ?_ ?_
    · refine ⟨_, _, _, ?_, 0, rfl, Nat.zero_le _, (fun w hw => by simp at hw), rfl, rfl⟩
      exact turn [some 0, some 1, some 2] rfl rfl rfl ⟨⟨_, rfl, trc_ac rfl rfl rfl rfl rfl⟩, ⟨_, rfl, trc_ac rfl rfl rfl rfl rfl⟩, ⟨_, rfl, trc_flat int_sc (xs := [0, 0, 0]) (congrArg (flat int) (lsV_0 wr).symm)⟩, trivial⟩ ⟨tr_sl, tr_pt rfl, tr_sl, tr_sl, tr_pt rfl, tr_i (by omega), tr_pt rfl, tr_v, trivial⟩
    rintro k sl H ⟨j, rfl, hj, hn, rfl, rfl⟩
    refine w_seq ?_
    refine w_seq ?_
    refine w_reg rfl ?_
    refine v_move rfl ?_
    refine v_move rfl ?_
    refine v_fa_pt (off' := 0) lay46 rfl rfl rfl ?_
    refine v_load_pt (.c _) lay2 rfl rfl rfl rfl ?_
    refine v_idx_e (k := 1) (kA w0 7) int_len lay31 lay3 rfl rfl rfl (rfl) rfl (rfl) (hq9) ?_
    refine v_load_vw (.c (.v _)) lay3 rfl rfl rfl ?_
    refine v_lss lay3 rfl rfl (fun h21 => ?_) (fun h21 => ?_)
    rotate_left
    · obtain rfl : j = nW w0 := by omega
      refine v_nil ?_
      refine q_n ?_
      refine w_f rfl ?_
      refine w_exit ?_
      refine q_e ?_
      refine q_e ?_
      refine q_hit ?_
      refine q_n ?_
      refine w_seq ?_
      refine w_reg rfl ?_
      refine v_idx_arr_e (k := 1) (0) lay61 lay2 rfl rfl rfl (rfl) (by decide) ?_
      refine v_load_flat 0 0 (.c (.v _)) int_len lay2 rfl rfl (by omega) (by show _ < 3; omega) rfl rfl ?_
      refine v_fa_pt (off' := 1) lay46 rfl rfl rfl ?_
      refine v_store (H' := [_, ⟨[_, _, _, _, _], 46, true⟩, _]) lay2 rfl rfl rfl rfl rfl rfl ?_
      refine v_nil ?_
      refine q_n ?_
      refine w_seq ?_
      refine w_reg rfl ?_
      refine v_idx_arr_e (k := 1) (1) lay61 lay2 rfl rfl rfl (rfl) (by decide) ?_
      refine v_load_flat 1 0 (.c (.v _)) int_len lay2 rfl rfl (by omega) (by show _ < 3; omega) rfl rfl ?_
      refine v_fa_pt (off' := 2) lay46 rfl rfl rfl ?_
      refine v_store (H' := [_, ⟨[_, _, _, _, _], 46, true⟩, _]) lay2 rfl rfl rfl rfl rfl rfl ?_
      refine v_nil ?_
      refine q_n ?_
      refine w_seq ?_
      refine w_reg rfl ?_
      refine v_idx_arr_e (k := 1) (2) lay61 lay2 rfl rfl rfl (rfl) (by decide) ?_
      refine v_load_flat 2 0 (.c (.v _)) int_len lay2 rfl rfl (by omega) (by show _ < 3; omega) rfl rfl ?_
      refine v_fa_pt (off' := 3) lay46 rfl rfl rfl ?_
      refine v_store (H' := [_, ⟨[_, _, _, _, _], 46, true⟩, _]) lay2 rfl rfl rfl rfl rfl rfl ?_
      refine v_nil ?_
      refine q_n ?_
      refine w_seq ?_
      refine w_seq ?_
      refine w_reg rfl ?_
      refine v_move rfl ?_
      refine v_fa_pt (off' := 0) lay46 rfl rfl rfl ?_
      refine v_load_pt (.c _) lay2 rfl rfl rfl rfl ?_
      refine v_idx_e (k := 1) (kA w0 7) bo_len lay58 lay4 rfl rfl rfl (rfl) rfl (rfl) (hq10) ?_
      refine v_load_vwb lay4 rfl rfl rfl (fun h25 => ?_) (fun h25 => ?_)
      · exact absurd (hfx.symm.trans h25) (by decide)
      refine v_nil ?_
      refine q_n ?_
      refine w_f rfl ?_
      refine w_skip ?_
      refine q_n ?_
      refine w_seq ?_
      refine w_reg rfl ?_
      refine v_load_pt (.agg [_, _, _, _, _]) lay46 rfl rfl rfl rfl ?_
      refine v_store (H' := [⟨[_, _, _, _, _], 46, true⟩, _, _]) lay46 rfl rfl rfl rfl rfl rfl ?_
      refine v_assign (c := .v (.bool true)) rfl ?_
      refine v_nil ?_
      refine q_n ?_
      refine w_ret ?_
      refine r_r rfl ?_
      exact a_some (rdA_yes0 hk0 (by rw [if_neg hfW]; omega) hn hfW) (a_tup (.cons (a_agg (trc_ac rfl rfl rfl rfl rfl)) (.cons tr_v .nil)))
    have hj1 : j < nW w0 := by omega
    have hj2 : j < wr.length := by omega
    refine v_nil ?_
    refine q_n ?_
    refine w_t rfl ?_
    refine w_skip ?_
    refine q_n ?_
    refine w_seq ?_
    refine w_block ?_
    refine w_seq ?_
    refine w_reg rfl ?_
    refine v_move rfl ?_
    refine v_move rfl ?_
    refine v_add lay3 rfl rfl (i64r (by omega)) ?_
    refine v_idx_e (k := 1) (j + 1) st_len lay28 lay9 rfl rfl rfl (rfl) rfl (by omega) (by omega) ?_
    refine v_load_vw (cS (wr[j]'hj2)) lay9 rfl rfl rfl ?_
    refine dec_split (p := wh 3 (wr[j]'hj2)) (fun h23 => ?_) (fun h23 => ?_)
    rotate_left
    · refine v_call (cWhF h23) rfl rfl rfl (.cons vw_v (.cons vw_v .nil)) ?_
      refine v_move_t rfl ?_
      refine v_extract_c rfl rfl ?_
      refine v_extract_c rfl rfl ?_
      refine v_assign rfl ?_
      refine v_assign rfl ?_
      refine v_nil ?_
      refine q_n ?_
      refine w_seq ?_
      refine w_seq ?_
      refine w_reg rfl ?_
      refine v_move rfl ?_
      refine v_not true rfl rfl ?_
      refine v_nil ?_
      refine q_n ?_
      refine w_t rfl ?_
      refine w_seq ?_
      refine w_reg rfl ?_
      refine v_build [(0, 1), (1, 1), (2, 1), (3, 1), (4, 1)] [.v _, .v _, .v _, .v _, .f _ _] lay46 rfl rfl ?_
      refine v_store (H' := [⟨[_, _, _, _, _], 46, true⟩, _, _]) lay46 rfl rfl rfl rfl rfl rfl ?_
      refine v_assign (c := .v (.bool false)) rfl ?_
      refine v_nil ?_
      refine q_n ?_
      refine w_ret (q_r (q_br (q_r (q_r (q_br (q_r ?_))))))
      refine r_r rfl ?_
      exact a_none (rdA_w (w := wr[j]'hj2) (List.mem_take_iff_getElem.2 ⟨j, by omega, rfl⟩) (by assumption)) (a_tup (.cons (a_agg (trc_ac rfl rfl rfl rfl (by decide))) (.cons tr_v .nil)))
    refine v_call (cWhT h23) rfl rfl rfl (.cons vw_v (.cons vw_v .nil)) ?_
    refine v_move_t rfl ?_
    refine v_extract_c rfl rfl ?_
    refine v_extract_c rfl rfl ?_
    refine v_assign rfl ?_
    refine v_assign rfl ?_
    refine v_nil ?_
    refine q_n ?_
    refine w_seq ?_
    refine w_seq ?_
    refine w_reg rfl ?_
    refine v_move rfl ?_
    refine v_not false rfl rfl ?_
    refine v_nil ?_
    refine q_n ?_
    refine w_f rfl ?_
    refine w_skip ?_
    refine q_n ?_
    refine w_reg rfl ?_
    refine v_move rfl ?_
    refine v_move rfl ?_
    refine v_idx_arr_e (k := 1) (j) lay61 lay2 rfl rfl rfl (rfl) (by show j < 3; omega) ?_
    refine v_store_flat (H' := [_, _, _]) j 0 (nineV (wr[j]'hj2)) int_len lay2 rfl rfl rfl (by omega) (by show _ < 3; omega) rfl rfl (rfl) rfl ?_
    refine v_nil ?_
    refine q_bn ?_
    refine q_n ?_
    refine w_reg rfl ?_
    refine v_move rfl ?_
    refine v_add lay3 rfl rfl (i64r (by omega)) ?_
    refine v_assign rfl ?_
    refine v_nil ?_
    refine q_n ?_
    refine ⟨_, _, _, ?_, ⟨j + 1, rfl, by omega, all_step hj2 hn (by assumption), rfl, rfl⟩, by omega⟩
    exact turn [some 0, some 1, some 2] rfl rfl rfl ⟨⟨_, rfl, trc_ac rfl rfl rfl rfl rfl⟩, ⟨_, rfl, trc_ac rfl rfl rfl rfl rfl⟩, ⟨_, rfl, trc_flat int_sc (congrArg (flat int) (lsV_set (by omega) hj2))⟩, trivial⟩ ⟨tr_sl, tr_pt rfl, tr_sl, tr_sl, tr_pt rfl, tr_v, tr_pt rfl, tr_v, trivial⟩
  have hfx := h7
  have hfW : fW w0 = true := hfr.symm.trans hfx
  refine v_nil ?_
  refine q_n ?_
  refine w_t rfl ?_
  refine w_reg rfl ?_
  refine v_move rfl ?_
  refine v_add lay3 rfl rfl (i64r (by omega)) ?_
  refine v_assign rfl ?_
  refine v_nil ?_
  refine q_n ?_
  refine w_seq ?_
  refine w_seq ?_
  refine w_reg rfl ?_
  refine v_fa_pt (off' := 0) lay46 rfl rfl rfl ?_
  refine v_load_pt (.c _) lay2 rfl rfl rfl rfl ?_
  refine v_eql lay2 rfl rfl (fun h8 => ?_) (fun h8 => ?_)
  · have hk0 : kA w0 7 = 0 := by omega
    refine v_move rfl ?_
    refine v_guard_off rfl rfl rfl ?_
    refine v_guard_off rfl rfl rfl ?_
    refine v_guard_off rfl rfl rfl ?_
    refine v_guard_off rfl rfl rfl ?_
    refine v_pick_t (v := .v (.bool true)) rfl rfl ?_
    refine v_nil ?_
    refine q_n ?_
    refine w_t rfl ?_
    refine w_seq ?_
    refine w_reg rfl ?_
    refine v_build [(0, 1), (1, 1), (2, 1), (3, 1), (4, 1)] [.v _, .v _, .v _, .v _, .f _ _] lay46 rfl rfl ?_
    refine v_store (H' := [⟨[_, _, _, _, _], 46, true⟩, _]) lay46 rfl rfl rfl rfl rfl rfl ?_
    refine v_assign (c := .v (.bool false)) rfl ?_
    refine v_nil ?_
    refine q_n ?_
    refine w_ret (q_r ?_)
    refine r_r rfl ?_
    exact a_none (rdA_k hk0) (a_tup (.cons (a_agg (trc_ac rfl rfl rfl rfl (by decide))) (.cons tr_v .nil)))
  have hk0 : ¬ kA w0 7 = 0 := by omega
  refine v_move rfl ?_
  refine v_guard_on rfl rfl ?_
  refine v_move rfl ?_
  refine v_guard_on rfl rfl ?_
  refine v_len_sl lay28 rfl ?_
  refine v_guard_on rfl rfl ?_
  refine v_move rfl ?_
  refine v_guard_on rfl rfl ?_
  refine v_neq lay3 rfl rfl (fun h9 => ?_) (fun h9 => ?_)
  · refine v_pick_f rfl rfl ?_
    refine v_nil ?_
    refine q_n ?_
    refine w_t rfl ?_
    refine w_seq ?_
    refine w_reg rfl ?_
    refine v_build [(0, 1), (1, 1), (2, 1), (3, 1), (4, 1)] [.v _, .v _, .v _, .v _, .f _ _] lay46 rfl rfl ?_
    refine v_store (H' := [⟨[_, _, _, _, _], 46, true⟩, _]) lay46 rfl rfl rfl rfl rfl rfl ?_
    refine v_assign (c := .v (.bool false)) rfl ?_
    refine v_nil ?_
    refine q_n ?_
    refine w_ret (q_r ?_)
    refine r_r rfl ?_
    exact a_none (rdA_l (by rw [if_pos hfW]; omega)) (a_tup (.cons (a_agg (trc_ac rfl rfl rfl rfl (by decide))) (.cons tr_v .nil)))
  have hlw : wr.length = nW w0 + 1 := by omega
  refine v_pick_f rfl rfl ?_
  refine v_nil ?_
  refine q_n ?_
  refine w_f rfl ?_
  refine w_skip ?_
  refine q_n ?_
  refine w_seq ?_
  refine w_reg rfl ?_
  refine v_build_a [.v _, .v _, .v _] lay61 lay2 rfl ?_
  refine v_alloc (m := 2) (H' := [_, _, ⟨[.v _, .v _, .v _], 61, true⟩]) lay61 rfl rfl ?_
  refine v_store (H' := [_, _, ⟨[_, _, _], 61, true⟩]) lay61 rfl rfl rfl rfl rfl rfl ?_
  refine v_nil ?_
  refine q_n ?_
  refine w_seq ?_
  refine w_seq ?_
  refine w_reg rfl ?_
  refine v_assign (c := .v (.int .i64 0)) rfl ?_
  refine v_nil ?_
  refine q_n ?_
  refine w_block ?_
  refine w_loop (fun k sl H => ∃ j : Nat, k = nW w0 - j ∧ j ≤ nW w0 ∧ (∀ w ∈ wr.take j, wh 3 w) ∧ sl = sls [(0, .c (.sl false (w0 :: wr).length 1 (flat st (w0 :: wr)))), (2, .c (.pt 0 0)), (5, .c (.sl true 7 1 (flat int wholeL))), (6, .c (.sl true 7 1 (flat bo fracL))), (7, .c (.pt 1 0)), (9, cI (wr.length + 1 : Nat)), (10, .c (.pt 2 0)), (11, cI j)] ∧ H = [⟨act (0) 0 0 0 (some 0), 46, true⟩, ⟨act ((kA w0 7 : Nat)) 0 0 0 (some 0), 46, true⟩, ⟨flat int (lsV wr j), 61, true⟩]) ?_ ?_
  · refine ⟨_, _, _, ?_, 0, rfl, Nat.zero_le _, (fun w hw => by simp at hw), rfl, rfl⟩
    exact turn [some 0, some 1, some 2] rfl rfl rfl ⟨⟨_, rfl, trc_ac rfl rfl rfl rfl rfl⟩, ⟨_, rfl, trc_ac rfl rfl rfl rfl rfl⟩, ⟨_, rfl, trc_flat int_sc (xs := [0, 0, 0]) (congrArg (flat int) (lsV_0 wr).symm)⟩, trivial⟩ ⟨tr_sl, tr_pt rfl, tr_sl, tr_sl, tr_pt rfl, tr_i (by omega), tr_pt rfl, tr_v, trivial⟩
  rintro k sl H ⟨j, rfl, hj, hn, rfl, rfl⟩
  refine w_seq ?_
  refine w_seq ?_
  refine w_reg rfl ?_
  refine v_move rfl ?_
  refine v_move rfl ?_
  refine v_fa_pt (off' := 0) lay46 rfl rfl rfl ?_
  refine v_load_pt (.c _) lay2 rfl rfl rfl rfl ?_
  refine v_idx_e (k := 1) (kA w0 7) int_len lay31 lay3 rfl rfl rfl (rfl) rfl (rfl) (hq9) ?_
  refine v_load_vw (.c (.v _)) lay3 rfl rfl rfl ?_
  refine v_lss lay3 rfl rfl (fun h11 => ?_) (fun h11 => ?_)
  · have hj1 : j < nW w0 := by omega
    have hj2 : j < wr.length := by omega
    refine v_nil ?_
    refine q_n ?_
    refine w_t rfl ?_
    refine w_skip ?_
    refine q_n ?_
    refine w_seq ?_
    refine w_block ?_
    refine w_seq ?_
    refine w_reg rfl ?_
    refine v_move rfl ?_
    refine v_move rfl ?_
    refine v_add lay3 rfl rfl (i64r (by omega)) ?_
    refine v_idx_e (k := 1) (j + 1) st_len lay28 lay9 rfl rfl rfl (rfl) rfl (by omega) (by omega) ?_
    refine v_load_vw (cS (wr[j]'hj2)) lay9 rfl rfl rfl ?_
    refine dec_split (p := wh 3 (wr[j]'hj2)) (fun h13 => ?_) (fun h13 => ?_)
    rotate_left
    · refine v_call (cWhF h13) rfl rfl rfl (.cons vw_v (.cons vw_v .nil)) ?_
      refine v_move_t rfl ?_
      refine v_extract_c rfl rfl ?_
      refine v_extract_c rfl rfl ?_
      refine v_assign rfl ?_
      refine v_assign rfl ?_
      refine v_nil ?_
      refine q_n ?_
      refine w_seq ?_
      refine w_seq ?_
      refine w_reg rfl ?_
      refine v_move rfl ?_
      refine v_not true rfl rfl ?_
      refine v_nil ?_
      refine q_n ?_
      refine w_t rfl ?_
      refine w_seq ?_
      refine w_reg rfl ?_
      refine v_build [(0, 1), (1, 1), (2, 1), (3, 1), (4, 1)] [.v _, .v _, .v _, .v _, .f _ _] lay46 rfl rfl ?_
      refine v_store (H' := [⟨[_, _, _, _, _], 46, true⟩, _, _]) lay46 rfl rfl rfl rfl rfl rfl ?_
      refine v_assign (c := .v (.bool false)) rfl ?_
      refine v_nil ?_
      refine q_n ?_
      refine w_ret (q_r (q_br (q_r (q_r (q_br (q_r ?_))))))
      refine r_r rfl ?_
      exact a_none (rdA_w (w := wr[j]'hj2) (List.mem_take_iff_getElem.2 ⟨j, by omega, rfl⟩) (by assumption)) (a_tup (.cons (a_agg (trc_ac rfl rfl rfl rfl (by decide))) (.cons tr_v .nil)))
    refine v_call (cWhT h13) rfl rfl rfl (.cons vw_v (.cons vw_v .nil)) ?_
    refine v_move_t rfl ?_
    refine v_extract_c rfl rfl ?_
    refine v_extract_c rfl rfl ?_
    refine v_assign rfl ?_
    refine v_assign rfl ?_
    refine v_nil ?_
    refine q_n ?_
    refine w_seq ?_
    refine w_seq ?_
    refine w_reg rfl ?_
    refine v_move rfl ?_
    refine v_not false rfl rfl ?_
    refine v_nil ?_
    refine q_n ?_
    refine w_f rfl ?_
    refine w_skip ?_
    refine q_n ?_
    refine w_reg rfl ?_
    refine v_move rfl ?_
    refine v_move rfl ?_
    refine v_idx_arr_e (k := 1) (j) lay61 lay2 rfl rfl rfl (rfl) (by show j < 3; omega) ?_
    refine v_store_flat (H' := [_, _, _]) j 0 (nineV (wr[j]'hj2)) int_len lay2 rfl rfl rfl (by omega) (by show _ < 3; omega) rfl rfl (rfl) rfl ?_
    refine v_nil ?_
    refine q_bn ?_
    refine q_n ?_
    refine w_reg rfl ?_
    refine v_move rfl ?_
    refine v_add lay3 rfl rfl (i64r (by omega)) ?_
    refine v_assign rfl ?_
    refine v_nil ?_
    refine q_n ?_
    refine ⟨_, _, _, ?_, ⟨j + 1, rfl, by omega, all_step hj2 hn (by assumption), rfl, rfl⟩, by omega⟩
    exact turn [some 0, some 1, some 2] rfl rfl rfl ⟨⟨_, rfl, trc_ac rfl rfl rfl rfl rfl⟩, ⟨_, rfl, trc_ac rfl rfl rfl rfl rfl⟩, ⟨_, rfl, trc_flat int_sc (congrArg (flat int) (lsV_set (by omega) hj2))⟩, trivial⟩ ⟨tr_sl, tr_pt rfl, tr_sl, tr_sl, tr_pt rfl, tr_v, tr_pt rfl, tr_v, trivial⟩
  obtain rfl : j = nW w0 := by omega
  refine v_nil ?_
  refine q_n ?_
  refine w_f rfl ?_
  refine w_exit ?_
  refine q_e ?_
  refine q_e ?_
  refine q_hit ?_
  refine q_n ?_
  refine w_seq ?_
  refine w_reg rfl ?_
  refine v_idx_arr_e (k := 1) (0) lay61 lay2 rfl rfl rfl (rfl) (by decide) ?_
  refine v_load_flat 0 0 (.c (.v _)) int_len lay2 rfl rfl (by omega) (by show _ < 3; omega) rfl rfl ?_
  refine v_fa_pt (off' := 1) lay46 rfl rfl rfl ?_
  refine v_store (H' := [_, ⟨[_, _, _, _, _], 46, true⟩, _]) lay2 rfl rfl rfl rfl rfl rfl ?_
  refine v_nil ?_
  refine q_n ?_
  refine w_seq ?_
  refine w_reg rfl ?_
  refine v_idx_arr_e (k := 1) (1) lay61 lay2 rfl rfl rfl (rfl) (by decide) ?_
  refine v_load_flat 1 0 (.c (.v _)) int_len lay2 rfl rfl (by omega) (by show _ < 3; omega) rfl rfl ?_
  refine v_fa_pt (off' := 2) lay46 rfl rfl rfl ?_
  refine v_store (H' := [_, ⟨[_, _, _, _, _], 46, true⟩, _]) lay2 rfl rfl rfl rfl rfl rfl ?_
  refine v_nil ?_
  refine q_n ?_
  refine w_seq ?_
  refine w_reg rfl ?_
  refine v_idx_arr_e (k := 1) (2) lay61 lay2 rfl rfl rfl (rfl) (by decide) ?_
  refine v_load_flat 2 0 (.c (.v _)) int_len lay2 rfl rfl (by omega) (by show _ < 3; omega) rfl rfl ?_
  refine v_fa_pt (off' := 3) lay46 rfl rfl rfl ?_
  refine v_store (H' := [_, ⟨[_, _, _, _, _], 46, true⟩, _]) lay2 rfl rfl rfl rfl rfl rfl ?_
  refine v_nil ?_
  refine q_n ?_
  refine w_seq ?_
  refine w_seq ?_
  refine w_reg rfl ?_
  refine v_move rfl ?_
  refine v_fa_pt (off' := 0) lay46 rfl rfl rfl ?_
  refine v_load_pt (.c _) lay2 rfl rfl rfl rfl ?_
  refine v_idx_e (k := 1) (kA w0 7) bo_len lay58 lay4 rfl rfl rfl (rfl) rfl (rfl) (hq10) ?_
  refine v_load_vwb lay4 rfl rfl rfl (fun h15 => ?_) (fun h15 => ?_)
  rotate_left
  · exact absurd (hfx.symm.trans h15) (by decide)
  have hw9 : nW w0 < wr.length := by omega
  refine v_nil ?_
  refine q_n ?_
  refine w_t rfl ?_
  refine w_seq ?_
  refine w_reg rfl ?_
  refine v_move rfl ?_
  refine v_move rfl ?_
  refine v_sub lay3 rfl rfl (i64r (by omega)) ?_
  refine v_idx_e (k := 1) (nW w0 + 1) st_len lay28 lay9 rfl rfl rfl (rfl) rfl (by omega) (by omega) ?_
  refine v_load_vw (cS (wr[nW w0]'hw9)) lay9 rfl rfl rfl ?_
  refine dec_split (p := frok (wr[nW w0]'hw9) = true) (fun h17 => ?_) (fun h17 => ?_)
  rotate_left
  · refine v_call (cFrSTF (hs _ (List.mem_cons_of_mem _ (List.getElem_mem hw9))) h17) rfl rfl rfl (.cons vw_v .nil) ?_
    refine v_move_t rfl ?_
    refine v_extract_c rfl rfl ?_
    refine v_extract_c rfl rfl ?_
    refine v_assign rfl ?_
    refine v_assign rfl ?_
    refine v_nil ?_
    refine q_n ?_
    refine w_seq ?_
    refine w_seq ?_
    refine w_reg rfl ?_
    refine v_move rfl ?_
    refine v_not true rfl rfl ?_
    refine v_nil ?_
    refine q_n ?_
    refine w_t rfl ?_
    refine w_seq ?_
    refine w_reg rfl ?_
    refine v_build [(0, 1), (1, 1), (2, 1), (3, 1), (4, 1)] [.v _, .v _, .v _, .v _, .f _ _] lay46 rfl rfl ?_
    refine v_store (H' := [⟨[_, _, _, _, _], 46, true⟩, _, _]) lay46 rfl rfl rfl rfl rfl rfl ?_
    refine v_assign (c := .v (.bool false)) rfl ?_
    refine v_nil ?_
    refine q_n ?_
    refine w_ret (q_r (q_r ?_))
    refine r_r rfl ?_
    exact a_none (rdA_f hfW (by rw [d_get hw9]; assumption)) (a_tup (.cons (a_agg (trc_ac rfl rfl rfl rfl (by decide))) (.cons tr_v .nil)))
  refine v_call (cFrST (hs _ (List.mem_cons_of_mem _ (List.getElem_mem hw9))) h17) rfl rfl rfl (.cons vw_v .nil) ?_
  refine v_move_t rfl ?_
  refine v_extract_c rfl rfl ?_
  refine v_extract_c rfl rfl ?_
  refine v_assign rfl ?_
  refine v_assign rfl ?_
  refine v_nil ?_
  refine q_n ?_
  refine w_seq ?_
  refine w_seq ?_
  refine w_reg rfl ?_
  refine v_move rfl ?_
  refine v_not false rfl rfl ?_
  refine v_nil ?_
  refine q_n ?_
  refine w_f rfl ?_
  refine w_skip ?_
  refine q_n ?_
  refine w_reg rfl ?_
  refine v_move rfl ?_
  refine v_fa_pt (off' := 4) lay46 rfl rfl rfl ?_
  refine v_store (H' := [_, ⟨[_, _, _, _, _], 46, true⟩, _]) lay44 rfl rfl rfl rfl rfl rfl ?_
  refine v_nil ?_
  refine q_n ?_
  refine w_seq ?_
  refine w_reg rfl ?_
  refine v_load_pt (.agg [_, _, _, _, _]) lay46 rfl rfl rfl rfl ?_
  refine v_store (H' := [⟨[_, _, _, _, _], 46, true⟩, _, _]) lay46 rfl rfl rfl rfl rfl rfl ?_
  refine v_assign (c := .v (.bool true)) rfl ?_
  refine v_nil ?_
  refine q_n ?_
  refine w_ret ?_
  refine r_r rfl ?_
  refine a_some (rdA_yes hk0 (by rw [if_pos hfW]; omega) hn hfW (by rw [d_get hw9]; assumption)) ?_
  rw [d_get hw9]
  exact a_tup (.cons (a_agg (trc_ac rfl rfl rfl rfl rfl)) (.cons tr_v .nil))
end Go.VL
namespace Go.VL
open Go.RowKit
set_option maxRecDepth 20000
set_option maxHeartbeats 8000000
theorem fix_rng {α : Type} (pr : α → Prop) [DecidablePred pr] (xs : List α) (h0 : 0 < xs.length) : -1 ≤ fix pr xs ∧ fix pr xs < (xs.length : Nat) := by
  unfold fix
  cases h : xs.findIdx? (fun x => decide (pr x)) with
  | none => exact ⟨Int.le_refl _, by show (-1 : Int) < _; omega⟩
  | some i =>
    have := (List.findIdx?_eq_some_iff_getElem.1 h).1
    exact ⟨by show -1 ≤ (i : Int); omega, by show (i : Int) < _; omega⟩
theorem fix_at {α : Type} {pr : α → Prop} [DecidablePred pr] {xs : List α} {q : Nat} (hq : q < xs.length) (e : fix pr xs = (q : Int)) : pr xs[q] := by
  unfold fix at e
  cases h : xs.findIdx? (fun x => decide (pr x)) with
  | none => rw [h] at e; exact absurd e (by show ¬ (-1 : Int) = q; omega)
  | some i =>
    rw [h] at e
    obtain rfl : i = q := Int.ofNat.inj e
    exact of_decide_eq_true (List.findIdx?_eq_some_iff_getElem.1 h).2.1
variable [Inhabited Env]
theorem cRA1 (w0 : List UInt8) (wr : List (List UInt8)) (f : List UInt8 × Int × Bool) : PureC X 31 [.agg (fenc f), .c (.vw false [.sl false (w0 :: wr).length 1 (flat st (w0 :: wr))] 0)] (cB (decide (f.1 = w0))) := by
  refine PureC.of_body (drawD_ok X) (fun _ _ => Go.Proofs.Tryd.call31 _ _) Go.Proofs.Tryd.func31 rfl (n := 10) rfl ?_
  refine w_seq ?_
  refine w_reg rfl ?_
  refine v_box (m := 0) (H' := [_]) lay72 rfl rfl rfl ?_
  refine v_assign (c := .v (.bool false)) rfl ?_
  refine v_nil ?_
  refine q_n ?_
  refine w_seq ?_
  refine w_draw [0, 1, 0, 4, 12, 31, 63] [⟨0, 0, []⟩, ⟨1, 0, []⟩, ⟨2, 0, []⟩, ⟨3, 0, []⟩, ⟨4, 0, []⟩, ⟨5, 0, []⟩, ⟨6, 0, []⟩] rfl rfl ?_
  refine d_q rfl rfl rfl rfl rfl ?_
  refine v_fa_pt (off' := 0) lay72 rfl rfl rfl ?_
  refine v_nil ?_
  refine d_q rfl rfl rfl rfl rfl ?_
  refine v_load_pt (.c _) lay9 rfl rfl rfl rfl ?_
  refine v_nil ?_
  refine d_q rfl rfl rfl rfl rfl ?_
  refine v_load_vw (.c (_)) lay28 rfl rfl rfl ?_
  refine v_nil ?_
  refine d_q rfl rfl rfl rfl rfl ?_
  refine v_idx_e (k := 1) (0) st_len lay28 lay9 rfl rfl rfl (rfl) rfl (rfl) (by simp) ?_
  refine v_nil ?_
  refine d_q rfl rfl rfl rfl rfl ?_
  refine v_load_vw (.c (.v _)) lay9 rfl rfl rfl ?_
  refine v_nil ?_
  refine d_q rfl rfl rfl rfl rfl ?_
  refine v_seql lay9 rfl rfl (fun h2 => ?_) (fun h2 => ?_)
  · refine v_nil ?_
    refine d_q rfl rfl rfl rfl rfl ?_
    refine v_assign rfl ?_
    refine v_nil ?_
    refine d_nil ?_
    refine q_n ?_
    refine w_ret ?_
    refine r_r rfl ?_
    exact a_b ⟨fun _ => by assumption, fun _ => rfl⟩
  refine v_nil ?_
  refine d_q rfl rfl rfl rfl rfl ?_
  refine v_assign rfl ?_
  refine v_nil ?_
  refine d_nil ?_
  refine q_n ?_
  refine w_ret ?_
  refine r_r rfl ?_
  exact a_b ⟨fun h => (by cases h), fun h => absurd h (by assumption)⟩

theorem cIFm (g : FuncId) (cs : List C) (pr : (List UInt8 × Int × Bool) → Prop) [DecidablePred pr] (xs : List (List UInt8 × Int × Bool)) (hx : xs.length ≤ 2 ^ 40) (hF : ∀ x ∈ xs, PureC X g [.agg (fenc x), .c (.vw false cs 0)] (cB (decide (pr x)))) : PureC X 30 [.c (.sl false xs.length 3 (flat fenc xs)), .c (.fn g [.vw false cs 0])] (cI (fix pr xs)) := by
  refine PureC.of_body (drawD_ok X) (fun _ _ => Go.Proofs.Tryd.call30 _ _) Go.Proofs.Tryd.func30 rfl (n := 19) rfl ?_
  refine w_seq ?_
  refine w_reg rfl ?_
  refine v_assign (c := .v (.int .i64 0)) rfl ?_
  refine v_nil ?_
  refine q_n ?_
  refine w_seq ?_
  refine w_seq ?_
  refine w_reg rfl ?_
  refine v_move rfl ?_
  refine v_len_sl lay70 rfl ?_
  refine v_move (c := .v (.int .i64 0)) rfl ?_
  refine v_nil ?_
  refine q_n ?_
  refine w_block ?_
  refine w_loop (fun k sl H => ∃ i : Nat, k = xs.length - i ∧ i ≤ xs.length ∧ (∀ x ∈ xs.take i, ¬ pr x) ∧ sl = sls [(0, .c (.sl false xs.length 3 (flat fenc xs))), (1, .c (.fn g [.vw false cs 0])), (7, cI xs.length), (8, cI i)] ∧ H = []) ?_ ?_
  · refine ⟨_, _, _, ?_, 0, rfl, Nat.zero_le _, by simp, rfl, rfl⟩
    exact turn0 ⟨tr_sl, tr_fn1, tr_v, tr_v, trivial⟩
  rintro k sl H ⟨i, rfl, hi, hp, rfl, rfl⟩
  refine w_seq ?_
  refine w_reg rfl ?_
  refine v_lss lay3 rfl rfl (fun h1 => ?_) (fun h1 => ?_)
  rotate_left
  · refine v_nil ?_
    refine q_n ?_
    refine w_seq ?_
    refine w_f rfl ?_
    refine w_exit ?_
    refine q_e ?_
    refine q_e ?_
    refine q_hit ?_
    refine q_n ?_
    refine w_seq ?_
    refine w_reg rfl ?_
    refine v_assign (c := .v (.int .i64 (-1))) rfl ?_
    refine v_nil ?_
    refine q_n ?_
    refine w_ret ?_
    refine r_r rfl ?_
    obtain rfl : i = xs.length := by omega
    rw [List.take_length] at hp
    exact a_i (fix_none hp).symm
  have hj : i < xs.length := by omega
  refine v_nil ?_
  refine q_n ?_
  refine w_seq ?_
  refine w_t rfl ?_
  refine w_skip ?_
  refine q_n ?_
  refine w_seq ?_
  refine w_block ?_
  refine w_seq ?_
  refine w_reg rfl ?_
  refine v_move rfl ?_
  refine v_assign rfl ?_
  refine v_nil ?_
  refine q_n ?_
  refine w_seq ?_
  refine w_reg rfl ?_
  refine v_move rfl ?_
  refine v_move rfl ?_
  refine v_move rfl ?_
  refine v_idx_e (k := 3) (i) fenc_len lay70 lay72 rfl rfl rfl (rfl) rfl (rfl) ((by omega : i < xs.length)) ?_
  refine v_load_vw (.agg [.v _, .v _, .v _]) lay72 rfl rfl rfl ?_
  refine v_callb (hF _ (List.getElem_mem hj)) rfl rfl (.cons (vw_agg (.cons vw_v (.cons vw_v (.cons vw_v .nil)))) (.cons vw_vw .nil)) (fun h3 => ?_) (fun h3 => ?_)
  · refine v_nil ?_
    refine q_n ?_
    refine w_t rfl ?_
    refine w_seq ?_
    refine w_reg rfl ?_
    refine v_move rfl ?_
    refine v_assign rfl ?_
    refine v_nil ?_
    refine q_n ?_
    refine w_ret (q_br (q_r (q_r (q_br (q_r ?_)))))
    refine r_r rfl ?_
    exact a_i (fix_hit hj hp h3).symm
  refine v_nil ?_
  refine q_n ?_
  refine w_f rfl ?_
  refine w_skip ?_
  refine q_bn ?_
  refine q_n ?_
  refine w_reg rfl ?_
  refine v_add lay3 rfl rfl (i64r (by omega)) ?_
  refine v_move rfl ?_
  refine v_nil ?_
  refine q_n ?_
  refine ⟨_, _, _, ?_, ⟨i + 1, rfl, by omega, all_step hj hp h3, rfl, rfl⟩, by omega⟩
  exact turn0 ⟨tr_sl, tr_fn1, tr_v, tr_v, trivial⟩

theorem cRdAI (w0 : List UInt8) (wr : List (List UInt8)) (hs : ∀ w ∈ w0 :: wr, w.length ≤ 1048576) (hwl : wr.length ≤ 2 ^ 30) : PureC X 20 [.c (.sl false (w0 :: wr).length 1 (flat st (w0 :: wr)))] (rA (rdA w0 wr)) := by
  refine PureC.of_body (drawD_ok X) (fun _ _ => Go.Proofs.Tryd.call20 _ _) Go.Proofs.Tryd.func20 rfl (n := 83) rfl ?_
  have hlen : (w0 :: wr).length = wr.length + 1 := rfl
  have hn3 := nW_le w0
  have hx6 := fix_rng (fun f : List UInt8 × Int × Bool => f.1 = w0) formL (by decide)
  have h6 : formL.length = 6 := rfl
  refine w_seq ?_
  refine w_reg rfl ?_
  refine v_box (m := 0) (H' := [_]) lay28 rfl rfl rfl ?_
  refine v_alloc (m := 1) (H' := [_, ⟨[.v _, .v _, .v _, .v _, .f _ _], 46, true⟩]) lay46 rfl rfl ?_
  refine v_assign (c := .v (.bool false)) rfl ?_
  refine v_nil ?_
  refine q_n ?_
  refine w_seq ?_
  refine w_reg rfl ?_
  refine v_slice_av (k := 3) (cs' := flat fenc formL) lay73 lay72 rfl rfl (by decide) (by unfold maxLen; omega) (Nat.le_of_ble_eq_true rfl) rfl ?_
  refine v_fn rfl ?_
  refine v_call (cIFm 31 [.sl false (w0 :: wr).length 1 (flat st (w0 :: wr))] (fun f => f.1 = w0) formL (by decide) (fun x _ => cRA1 w0 wr x)) rfl rfl rfl (.cons vw_sl (.cons (vw_fn (.cons (vw_pt rfl (.cons (.sl (fun h => by cases h)) .nil)) .nil)) .nil)) ?_
  refine v_assign rfl ?_
  refine v_nil ?_
  refine q_n ?_
  refine w_seq ?_
  refine w_seq ?_
  refine w_reg rfl ?_
  refine v_move rfl ?_
  refine v_lss lay3 rfl rfl (fun h1 => ?_) (fun h1 => ?_)
  · refine v_nil ?_
    refine q_n ?_
    refine w_t rfl ?_
    refine w_seq ?_
    refine w_reg rfl ?_
    refine v_build [(0, 1), (1, 1), (2, 1), (3, 1), (4, 1)] [.v _, .v _, .v _, .v _, .f _ _] lay46 rfl rfl ?_
    refine v_store (H' := [_, ⟨[_, _, _, _, _], 46, true⟩]) lay46 rfl rfl rfl rfl rfl rfl ?_
    refine v_assign (c := .v (.bool false)) rfl ?_
    refine v_nil ?_
    refine q_n ?_
    refine w_ret (q_r ?_)
    refine r_r rfl ?_
    exact a_none (rdA_k (form_none fun f hf e => absurd ((fix_ge (fun f => f.1 = w0) formL).2 ⟨f, hf, e⟩) (by omega))) (a_tup (.cons (a_agg (trc_ac rfl rfl rfl rfl (by decide))) (.cons tr_v .nil)))
  refine v_nil ?_
  refine q_n ?_
  refine w_f rfl ?_
  refine w_skip ?_
  refine q_n ?_
  refine w_seq ?_
  refine w_reg rfl ?_
  refine v_move rfl ?_
  refine v_idx_av (k := 3) lay73 lay72 rfl rfl rfl (by omega) (fun qZ hqZ eZ => ?_)
  have hqZ : qZ < formL.length := hqZ
  have hw : (formL[qZ]'hqZ).1 = w0 := fix_at (pr := fun f => f.1 = w0) hqZ eZ
  obtain ⟨f1, f2, f3⟩ := form_k qZ hqZ
  rw [hw] at f1 f2 f3
  have hk1 : kA w0 7 = qZ + 1 := f1
  have hk0 : ¬ kA w0 7 = 0 := by omega
  refine v_load_av (q := qZ) formL (.agg [.v _, .v _, .v _]) fenc_len lay72 rfl rfl rfl (by show qZ < 6; omega) rfl ?_
  refine v_move rfl ?_
  refine v_add lay2 rfl rfl (i64r (by omega)) ?_
  refine v_build [(0, 1), (1, 1), (2, 1), (3, 1), (4, 1)] [.v _, .v _, .v _, .v _, .f _ _] lay46 rfl rfl ?_
  refine v_alloc (m := 2) (H' := [_, _, ⟨[.v _, .v _, .v _], 72, true⟩]) lay72 rfl rfl ?_
  refine v_alloc (m := 3) (H' := [_, _, _, ⟨[.v _, .v _, .v _, .v _, .f _ _], 46, true⟩]) lay46 rfl rfl ?_
  refine v_store (H' := [_, _, ⟨[_, _, _], 72, true⟩, _]) lay72 rfl rfl rfl rfl rfl rfl ?_
  refine v_store (H' := [_, _, _, ⟨[_, _, _, _, _], 46, true⟩]) lay46 rfl rfl rfl rfl rfl rfl ?_
  refine v_nil ?_
  refine q_n ?_
  refine w_seq ?_
  refine w_reg rfl ?_
  refine v_fa_pt (off' := 1) lay72 rfl rfl rfl ?_
  refine v_load_pt (.c _) lay3 rfl rfl rfl rfl ?_
  refine v_add lay3 rfl rfl (i64r (by omega)) ?_
  refine v_assign rfl ?_
  refine v_nil ?_
  refine q_n ?_
  refine w_seq ?_
  refine w_seq ?_
  refine w_reg rfl ?_
  refine v_fa_pt (off' := 2) lay72 rfl rfl rfl ?_
  refine v_load_ptb lay4 rfl rfl rfl rfl (fun h3 => ?_) (fun h3 => ?_)
  rotate_left
  · have hfx := h3
    have hfW : ¬ fW w0 = true := by rw [← f3, hfx]; decide
    refine v_nil ?_
    refine q_n ?_
    refine w_f rfl ?_
    refine w_skip ?_
    refine q_n ?_
    refine w_seq ?_
    refine w_seq ?_
    refine w_reg rfl ?_
    refine v_load_pt (.c _) lay28 rfl rfl rfl rfl ?_
    refine v_len_sl lay28 rfl ?_
    refine v_move rfl ?_
    refine v_neq lay3 rfl rfl (fun h21 => ?_) (fun h21 => ?_)
    · refine v_nil ?_
      refine q_n ?_
      refine w_t rfl ?_
      refine w_seq ?_
      refine w_reg rfl ?_
      refine v_build [(0, 1), (1, 1), (2, 1), (3, 1), (4, 1)] [.v _, .v _, .v _, .v _, .f _ _] lay46 rfl rfl ?_
      refine v_store (H' := [_, ⟨[_, _, _, _, _], 46, true⟩, _, _]) lay46 rfl rfl rfl rfl rfl rfl ?_
      refine v_assign (c := .v (.bool false)) rfl ?_
      refine v_nil ?_
      refine q_n ?_
      refine w_ret (q_r ?_)
      refine r_r rfl ?_
      exact a_none (rdA_l (by rw [if_neg hfW]; omega)) (a_tup (.cons (a_agg (trc_ac rfl rfl rfl rfl (by decide))) (.cons tr_v .nil)))
    have hlw : wr.length = nW w0 + 0 := by omega
    refine v_nil ?_
    refine q_n ?_
    refine w_f rfl ?_
    refine w_skip ?_
    refine q_n ?_
    refine w_seq ?_
    refine w_seq ?_
    refine w_reg rfl ?_
    refine v_fa_pt (off' := 1) lay46 rfl rfl rfl ?_
    refine v_fa_pt (off' := 2) lay46 rfl rfl rfl ?_
    refine v_fa_pt (off' := 3) lay46 rfl rfl rfl ?_
    refine v_build_a [_, _, _] lay76 lay75 rfl ?_
    refine v_move (c := .v (.int .i64 0)) rfl ?_
    refine v_nil ?_
    refine q_n ?_
    refine w_block ?_
    refine w_loop (fun k sl H => ∃ i : Nat, k = 3 - i ∧ i ≤ 3 ∧ (∀ w ∈ wr.take (min i (nW w0)), wh 3 w) ∧ sl = sls [(1, .c (.pt 0 0)), (2, .c (.pt 1 0)), (5, .c (.pt 2 0)), (6, .c (.pt 3 0)), (7, cI (wr.length + 1 : Nat)), (41, .agg [.pt 3 1, .pt 3 2, .pt 3 3]), (42, cI i)] ∧ H = [⟨[.sl false (w0 :: wr).length 1 (flat st (w0 :: wr))], 28, true⟩, ⟨act 0 0 0 0 (some 0), 46, true⟩, ⟨fenc (formL[qZ]'hqZ), 72, true⟩, ⟨act (kA w0 7 : Nat) (nvA wr (min i (nW w0)) 0) (nvA wr (min i (nW w0)) 1) (nvA wr (min i (nW w0)) 2) (some 0), 46, true⟩]) ?_ ?_
    · refine ⟨_, _, _, ?_, 0, rfl, by omega, (by rw [Nat.zero_min]; intro w hw; simp at hw), rfl, rfl⟩
      exact turn [some 0, some 1, some 2, some 3] rfl rfl rfl ⟨⟨_, rfl, .cons tr_sl .nil⟩, ⟨_, rfl, trc_ac rfl rfl rfl rfl (by decide)⟩, ⟨_, rfl, trc_form⟩, ⟨_, rfl, trc_ac (by omega) ((nvA_0 wr 0).symm.trans (congrArg (fun m => nvA wr m 0) (Nat.zero_min _).symm)) ((nvA_0 wr 1).symm.trans (congrArg (fun m => nvA wr m 1) (Nat.zero_min _).symm)) ((nvA_0 wr 2).symm.trans (congrArg (fun m => nvA wr m 2) (Nat.zero_min _).symm)) (by decide)⟩, trivial⟩ ⟨tr_pt rfl, tr_pt rfl, tr_pt rfl, tr_pt rfl, (tr_i (by omega)), tr_agg (.cons (tr_pt rfl) (.cons (tr_pt rfl) (.cons (tr_pt rfl) .nil))), tr_v, trivial⟩
    rintro k sl H ⟨i, rfl, hi, hn, rfl, rfl⟩
    rcases (by omega : i = 0 ∨ i = 1 ∨ i = 2 ∨ i = 3) with rfl | rfl | rfl | rfl
    · skip
      refine w_seq ?_
      refine w_reg rfl ?_
      refine v_lss lay3 rfl rfl (fun h22 => ?_) (fun h22 => ?_)
      rotate_left
      · exact absurd (by decide) h22
      refine v_nil ?_
      refine q_n ?_
      refine w_seq ?_
      refine w_t rfl ?_
      refine w_skip ?_
      refine q_n ?_
      refine w_seq ?_
      refine w_block ?_
      refine w_seq ?_
      refine w_reg rfl ?_
      refine v_move rfl ?_
      refine v_index (.c _) lay76 lay75 rfl rfl ⟨by decide, by decide, Nat.le_of_ble_eq_true rfl⟩ rfl ?_
      refine v_assign rfl ?_
      refine v_assign rfl ?_
      refine v_nil ?_
      refine q_n ?_
      refine w_seq ?_
      refine w_reg rfl ?_
      refine v_move rfl ?_
      refine v_fa_pt (off' := 1) lay72 rfl rfl rfl ?_
      refine v_load_pt (.c _) lay3 rfl rfl rfl rfl ?_
      refine v_lss lay3 rfl rfl (fun h23 => ?_) (fun h23 => ?_)
      rotate_left
      · refine v_nil ?_
        refine q_n ?_
        refine w_f rfl ?_
        refine w_skip ?_
        refine q_bn ?_
        refine q_n ?_
        refine w_reg rfl ?_
        refine v_add lay3 rfl rfl (i64r (by omega)) ?_
        refine v_move rfl ?_
        refine v_nil ?_
        refine q_n ?_
        refine ⟨_, _, _, ?_, ⟨0 + 1, rfl, by omega, by rwa [show min (0 + 1) (nW w0) = min 0 (nW w0) by omega], rfl, rfl⟩, by omega⟩
        exact turn [some 0, some 1, some 2, some 3] rfl rfl rfl ⟨⟨_, rfl, .cons tr_sl .nil⟩, ⟨_, rfl, trc_ac rfl rfl rfl rfl rfl⟩, ⟨_, rfl, trc_form⟩, ⟨_, rfl, trc_ac rfl (nvA_keep (i := 0) (.inr (by omega))) (nvA_keep (i := 0) (.inl (by decide))) (nvA_keep (i := 0) (.inl (by decide))) rfl⟩, trivial⟩ ⟨tr_pt rfl, tr_pt rfl, tr_pt rfl, tr_pt rfl, tr_v, tr_agg (.cons (tr_pt rfl) (.cons (tr_pt rfl) (.cons (tr_pt rfl) .nil))), tr_v, trivial⟩
      have hjn : 0 < nW w0 := by omega
      have hj2 : 0 < wr.length := by omega
      refine v_nil ?_
      refine q_n ?_
      refine w_t rfl ?_
      refine w_seq ?_
      refine w_reg rfl ?_
      refine v_load_pt (.c _) lay28 rfl rfl rfl rfl ?_
      refine v_move rfl ?_
      refine v_add lay3 rfl rfl (i64r (by omega)) ?_
      refine v_idx_e (k := 1) (1) st_len lay28 lay9 rfl rfl rfl (rfl) rfl (rfl) (by omega) ?_
      refine v_load_vw (cS (wr[0]'hj2)) lay9 rfl rfl rfl ?_
      refine dec_split (p := wh 3 (wr[0]'hj2)) (fun h25 => ?_) (fun h25 => ?_)
      rotate_left
      · refine v_call (cWiF (by decide) (hs _ (List.mem_cons_of_mem _ (List.getElem_mem hj2))) h25) rfl rfl rfl (.cons vw_v (.cons vw_v .nil)) ?_
        refine v_move_t rfl ?_
        refine v_extract_c rfl rfl ?_
        refine v_extract_c rfl rfl ?_
        refine v_assign rfl ?_
        refine v_assign rfl ?_
        refine v_nil ?_
        refine q_n ?_
        refine w_seq ?_
        refine w_seq ?_
        refine w_reg rfl ?_
        refine v_move rfl ?_
        refine v_not true rfl rfl ?_
        refine v_nil ?_
        refine q_n ?_
        refine w_t rfl ?_
        refine w_seq ?_
        refine w_reg rfl ?_
        refine v_build [(0, 1), (1, 1), (2, 1), (3, 1), (4, 1)] [.v _, .v _, .v _, .v _, .f _ _] lay46 rfl rfl ?_
        refine v_store (H' := [_, ⟨[_, _, _, _, _], 46, true⟩, _, _]) lay46 rfl rfl rfl rfl rfl rfl ?_
        refine v_assign (c := .v (.bool false)) rfl ?_
        refine v_nil ?_
        refine q_n ?_
        refine w_ret (q_r (q_br (q_r (q_r (q_br (q_r ?_))))))
        refine r_r rfl ?_
        exact a_none (rdA_w (w := wr[0]'hj2) (List.mem_take_iff_getElem.2 ⟨0, by omega, rfl⟩) (by assumption)) (a_tup (.cons (a_agg (trc_ac rfl rfl rfl rfl (by decide))) (.cons tr_v .nil)))
      refine v_call (cWiT (by decide) (hs _ (List.mem_cons_of_mem _ (List.getElem_mem hj2))) h25) rfl rfl rfl (.cons vw_v (.cons vw_v .nil)) ?_
      refine v_move_t rfl ?_
      refine v_extract_c rfl rfl ?_
      refine v_extract_c rfl rfl ?_
      refine v_assign rfl ?_
      refine v_assign rfl ?_
      refine v_nil ?_
      refine q_n ?_
      refine w_seq ?_
      refine w_seq ?_
      refine w_reg rfl ?_
      refine v_move rfl ?_
      refine v_not false rfl rfl ?_
      refine v_nil ?_
      refine q_n ?_
      refine w_f rfl ?_
      refine w_skip ?_
      refine q_n ?_
      refine w_reg rfl ?_
      refine v_move rfl ?_
      refine v_move rfl ?_
      refine v_nil_pt rfl ?_
      refine v_store (H' := [_, _, _, ⟨[_, _, _, _, _], 46, true⟩]) lay2 rfl rfl rfl rfl rfl rfl ?_
      refine v_nil ?_
      refine q_bn ?_
      refine q_n ?_
      refine w_reg rfl ?_
      refine v_add lay3 rfl rfl (i64r (by omega)) ?_
      refine v_move rfl ?_
      refine v_nil ?_
      refine q_n ?_
      refine ⟨_, _, _, ?_, ⟨0 + 1, rfl, by omega, by rw [show min (0 + 1) (nW w0) = 0 + 1 by omega]; exact all_step hj2 (by rwa [show min 0 (nW w0) = 0 by omega] at hn) (by assumption), rfl, rfl⟩, by omega⟩
      exact turn [some 0, some 1, some 2, some 3] rfl rfl rfl ⟨⟨_, rfl, .cons tr_sl .nil⟩, ⟨_, rfl, trc_ac rfl rfl rfl rfl rfl⟩, ⟨_, rfl, trc_form⟩, ⟨_, rfl, trc_ac rfl (nvA_hit hjn hj2) (nvA_keep (i := 0) (.inl (by decide))) (nvA_keep (i := 0) (.inl (by decide))) rfl⟩, trivial⟩ ⟨tr_pt rfl, tr_pt rfl, tr_pt rfl, tr_pt rfl, tr_v, tr_agg (.cons (tr_pt rfl) (.cons (tr_pt rfl) (.cons (tr_pt rfl) .nil))), tr_v, trivial⟩
    · skip
      refine w_seq ?_
      refine w_reg rfl ?_
      refine v_lss lay3 rfl rfl (fun h26 => ?_) (fun h26 => ?_)
      rotate_left
      · exact absurd (by decide) h26
      refine v_nil ?_
      refine q_n ?_
      refine w_seq ?_
      refine w_t rfl ?_
      refine w_skip ?_
      refine q_n ?_
      refine w_seq ?_
      refine w_block ?_
      refine w_seq ?_
      refine w_reg rfl ?_
      refine v_move rfl ?_
      refine v_index (.c _) lay76 lay75 rfl rfl ⟨by decide, by decide, Nat.le_of_ble_eq_true rfl⟩ rfl ?_
      refine v_assign rfl ?_
      refine v_assign rfl ?_
      refine v_nil ?_
      refine q_n ?_
      refine w_seq ?_
      refine w_reg rfl ?_
      refine v_move rfl ?_
      refine v_fa_pt (off' := 1) lay72 rfl rfl rfl ?_
      refine v_load_pt (.c _) lay3 rfl rfl rfl rfl ?_
      refine v_lss lay3 rfl rfl (fun h27 => ?_) (fun h27 => ?_)
      rotate_left
      · refine v_nil ?_
        refine q_n ?_
        refine w_f rfl ?_
        refine w_skip ?_
        refine q_bn ?_
        refine q_n ?_
        refine w_reg rfl ?_
        refine v_add lay3 rfl rfl (i64r (by omega)) ?_
        refine v_move rfl ?_
        refine v_nil ?_
        refine q_n ?_
        refine ⟨_, _, _, ?_, ⟨1 + 1, rfl, by omega, by rwa [show min (1 + 1) (nW w0) = min 1 (nW w0) by omega], rfl, rfl⟩, by omega⟩
        exact turn [some 0, some 1, some 2, some 3] rfl rfl rfl ⟨⟨_, rfl, .cons tr_sl .nil⟩, ⟨_, rfl, trc_ac rfl rfl rfl rfl rfl⟩, ⟨_, rfl, trc_form⟩, ⟨_, rfl, trc_ac rfl (nvA_keep (i := 1) (.inl (by decide))) (nvA_keep (i := 1) (.inr (by omega))) (nvA_keep (i := 1) (.inl (by decide))) rfl⟩, trivial⟩ ⟨tr_pt rfl, tr_pt rfl, tr_pt rfl, tr_pt rfl, tr_v, tr_agg (.cons (tr_pt rfl) (.cons (tr_pt rfl) (.cons (tr_pt rfl) .nil))), tr_v, trivial⟩
      have hjn : 1 < nW w0 := by omega
      have hj2 : 1 < wr.length := by omega
      refine v_nil ?_
      refine q_n ?_
      refine w_t rfl ?_
      refine w_seq ?_
      refine w_reg rfl ?_
      refine v_load_pt (.c _) lay28 rfl rfl rfl rfl ?_
      refine v_move rfl ?_
      refine v_add lay3 rfl rfl (i64r (by omega)) ?_
      refine v_idx_e (k := 1) (2) st_len lay28 lay9 rfl rfl rfl (rfl) rfl (rfl) (by omega) ?_
      refine v_load_vw (cS (wr[1]'hj2)) lay9 rfl rfl rfl ?_
      refine dec_split (p := wh 3 (wr[1]'hj2)) (fun h29 => ?_) (fun h29 => ?_)
      rotate_left
      · refine v_call (cWiF (by decide) (hs _ (List.mem_cons_of_mem _ (List.getElem_mem hj2))) h29) rfl rfl rfl (.cons vw_v (.cons vw_v .nil)) ?_
        refine v_move_t rfl ?_
        refine v_extract_c rfl rfl ?_
        refine v_extract_c rfl rfl ?_
        refine v_assign rfl ?_
        refine v_assign rfl ?_
        refine v_nil ?_
        refine q_n ?_
        refine w_seq ?_
        refine w_seq ?_
        refine w_reg rfl ?_
        refine v_move rfl ?_
        refine v_not true rfl rfl ?_
        refine v_nil ?_
        refine q_n ?_
        refine w_t rfl ?_
        refine w_seq ?_
        refine w_reg rfl ?_
        refine v_build [(0, 1), (1, 1), (2, 1), (3, 1), (4, 1)] [.v _, .v _, .v _, .v _, .f _ _] lay46 rfl rfl ?_
        refine v_store (H' := [_, ⟨[_, _, _, _, _], 46, true⟩, _, _]) lay46 rfl rfl rfl rfl rfl rfl ?_
        refine v_assign (c := .v (.bool false)) rfl ?_
        refine v_nil ?_
        refine q_n ?_
        refine w_ret (q_r (q_br (q_r (q_r (q_br (q_r ?_))))))
        refine r_r rfl ?_
        exact a_none (rdA_w (w := wr[1]'hj2) (List.mem_take_iff_getElem.2 ⟨1, by omega, rfl⟩) (by assumption)) (a_tup (.cons (a_agg (trc_ac rfl rfl rfl rfl (by decide))) (.cons tr_v .nil)))
      refine v_call (cWiT (by decide) (hs _ (List.mem_cons_of_mem _ (List.getElem_mem hj2))) h29) rfl rfl rfl (.cons vw_v (.cons vw_v .nil)) ?_
      refine v_move_t rfl ?_
      refine v_extract_c rfl rfl ?_
      refine v_extract_c rfl rfl ?_
      refine v_assign rfl ?_
      refine v_assign rfl ?_
      refine v_nil ?_
      refine q_n ?_
      refine w_seq ?_
      refine w_seq ?_
      refine w_reg rfl ?_
      refine v_move rfl ?_
      refine v_not false rfl rfl ?_
      refine v_nil ?_
      refine q_n ?_
      refine w_f rfl ?_
      refine w_skip ?_
      refine q_n ?_
      refine w_reg rfl ?_
      refine v_move rfl ?_
      refine v_move rfl ?_
      refine v_nil_pt rfl ?_
      refine v_store (H' := [_, _, _, ⟨[_, _, _, _, _], 46, true⟩]) lay2 rfl rfl rfl rfl rfl rfl ?_
      refine v_nil ?_
      refine q_bn ?_
      refine q_n ?_
      refine w_reg rfl ?_
      refine v_add lay3 rfl rfl (i64r (by omega)) ?_
      refine v_move rfl ?_
      refine v_nil ?_
      refine q_n ?_
      refine ⟨_, _, _, ?_, ⟨1 + 1, rfl, by omega, by rw [show min (1 + 1) (nW w0) = 1 + 1 by omega]; exact all_step hj2 (by rwa [show min 1 (nW w0) = 1 by omega] at hn) (by assumption), rfl, rfl⟩, by omega⟩
      exact turn [some 0, some 1, some 2, some 3] rfl rfl rfl ⟨⟨_, rfl, .cons tr_sl .nil⟩, ⟨_, rfl, trc_ac rfl rfl rfl rfl rfl⟩, ⟨_, rfl, trc_form⟩, ⟨_, rfl, trc_ac rfl (nvA_keep (i := 1) (.inl (by decide))) (nvA_hit hjn hj2) (nvA_keep (i := 1) (.inl (by decide))) rfl⟩, trivial⟩ ⟨tr_pt rfl, tr_pt rfl, tr_pt rfl, tr_pt rfl, tr_v, tr_agg (.cons (tr_pt rfl) (.cons (tr_pt rfl) (.cons (tr_pt rfl) .nil))), tr_v, trivial⟩
    · skip
      refine w_seq ?_
      refine w_reg rfl ?_
      refine v_lss lay3 rfl rfl (fun h30 => ?_) (fun h30 => ?_)
      rotate_left
      · exact absurd (by decide) h30
      refine v_nil ?_
      refine q_n ?_
      refine w_seq ?_
      refine w_t rfl ?_
      refine w_skip ?_
      refine q_n ?_
      refine w_seq ?_
      refine w_block ?_
      refine w_seq ?_
      refine w_reg rfl ?_
      refine v_move rfl ?_
      refine v_index (.c _) lay76 lay75 rfl rfl ⟨by decide, by decide, Nat.le_of_ble_eq_true rfl⟩ rfl ?_
      refine v_assign rfl ?_
      refine v_assign rfl ?_
      refine v_nil ?_
      refine q_n ?_
      refine w_seq ?_
      refine w_reg rfl ?_
      refine v_move rfl ?_
      refine v_fa_pt (off' := 1) lay72 rfl rfl rfl ?_
      refine v_load_pt (.c _) lay3 rfl rfl rfl rfl ?_
      refine v_lss lay3 rfl rfl (fun h31 => ?_) (fun h31 => ?_)
      rotate_left
      · refine v_nil ?_
        refine q_n ?_
        refine w_f rfl ?_
        refine w_skip ?_
        refine q_bn ?_
        refine q_n ?_
        refine w_reg rfl ?_
        refine v_add lay3 rfl rfl (i64r (by omega)) ?_
        refine v_move rfl ?_
        refine v_nil ?_
        refine q_n ?_
        refine ⟨_, _, _, ?_, ⟨2 + 1, rfl, by omega, by rwa [show min (2 + 1) (nW w0) = min 2 (nW w0) by omega], rfl, rfl⟩, by omega⟩
        exact turn [some 0, some 1, some 2, some 3] rfl rfl rfl ⟨⟨_, rfl, .cons tr_sl .nil⟩, ⟨_, rfl, trc_ac rfl rfl rfl rfl rfl⟩, ⟨_, rfl, trc_form⟩, ⟨_, rfl, trc_ac rfl (nvA_keep (i := 2) (.inl (by decide))) (nvA_keep (i := 2) (.inl (by decide))) (nvA_keep (i := 2) (.inr (by omega))) rfl⟩, trivial⟩ ⟨tr_pt rfl, tr_pt rfl, tr_pt rfl, tr_pt rfl, tr_v, tr_agg (.cons (tr_pt rfl) (.cons (tr_pt rfl) (.cons (tr_pt rfl) .nil))), tr_v, trivial⟩
      have hjn : 2 < nW w0 := by omega
      have hj2 : 2 < wr.length := by omega
      refine v_nil ?_
      refine q_n ?_
      refine w_t rfl ?_
      refine w_seq ?_
      refine w_reg rfl ?_
      refine v_load_pt (.c _) lay28 rfl rfl rfl rfl ?_
      refine v_move rfl ?_
      refine v_add lay3 rfl rfl (i64r (by omega)) ?_
      refine v_idx_e (k := 1) (3) st_len lay28 lay9 rfl rfl rfl (rfl) rfl (rfl) (by omega) ?_
      refine v_load_vw (cS (wr[2]'hj2)) lay9 rfl rfl rfl ?_
      refine dec_split (p := wh 3 (wr[2]'hj2)) (fun h33 => ?_) (fun h33 => ?_)
      rotate_left
      · refine v_call (cWiF (by decide) (hs _ (List.mem_cons_of_mem _ (List.getElem_mem hj2))) h33) rfl rfl rfl (.cons vw_v (.cons vw_v .nil)) ?_
        refine v_move_t rfl ?_
        refine v_extract_c rfl rfl ?_
        refine v_extract_c rfl rfl ?_
        refine v_assign rfl ?_
        refine v_assign rfl ?_
        refine v_nil ?_
        refine q_n ?_
        refine w_seq ?_
        refine w_seq ?_
        refine w_reg rfl ?_
        refine v_move rfl ?_
        refine v_not true rfl rfl ?_
        refine v_nil ?_
        refine q_n ?_
        refine w_t rfl ?_
        refine w_seq ?_
        refine w_reg rfl ?_
        refine v_build [(0, 1), (1, 1), (2, 1), (3, 1), (4, 1)] [.v _, .v _, .v _, .v _, .f _ _] lay46 rfl rfl ?_
        refine v_store (H' := [_, ⟨[_, _, _, _, _], 46, true⟩, _, _]) lay46 rfl rfl rfl rfl rfl rfl ?_
        refine v_assign (c := .v (.bool false)) rfl ?_
        refine v_nil ?_
        refine q_n ?_
        refine w_ret (q_r (q_br (q_r (q_r (q_br (q_r ?_))))))
        refine r_r rfl ?_
        exact a_none (rdA_w (w := wr[2]'hj2) (List.mem_take_iff_getElem.2 ⟨2, by omega, rfl⟩) (by assumption)) (a_tup (.cons (a_agg (trc_ac rfl rfl rfl rfl (by decide))) (.cons tr_v .nil)))
      refine v_call (cWiT (by decide) (hs _ (List.mem_cons_of_mem _ (List.getElem_mem hj2))) h33) rfl rfl rfl (.cons vw_v (.cons vw_v .nil)) ?_
      refine v_move_t rfl ?_
      refine v_extract_c rfl rfl ?_
      refine v_extract_c rfl rfl ?_
      refine v_assign rfl ?_
      refine v_assign rfl ?_
      refine v_nil ?_
      refine q_n ?_
      refine w_seq ?_
      refine w_seq ?_
      refine w_reg rfl ?_
      refine v_move rfl ?_
      refine v_not false rfl rfl ?_
      refine v_nil ?_
      refine q_n ?_
      refine w_f rfl ?_
      refine w_skip ?_
      refine q_n ?_
      refine w_reg rfl ?_
      refine v_move rfl ?_
      refine v_move rfl ?_
      refine v_nil_pt rfl ?_
      refine v_store (H' := [_, _, _, ⟨[_, _, _, _, _], 46, true⟩]) lay2 rfl rfl rfl rfl rfl rfl ?_
      refine v_nil ?_
      refine q_bn ?_
      refine q_n ?_
      refine w_reg rfl ?_
      refine v_add lay3 rfl rfl (i64r (by omega)) ?_
      refine v_move rfl ?_
      refine v_nil ?_
      refine q_n ?_
      refine ⟨_, _, _, ?_, ⟨2 + 1, rfl, by omega, by rw [show min (2 + 1) (nW w0) = 2 + 1 by omega]; exact all_step hj2 (by rwa [show min 2 (nW w0) = 2 by omega] at hn) (by assumption), rfl, rfl⟩, by omega⟩
      exact turn [some 0, some 1, some 2, some 3] rfl rfl rfl ⟨⟨_, rfl, .cons tr_sl .nil⟩, ⟨_, rfl, trc_ac rfl rfl rfl rfl rfl⟩, ⟨_, rfl, trc_form⟩, ⟨_, rfl, trc_ac rfl (nvA_keep (i := 2) (.inl (by decide))) (nvA_keep (i := 2) (.inl (by decide))) (nvA_hit hjn hj2) rfl⟩, trivial⟩ ⟨tr_pt rfl, tr_pt rfl, tr_pt rfl, tr_pt rfl, tr_v, tr_agg (.cons (tr_pt rfl) (.cons (tr_pt rfl) (.cons (tr_pt rfl) .nil))), tr_v, trivial⟩
    · skip
      refine w_seq ?_
      refine w_reg rfl ?_
      refine v_lss lay3 rfl rfl (fun h34 => ?_) (fun h34 => ?_)
      · exact absurd h34 (by decide)
      have hm : min 3 (nW w0) = nW w0 := by omega
      rw [hm] at hn
      refine v_nil ?_
      refine q_n ?_
      refine w_seq ?_
      refine w_f rfl ?_
      refine w_exit ?_
      refine q_e ?_
      refine q_e ?_
      refine q_hit ?_
      refine q_n ?_
      refine w_seq ?_
      refine w_seq ?_
      refine w_reg rfl ?_
      refine v_fa_pt (off' := 2) lay72 rfl rfl rfl ?_
      refine v_load_ptb lay4 rfl rfl rfl rfl (fun h35 => ?_) (fun h35 => ?_)
      · exact absurd (hfx.symm.trans h35) (by decide)
      refine v_nil ?_
      refine q_n ?_
      refine w_f rfl ?_
      refine w_skip ?_
      refine q_n ?_
      refine w_seq ?_
      refine w_reg rfl ?_
      refine v_load_pt (.agg [_, _, _, _, _]) lay46 rfl rfl rfl rfl ?_
      refine v_store (H' := [_, ⟨[_, _, _, _, _], 46, true⟩, _, _]) lay46 rfl rfl rfl rfl rfl rfl ?_
      refine v_assign (c := .v (.bool true)) rfl ?_
      refine v_nil ?_
      refine q_n ?_
      refine w_ret ?_
      refine r_r rfl ?_
      exact a_some (rdA_yes0 hk0 (by rw [if_neg hfW]; omega) hn hfW) (a_tup (.cons (a_agg (trc_ac rfl (congrArg (fun m => nvA wr m 0) hm) (congrArg (fun m => nvA wr m 1) hm) (congrArg (fun m => nvA wr m 2) hm) rfl)) (.cons tr_v .nil)))
  have hfx := h3
  have hfW : fW w0 = true := f3.symm.trans hfx
  refine v_nil ?_
  refine q_n ?_
  refine w_t rfl ?_
  refine w_reg rfl ?_
  refine v_move rfl ?_
  refine v_add lay3 rfl rfl (i64r (by omega)) ?_
  refine v_assign rfl ?_
  refine v_nil ?_
  refine q_n ?_
  refine w_seq ?_
  refine w_seq ?_
  refine w_reg rfl ?_
  refine v_load_pt (.c _) lay28 rfl rfl rfl rfl ?_
  refine v_len_sl lay28 rfl ?_
  refine v_move rfl ?_
  refine v_neq lay3 rfl rfl (fun h4 => ?_) (fun h4 => ?_)
  · refine v_nil ?_
    refine q_n ?_
    refine w_t rfl ?_
    refine w_seq ?_
    refine w_reg rfl ?_
    refine v_build [(0, 1), (1, 1), (2, 1), (3, 1), (4, 1)] [.v _, .v _, .v _, .v _, .f _ _] lay46 rfl rfl ?_
    refine v_store (H' := [_, ⟨[_, _, _, _, _], 46, true⟩, _, _]) lay46 rfl rfl rfl rfl rfl rfl ?_
    refine v_assign (c := .v (.bool false)) rfl ?_
    refine v_nil ?_
    refine q_n ?_
    refine w_ret (q_r ?_)
    refine r_r rfl ?_
    exact a_none (rdA_l (by rw [if_pos hfW]; omega)) (a_tup (.cons (a_agg (trc_ac rfl rfl rfl rfl (by decide))) (.cons tr_v .nil)))
  have hlw : wr.length = nW w0 + 1 := by omega
  refine v_nil ?_
  refine q_n ?_
  refine w_f rfl ?_
  refine w_skip ?_
  refine q_n ?_
  refine w_seq ?_
  refine w_seq ?_
  refine w_reg rfl ?_
  refine v_fa_pt (off' := 1) lay46 rfl rfl rfl ?_
  refine v_fa_pt (off' := 2) lay46 rfl rfl rfl ?_
  refine v_fa_pt (off' := 3) lay46 rfl rfl rfl ?_
  refine v_build_a [_, _, _] lay76 lay75 rfl ?_
  refine v_move (c := .v (.int .i64 0)) rfl ?_
  refine v_nil ?_
  refine q_n ?_
  refine w_block ?_
  refine w_loop (fun k sl H => ∃ i : Nat, k = 3 - i ∧ i ≤ 3 ∧ (∀ w ∈ wr.take (min i (nW w0)), wh 3 w) ∧ sl = sls [(1, .c (.pt 0 0)), (2, .c (.pt 1 0)), (5, .c (.pt 2 0)), (6, .c (.pt 3 0)), (7, cI (wr.length + 1 : Nat)), (41, .agg [.pt 3 1, .pt 3 2, .pt 3 3]), (42, cI i)] ∧ H = [⟨[.sl false (w0 :: wr).length 1 (flat st (w0 :: wr))], 28, true⟩, ⟨act 0 0 0 0 (some 0), 46, true⟩, ⟨fenc (formL[qZ]'hqZ), 72, true⟩, ⟨act (kA w0 7 : Nat) (nvA wr (min i (nW w0)) 0) (nvA wr (min i (nW w0)) 1) (nvA wr (min i (nW w0)) 2) (some 0), 46, true⟩]) ?_ ?_
  · refine ⟨_, _, _, ?_, 0, rfl, by omega, (by rw [Nat.zero_min]; intro w hw; simp at hw), rfl, rfl⟩
    exact turn [some 0, some 1, some 2, some 3] rfl rfl rfl ⟨⟨_, rfl, .cons tr_sl .nil⟩, ⟨_, rfl, trc_ac rfl rfl rfl rfl (by decide)⟩, ⟨_, rfl, trc_form⟩, ⟨_, rfl, trc_ac (by omega) ((nvA_0 wr 0).symm.trans (congrArg (fun m => nvA wr m 0) (Nat.zero_min _).symm)) ((nvA_0 wr 1).symm.trans (congrArg (fun m => nvA wr m 1) (Nat.zero_min _).symm)) ((nvA_0 wr 2).symm.trans (congrArg (fun m => nvA wr m 2) (Nat.zero_min _).symm)) (by decide)⟩, trivial⟩ ⟨tr_pt rfl, tr_pt rfl, tr_pt rfl, tr_pt rfl, (tr_i (by omega)), tr_agg (.cons (tr_pt rfl) (.cons (tr_pt rfl) (.cons (tr_pt rfl) .nil))), tr_v, trivial⟩
  rintro k sl H ⟨i, rfl, hi, hn, rfl, rfl⟩
  rcases (by omega : i = 0 ∨ i = 1 ∨ i = 2 ∨ i = 3) with rfl | rfl | rfl | rfl
  · skip
    refine w_seq ?_
    refine w_reg rfl ?_
    refine v_lss lay3 rfl rfl (fun h5 => ?_) (fun h5 => ?_)
    rotate_left
    · exact absurd (by decide) h5
    refine v_nil ?_
    refine q_n ?_
    refine w_seq ?_
    refine w_t rfl ?_
    refine w_skip ?_
    refine q_n ?_
    refine w_seq ?_
    refine w_block ?_
    refine w_seq ?_
    refine w_reg rfl ?_
    refine v_move rfl ?_
    refine v_index (.c _) lay76 lay75 rfl rfl ⟨by decide, by decide, Nat.le_of_ble_eq_true rfl⟩ rfl ?_
    refine v_assign rfl ?_
    refine v_assign rfl ?_
    refine v_nil ?_
    refine q_n ?_
    refine w_seq ?_
    refine w_reg rfl ?_
    refine v_move rfl ?_
    refine v_fa_pt (off' := 1) lay72 rfl rfl rfl ?_
    refine v_load_pt (.c _) lay3 rfl rfl rfl rfl ?_
    refine v_lss lay3 rfl rfl (fun h6 => ?_) (fun h6 => ?_)
    rotate_left
    · refine v_nil ?_
      refine q_n ?_
      refine w_f rfl ?_
      refine w_skip ?_
      refine q_bn ?_
      refine q_n ?_
      refine w_reg rfl ?_
      refine v_add lay3 rfl rfl (i64r (by omega)) ?_
      refine v_move rfl ?_
      refine v_nil ?_
      refine q_n ?_
      refine ⟨_, _, _, ?_, ⟨0 + 1, rfl, by omega, by rwa [show min (0 + 1) (nW w0) = min 0 (nW w0) by omega], rfl, rfl⟩, by omega⟩
      exact turn [some 0, some 1, some 2, some 3] rfl rfl rfl ⟨⟨_, rfl, .cons tr_sl .nil⟩, ⟨_, rfl, trc_ac rfl rfl rfl rfl rfl⟩, ⟨_, rfl, trc_form⟩, ⟨_, rfl, trc_ac rfl (nvA_keep (i := 0) (.inr (by omega))) (nvA_keep (i := 0) (.inl (by decide))) (nvA_keep (i := 0) (.inl (by decide))) rfl⟩, trivial⟩ ⟨tr_pt rfl, tr_pt rfl, tr_pt rfl, tr_pt rfl, tr_v, tr_agg (.cons (tr_pt rfl) (.cons (tr_pt rfl) (.cons (tr_pt rfl) .nil))), tr_v, trivial⟩
    have hjn : 0 < nW w0 := by omega
    have hj2 : 0 < wr.length := by omega
    refine v_nil ?_
    refine q_n ?_
    refine w_t rfl ?_
    refine w_seq ?_
    refine w_reg rfl ?_
    refine v_load_pt (.c _) lay28 rfl rfl rfl rfl ?_
    refine v_move rfl ?_
    refine v_add lay3 rfl rfl (i64r (by omega)) ?_
    refine v_idx_e (k := 1) (1) st_len lay28 lay9 rfl rfl rfl (rfl) rfl (rfl) (by omega) ?_
    refine v_load_vw (cS (wr[0]'hj2)) lay9 rfl rfl rfl ?_
    refine dec_split (p := wh 3 (wr[0]'hj2)) (fun h8 => ?_) (fun h8 => ?_)
    rotate_left
    · refine v_call (cWiF (by decide) (hs _ (List.mem_cons_of_mem _ (List.getElem_mem hj2))) h8) rfl rfl rfl (.cons vw_v (.cons vw_v .nil)) ?_
      refine v_move_t rfl ?_
      refine v_extract_c rfl rfl ?_
      refine v_extract_c rfl rfl ?_
      refine v_assign rfl ?_
      refine v_assign rfl ?_
      refine v_nil ?_
      refine q_n ?_
      refine w_seq ?_
      refine w_seq ?_
      refine w_reg rfl ?_
      refine v_move rfl ?_
      refine v_not true rfl rfl ?_
      refine v_nil ?_
      refine q_n ?_
      refine w_t rfl ?_
      refine w_seq ?_
      refine w_reg rfl ?_
      refine v_build [(0, 1), (1, 1), (2, 1), (3, 1), (4, 1)] [.v _, .v _, .v _, .v _, .f _ _] lay46 rfl rfl ?_
      refine v_store (H' := [_, ⟨[_, _, _, _, _], 46, true⟩, _, _]) lay46 rfl rfl rfl rfl rfl rfl ?_
      refine v_assign (c := .v (.bool false)) rfl ?_
      refine v_nil ?_
      refine q_n ?_
      refine w_ret (q_r (q_br (q_r (q_r (q_br (q_r ?_))))))
      refine r_r rfl ?_
      exact a_none (rdA_w (w := wr[0]'hj2) (List.mem_take_iff_getElem.2 ⟨0, by omega, rfl⟩) (by assumption)) (a_tup (.cons (a_agg (trc_ac rfl rfl rfl rfl (by decide))) (.cons tr_v .nil)))
    refine v_call (cWiT (by decide) (hs _ (List.mem_cons_of_mem _ (List.getElem_mem hj2))) h8) rfl rfl rfl (.cons vw_v (.cons vw_v .nil)) ?_
    refine v_move_t rfl ?_
    refine v_extract_c rfl rfl ?_
    refine v_extract_c rfl rfl ?_
    refine v_assign rfl ?_
    refine v_assign rfl ?_
    refine v_nil ?_
    refine q_n ?_
    refine w_seq ?_
    refine w_seq ?_
    refine w_reg rfl ?_
    refine v_move rfl ?_
    refine v_not false rfl rfl ?_
    refine v_nil ?_
    refine q_n ?_
    refine w_f rfl ?_
    refine w_skip ?_
    refine q_n ?_
    refine w_reg rfl ?_
    refine v_move rfl ?_
    refine v_move rfl ?_
    refine v_nil_pt rfl ?_
    refine v_store (H' := [_, _, _, ⟨[_, _, _, _, _], 46, true⟩]) lay2 rfl rfl rfl rfl rfl rfl ?_
    refine v_nil ?_
    refine q_bn ?_
    refine q_n ?_
    refine w_reg rfl ?_
    refine v_add lay3 rfl rfl (i64r (by omega)) ?_
    refine v_move rfl ?_
    refine v_nil ?_
    refine q_n ?_
    refine ⟨_, _, _, ?_, ⟨0 + 1, rfl, by omega, by rw [show min (0 + 1) (nW w0) = 0 + 1 by omega]; exact all_step hj2 (by rwa [show min 0 (nW w0) = 0 by omega] at hn) (by assumption), rfl, rfl⟩, by omega⟩
    exact turn [some 0, some 1, some 2, some 3] rfl rfl rfl ⟨⟨_, rfl, .cons tr_sl .nil⟩, ⟨_, rfl, trc_ac rfl rfl rfl rfl rfl⟩, ⟨_, rfl, trc_form⟩, ⟨_, rfl, trc_ac rfl (nvA_hit hjn hj2) (nvA_keep (i := 0) (.inl (by decide))) (nvA_keep (i := 0) (.inl (by decide))) rfl⟩, trivial⟩ ⟨tr_pt rfl, tr_pt rfl, tr_pt rfl, tr_pt rfl, tr_v, tr_agg (.cons (tr_pt rfl) (.cons (tr_pt rfl) (.cons (tr_pt rfl) .nil))), tr_v, trivial⟩
  · skip
    refine w_seq ?_
    refine w_reg rfl ?_
    refine v_lss lay3 rfl rfl (fun h9 => ?_) (fun h9 => ?_)
    rotate_left
    · exact absurd (by decide) h9
    refine v_nil ?_
    refine q_n ?_
    refine w_seq ?_
    refine w_t rfl ?_
    refine w_skip ?_
    refine q_n ?_
    refine w_seq ?_
    refine w_block ?_
    refine w_seq ?_
    refine w_reg rfl ?_
    refine v_move rfl ?_
    refine v_index (.c _) lay76 lay75 rfl rfl ⟨by decide, by decide, Nat.le_of_ble_eq_true rfl⟩ rfl ?_
    refine v_assign rfl ?_
    refine v_assign rfl ?_
    refine v_nil ?_
    refine q_n ?_
    refine w_seq ?_
    refine w_reg rfl ?_
    refine v_move rfl ?_
    refine v_fa_pt (off' := 1) lay72 rfl rfl rfl ?_
    refine v_load_pt (.c _) lay3 rfl rfl rfl rfl ?_
    refine v_lss lay3 rfl rfl (fun h10 => ?_) (fun h10 => ?_)
    rotate_left
    · refine v_nil ?_
      refine q_n ?_
      refine w_f rfl ?_
      refine w_skip ?_
      refine q_bn ?_
      refine q_n ?_
      refine w_reg rfl ?_
      refine v_add lay3 rfl rfl (i64r (by omega)) ?_
      refine v_move rfl ?_
      refine v_nil ?_
      refine q_n ?_
      refine ⟨_, _, _, ?_, ⟨1 + 1, rfl, by omega, by rwa [show min (1 + 1) (nW w0) = min 1 (nW w0) by omega], rfl, rfl⟩, by omega⟩
      exact turn [some 0, some 1, some 2, some 3] rfl rfl rfl ⟨⟨_, rfl, .cons tr_sl .nil⟩, ⟨_, rfl, trc_ac rfl rfl rfl rfl rfl⟩, ⟨_, rfl, trc_form⟩, ⟨_, rfl, trc_ac rfl (nvA_keep (i := 1) (.inl (by decide))) (nvA_keep (i := 1) (.inr (by omega))) (nvA_keep (i := 1) (.inl (by decide))) rfl⟩, trivial⟩ ⟨tr_pt rfl, tr_pt rfl, tr_pt rfl, tr_pt rfl, tr_v, tr_agg (.cons (tr_pt rfl) (.cons (tr_pt rfl) (.cons (tr_pt rfl) .nil))), tr_v, trivial⟩
    have hjn : 1 < nW w0 := by omega
    have hj2 : 1 < wr.length := by omega
    refine v_nil ?_
    refine q_n ?_
    refine w_t rfl ?_
    refine w_seq ?_
    refine w_reg rfl ?_
    refine v_load_pt (.c _) lay28 rfl rfl rfl rfl ?_
    refine v_move rfl ?_
    refine v_add lay3 rfl rfl (i64r (by omega)) ?_
    refine v_idx_e (k := 1) (2) st_len lay28 lay9 rfl rfl rfl (rfl) rfl (rfl) (by omega) ?_
    refine v_load_vw (cS (wr[1]'hj2)) lay9 rfl rfl rfl ?_
    refine dec_split (p := wh 3 (wr[1]'hj2)) (fun h12 => ?_) (fun h12 => ?_)
    rotate_left
    · refine v_call (cWiF (by decide) (hs _ (List.mem_cons_of_mem _ (List.getElem_mem hj2))) h12) rfl rfl rfl (.cons vw_v (.cons vw_v .nil)) ?_
      refine v_move_t rfl ?_
      refine v_extract_c rfl rfl ?_
      refine v_extract_c rfl rfl ?_
      refine v_assign rfl ?_
      refine v_assign rfl ?_
      refine v_nil ?_
      refine q_n ?_
      refine w_seq ?_
      refine w_seq ?_
      refine w_reg rfl ?_
      refine v_move rfl ?_
      refine v_not true rfl rfl ?_
      refine v_nil ?_
      refine q_n ?_
      refine w_t rfl ?_
      refine w_seq ?_
      refine w_reg rfl ?_
      refine v_build [(0, 1), (1, 1), (2, 1), (3, 1), (4, 1)] [.v _, .v _, .v _, .v _, .f _ _] lay46 rfl rfl ?_
      refine v_store (H' := [_, ⟨[_, _, _, _, _], 46, true⟩, _, _]) lay46 rfl rfl rfl rfl rfl rfl ?_
      refine v_assign (c := .v (.bool false)) rfl ?_
      refine v_nil ?_
      refine q_n ?_
      refine w_ret (q_r (q_br (q_r (q_r (q_br (q_r ?_))))))
      refine r_r rfl ?_
      exact a_none (rdA_w (w := wr[1]'hj2) (List.mem_take_iff_getElem.2 ⟨1, by omega, rfl⟩) (by assumption)) (a_tup (.cons (a_agg (trc_ac rfl rfl rfl rfl (by decide))) (.cons tr_v .nil)))
    refine v_call (cWiT (by decide) (hs _ (List.mem_cons_of_mem _ (List.getElem_mem hj2))) h12) rfl rfl rfl (.cons vw_v (.cons vw_v .nil)) ?_
    refine v_move_t rfl ?_
    refine v_extract_c rfl rfl ?_
    refine v_extract_c rfl rfl ?_
    refine v_assign rfl ?_
    refine v_assign rfl ?_
    refine v_nil ?_
    refine q_n ?_
    refine w_seq ?_
    refine w_seq ?_
    refine w_reg rfl ?_
    refine v_move rfl ?_
    refine v_not false rfl rfl ?_
    refine v_nil ?_
    refine q_n ?_
    refine w_f rfl ?_
    refine w_skip ?_
    refine q_n ?_
    refine w_reg rfl ?_
    refine v_move rfl ?_
    refine v_move rfl ?_
    refine v_nil_pt rfl ?_
    refine v_store (H' := [_, _, _, ⟨[_, _, _, _, _], 46, true⟩]) lay2 rfl rfl rfl rfl rfl rfl ?_
    refine v_nil ?_
    refine q_bn ?_
    refine q_n ?_
    refine w_reg rfl ?_
    refine v_add lay3 rfl rfl (i64r (by omega)) ?_
    refine v_move rfl ?_
    refine v_nil ?_
    refine q_n ?_
    refine ⟨_, _, _, ?_, ⟨1 + 1, rfl, by omega, by rw [show min (1 + 1) (nW w0) = 1 + 1 by omega]; exact all_step hj2 (by rwa [show min 1 (nW w0) = 1 by omega] at hn) (by assumption), rfl, rfl⟩, by omega⟩
    exact turn [some 0, some 1, some 2, some 3] rfl rfl rfl ⟨⟨_, rfl, .cons tr_sl .nil⟩, ⟨_, rfl, trc_ac rfl rfl rfl rfl rfl⟩, ⟨_, rfl, trc_form⟩, ⟨_, rfl, trc_ac rfl (nvA_keep (i := 1) (.inl (by decide))) (nvA_hit hjn hj2) (nvA_keep (i := 1) (.inl (by decide))) rfl⟩, trivial⟩ ⟨tr_pt rfl, tr_pt rfl, tr_pt rfl, tr_pt rfl, tr_v, tr_agg (.cons (tr_pt rfl) (.cons (tr_pt rfl) (.cons (tr_pt rfl) .nil))), tr_v, trivial⟩
  · skip
    refine w_seq ?_
    refine w_reg rfl ?_
    refine v_lss lay3 rfl rfl (fun h13 => ?_) (fun h13 => ?_)
    rotate_left
    · exact absurd (by decide) h13
    refine v_nil ?_
    refine q_n ?_
    refine w_seq ?_
    refine w_t rfl ?_
    refine w_skip ?_
    refine q_n ?_
    refine w_seq ?_
    refine w_block ?_
    refine w_seq ?_
    refine w_reg rfl ?_
    refine v_move rfl ?_
    refine v_index (.c _) lay76 lay75 rfl rfl ⟨by decide, by decide, Nat.le_of_ble_eq_true rfl⟩ rfl ?_
    refine v_assign rfl ?_
    refine v_assign rfl ?_
    refine v_nil ?_
    refine q_n ?_
    refine w_seq ?_
    refine w_reg rfl ?_
    refine v_move rfl ?_
    refine v_fa_pt (off' := 1) lay72 rfl rfl rfl ?_
    refine v_load_pt (.c _) lay3 rfl rfl rfl rfl ?_
    refine v_lss lay3 rfl rfl (fun h14 => ?_) (fun h14 => ?_)
    rotate_left
    · refine v_nil ?_
      refine q_n ?_
      refine w_f rfl ?_
      refine w_skip ?_
      refine q_bn ?_
      refine q_n ?_
      refine w_reg rfl ?_
      refine v_add lay3 rfl rfl (i64r (by omega)) ?_
      refine v_move rfl ?_
      refine v_nil ?_
      refine q_n ?_
      refine ⟨_, _, _, ?_, ⟨2 + 1, rfl, by omega, by rwa [show min (2 + 1) (nW w0) = min 2 (nW w0) by omega], rfl, rfl⟩, by omega⟩
      exact turn [some 0, some 1, some 2, some 3] rfl rfl rfl ⟨⟨_, rfl, .cons tr_sl .nil⟩, ⟨_, rfl, trc_ac rfl rfl rfl rfl rfl⟩, ⟨_, rfl, trc_form⟩, ⟨_, rfl, trc_ac rfl (nvA_keep (i := 2) (.inl (by decide))) (nvA_keep (i := 2) (.inl (by decide))) (nvA_keep (i := 2) (.inr (by omega))) rfl⟩, trivial⟩ ⟨tr_pt rfl, tr_pt rfl, tr_pt rfl, tr_pt rfl, tr_v, tr_agg (.cons (tr_pt rfl) (.cons (tr_pt rfl) (.cons (tr_pt rfl) .nil))), tr_v, trivial⟩
    have hjn : 2 < nW w0 := by omega
    have hj2 : 2 < wr.length := by omega
    refine v_nil ?_
    refine q_n ?_
    refine w_t rfl ?_
    refine w_seq ?_
    refine w_reg rfl ?_
    refine v_load_pt (.c _) lay28 rfl rfl rfl rfl ?_
    refine v_move rfl ?_
    refine v_add lay3 rfl rfl (i64r (by omega)) ?_
    refine v_idx_e (k := 1) (3) st_len lay28 lay9 rfl rfl rfl (rfl) rfl (rfl) (by omega) ?_
    refine v_load_vw (cS (wr[2]'hj2)) lay9 rfl rfl rfl ?_
    refine dec_split (p := wh 3 (wr[2]'hj2)) (fun h16 => ?_) (fun h16 => ?_)
    rotate_left
    · refine v_call (cWiF (by decide) (hs _ (List.mem_cons_of_mem _ (List.getElem_mem hj2))) h16) rfl rfl rfl (.cons vw_v (.cons vw_v .nil)) ?_
      refine v_move_t rfl ?_
      refine v_extract_c rfl rfl ?_
      refine v_extract_c rfl rfl ?_
      refine v_assign rfl ?_
      refine v_assign rfl ?_
      refine v_nil ?_
      refine q_n ?_
      refine w_seq ?_
      refine w_seq ?_
      refine w_reg rfl ?_
      refine v_move rfl ?_
      refine v_not true rfl rfl ?_
      refine v_nil ?_
      refine q_n ?_
      refine w_t rfl ?_
      refine w_seq ?_
      refine w_reg rfl ?_
      refine v_build [(0, 1), (1, 1), (2, 1), (3, 1), (4, 1)] [.v _, .v _, .v _, .v _, .f _ _] lay46 rfl rfl ?_
      refine v_store (H' := [_, ⟨[_, _, _, _, _], 46, true⟩, _, _]) lay46 rfl rfl rfl rfl rfl rfl ?_
      refine v_assign (c := .v (.bool false)) rfl ?_
      refine v_nil ?_
      refine q_n ?_
      refine w_ret (q_r (q_br (q_r (q_r (q_br (q_r ?_))))))
      refine r_r rfl ?_
      exact a_none (rdA_w (w := wr[2]'hj2) (List.mem_take_iff_getElem.2 ⟨2, by omega, rfl⟩) (by assumption)) (a_tup (.cons (a_agg (trc_ac rfl rfl rfl rfl (by decide))) (.cons tr_v .nil)))
    refine v_call (cWiT (by decide) (hs _ (List.mem_cons_of_mem _ (List.getElem_mem hj2))) h16) rfl rfl rfl (.cons vw_v (.cons vw_v .nil)) ?_
    refine v_move_t rfl ?_
    refine v_extract_c rfl rfl ?_
    refine v_extract_c rfl rfl ?_
    refine v_assign rfl ?_
    refine v_assign rfl ?_
    refine v_nil ?_
    refine q_n ?_
    refine w_seq ?_
    refine w_seq ?_
    refine w_reg rfl ?_
    refine v_move rfl ?_
    refine v_not false rfl rfl ?_
    refine v_nil ?_
    refine q_n ?_
    refine w_f rfl ?_
    refine w_skip ?_
    refine q_n ?_
    refine w_reg rfl ?_
    refine v_move rfl ?_
    refine v_move rfl ?_
    refine v_nil_pt rfl ?_
    refine v_store (H' := [_, _, _, ⟨[_, _, _, _, _], 46, true⟩]) lay2 rfl rfl rfl rfl rfl rfl ?_
    refine v_nil ?_
    refine q_bn ?_
    refine q_n ?_
    refine w_reg rfl ?_
    refine v_add lay3 rfl rfl (i64r (by omega)) ?_
    refine v_move rfl ?_
    refine v_nil ?_
    refine q_n ?_
    refine ⟨_, _, _, ?_, ⟨2 + 1, rfl, by omega, by rw [show min (2 + 1) (nW w0) = 2 + 1 by omega]; exact all_step hj2 (by rwa [show min 2 (nW w0) = 2 by omega] at hn) (by assumption), rfl, rfl⟩, by omega⟩
    exact turn [some 0, some 1, some 2, some 3] rfl rfl rfl ⟨⟨_, rfl, .cons tr_sl .nil⟩, ⟨_, rfl, trc_ac rfl rfl rfl rfl rfl⟩, ⟨_, rfl, trc_form⟩, ⟨_, rfl, trc_ac rfl (nvA_keep (i := 2) (.inl (by decide))) (nvA_keep (i := 2) (.inl (by decide))) (nvA_hit hjn hj2) rfl⟩, trivial⟩ ⟨tr_pt rfl, tr_pt rfl, tr_pt rfl, tr_pt rfl, tr_v, tr_agg (.cons (tr_pt rfl) (.cons (tr_pt rfl) (.cons (tr_pt rfl) .nil))), tr_v, trivial⟩
  · skip
    refine w_seq ?_
    refine w_reg rfl ?_
    refine v_lss lay3 rfl rfl (fun h17 => ?_) (fun h17 => ?_)
    · exact absurd h17 (by decide)
    have hm : min 3 (nW w0) = nW w0 := by omega
    rw [hm] at hn
    refine v_nil ?_
    refine q_n ?_
    refine w_seq ?_
    refine w_f rfl ?_
    refine w_exit ?_
    refine q_e ?_
    refine q_e ?_
    refine q_hit ?_
    refine q_n ?_
    refine w_seq ?_
    refine w_seq ?_
    refine w_reg rfl ?_
    refine v_fa_pt (off' := 2) lay72 rfl rfl rfl ?_
    refine v_load_ptb lay4 rfl rfl rfl rfl (fun h18 => ?_) (fun h18 => ?_)
    rotate_left
    · exact absurd (hfx.symm.trans h18) (by decide)
    have hw9 : nW w0 < wr.length := by omega
    refine v_nil ?_
    refine q_n ?_
    refine w_t rfl ?_
    refine w_seq ?_
    refine w_reg rfl ?_
    refine v_load_pt (.c _) lay28 rfl rfl rfl rfl ?_
    refine v_move rfl ?_
    refine v_sub lay3 rfl rfl (i64r (by omega)) ?_
    refine v_idx_e (k := 1) (nW w0 + 1) st_len lay28 lay9 rfl rfl rfl (rfl) rfl (by omega) (by omega) ?_
    refine v_load_vw (cS (wr[nW w0]'hw9)) lay9 rfl rfl rfl ?_
    refine dec_split (p := frok (wr[nW w0]'hw9) = true) (fun h20 => ?_) (fun h20 => ?_)
    rotate_left
    · refine v_call (cFrITF (hs _ (List.mem_cons_of_mem _ (List.getElem_mem hw9))) h20) rfl rfl rfl (.cons vw_v .nil) ?_
      refine v_move_t rfl ?_
      refine v_extract_c rfl rfl ?_
      refine v_extract_c rfl rfl ?_
      refine v_assign rfl ?_
      refine v_assign rfl ?_
      refine v_nil ?_
      refine q_n ?_
      refine w_seq ?_
      refine w_seq ?_
      refine w_reg rfl ?_
      refine v_move rfl ?_
      refine v_not true rfl rfl ?_
      refine v_nil ?_
      refine q_n ?_
      refine w_t rfl ?_
      refine w_seq ?_
      refine w_reg rfl ?_
      refine v_build [(0, 1), (1, 1), (2, 1), (3, 1), (4, 1)] [.v _, .v _, .v _, .v _, .f _ _] lay46 rfl rfl ?_
      refine v_store (H' := [_, ⟨[_, _, _, _, _], 46, true⟩, _, _]) lay46 rfl rfl rfl rfl rfl rfl ?_
      refine v_assign (c := .v (.bool false)) rfl ?_
      refine v_nil ?_
      refine q_n ?_
      refine w_ret (q_r (q_r ?_))
      refine r_r rfl ?_
      exact a_none (rdA_f hfW (by rw [d_get hw9]; assumption)) (a_tup (.cons (a_agg (trc_ac rfl rfl rfl rfl (by decide))) (.cons tr_v .nil)))
    refine v_call (cFrIT (hs _ (List.mem_cons_of_mem _ (List.getElem_mem hw9))) h20) rfl rfl rfl (.cons vw_v .nil) ?_
    refine v_move_t rfl ?_
    refine v_extract_c rfl rfl ?_
    refine v_extract_c rfl rfl ?_
    refine v_assign rfl ?_
    refine v_assign rfl ?_
    refine v_nil ?_
    refine q_n ?_
    refine w_seq ?_
    refine w_seq ?_
    refine w_reg rfl ?_
    refine v_move rfl ?_
    refine v_not false rfl rfl ?_
    refine v_nil ?_
    refine q_n ?_
    refine w_f rfl ?_
    refine w_skip ?_
    refine q_n ?_
    refine w_reg rfl ?_
    refine v_move rfl ?_
    refine v_fa_pt (off' := 4) lay46 rfl rfl rfl ?_
    refine v_store (H' := [_, _, _, ⟨[_, _, _, _, _], 46, true⟩]) lay44 rfl rfl rfl rfl rfl rfl ?_
    refine v_nil ?_
    refine q_n ?_
    refine w_seq ?_
    refine w_reg rfl ?_
    refine v_load_pt (.agg [_, _, _, _, _]) lay46 rfl rfl rfl rfl ?_
    refine v_store (H' := [_, ⟨[_, _, _, _, _], 46, true⟩, _, _]) lay46 rfl rfl rfl rfl rfl rfl ?_
    refine v_assign (c := .v (.bool true)) rfl ?_
    refine v_nil ?_
    refine q_n ?_
    refine w_ret ?_
    refine r_r rfl ?_
    refine a_some (rdA_yes hk0 (by rw [if_pos hfW]; omega) hn hfW (by rw [d_get hw9]; assumption)) ?_
    rw [d_get hw9]
    exact a_tup (.cons (a_agg (trc_ac rfl (congrArg (fun m => nvA wr m 0) hm) (congrArg (fun m => nvA wr m 1) hm) (congrArg (fun m => nvA wr m 2) hm) rfl)) (.cons tr_v .nil))
end Go.VL
