/- DERIVED: THE SHELF's CONTRACTS AT THIS DUMP, IN PLAIN WORDS (tools/lay-plain.mjs out of 'TryzShelf.lean', which tools/lay-shelf.mjs wrote): THE SAME DECLARATIONS UNDER THE SAME NAMES: 'import', 'namespace', 'open', 'def', 'theorem' AND NOTHING ELSE: no command of the shelf's: FOR A HAND-IN. Each laying: the table of numbers ('.._ren') and one theorem, a field a fact of the dump's own or the kernel's comparison; each contract: ONE APPLICATION. | Hand walks: strings.Builder's copyCheck and WriteString. | Hand walk: strings.Cut at a separator of one byte. | Hand walk: strings.Split at a separator of one byte. | Hand walk: start.Request. | Hand walk: start.Request in the printer's form. | strings.Repeat in the printer's form. | Hand walk: digits.Pad at a width of three. | Hand walk: start.Version, start.Line. | Hand walks: the reference's Digits, Text (layer 2). | Hand walks: the reference's Pad at a width of three (layer 2), Version, Line (layer 15). -/
import Derived.Shelf.Strings.Builder1
import Derived.Shelf.Strings.Builder2
import Derived.Shelf.Strings.Trim
import Derived.Shelf.Small.Utf8
import Derived.Shelf.Small.Strs
import Derived.Shelf.Strings.BuilderF
import Derived.Shelf.Strings.BuilderK
import Derived.Shelf.Strings.Search1
import Derived.Shelf.Strings.Search2
import Derived.Shelf.Strings.Search3
import Derived.Shelf.Strings.Cut
import Derived.Shelf.Strings.Count
import Derived.Shelf.LaysM
import Derived.Shelf.Strings.Shaped
import Derived.Shelf.Strings.Prefix
import Derived.Shelf.Strings.Split
import Derived.Shelf.Strings.SplitShaped
import Derived.Shelf.Strings.Runes
import Derived.Shelf.Strings.AsciiSet
import Derived.Shelf.Bits.Mul64
import Derived.Shelf.Strings.Repeat
import Derived.Shelf.Unicode.DecodeSlow
import Derived.Test.YtiiploicaimnpaaGreatDoorProg
import Derived.Test.YtiiploicaimnpaaGreatDoorHa
import Derived.Lib.Builder
import Derived.RangeFuncOwn
import Derived.Lib.AppendStr
import Derived.Lib.UnsafeStr
import Derived.WalkKit
import Derived.Laws.Externs
import Derived.Laws.IdiomCopy
import Derived.Laws.BitsLemmas
import Derived.Lib.Hide
import Derived.StillTailTactics
import Derived.Deep.RegionHeld3
import Derived.Deep.QuietTactic
import Derived.BigQuiet
import Derived.IntWalk
namespace Go.Proofs
open Go.Shelf
def Tryz.lays169_ren : Go.Shelf.Ren := ⟨fun | 169 => 51 | n => n, fun | 70 => 87 | 9 => 9 | 0 => 0 | 72 => 90 | 37 => 88 | 127 => 125 | 3 => 3 | 5 => 5 | n => n, fun | n => n⟩
theorem Tryz.lays169 : Go.Proofs.Lays.n169 Tryz.prog Tryz.lays169_ren := {
  mixed := by kernel_rfl
  f169 := Tryz.func51.trans (congrArg some (by kernel_rfl))
  t0 := Tryz.underlying0
  a0 := Tryz.isAgg0
  z0 := Tryz.sizeOf0
  v0 := Tryz.zeroValue0
  t3 := Tryz.underlying3
  a3 := Tryz.isAgg3
  z3 := Tryz.sizeOf3
  v3 := Tryz.zeroValue3
  t9 := Tryz.underlying9
  a9 := Tryz.isAgg9
  z9 := Tryz.sizeOf9
  v9 := Tryz.zeroValue9
  t37 := Tryz.underlying88
  a37 := Tryz.isAgg88
  z37 := Tryz.sizeOf88
  v37 := Tryz.zeroValue88
  t70 := Tryz.underlying87
  a70 := Tryz.isAgg87
  z70 := Tryz.sizeOf87
  v70 := Tryz.zeroValue87
  t72 := Tryz.underlying90
  a72 := Tryz.isAgg90
  z72 := Tryz.sizeOf90
  v72 := Tryz.zeroValue90
  t127 := Tryz.underlying125
  a127 := Tryz.isAgg125
  z127 := Tryz.sizeOf125
  v127 := Tryz.zeroValue125 }
theorem Tryz.Builder_Extra_169 : Builder.Extra Tryz.prog Tryz.lays169_ren := {
  sizeBuilder := by kernel_rfl
  liesBuilder := by kernel_rfl
  t5 := Tryz.underlying5
  a5 := Tryz.isAgg5
  z5 := Tryz.sizeOf5
  v5 := Tryz.zeroValue5
  infoByte := by kernel_rfl
  cellsByte := by kernel_rfl
  sizeByte := by kernel_rfl
  neB5 := by decide }
open Go.RowKit in
/-- (*strings.Builder).String: "String returns the accumulated string.": WHATEVER THE BUILDER HOLDS. (LAID: no walk: one application.) -/
theorem Tryz.Builder_String_any (B b : Nat) (l : List UInt8) (w : World) (h : Lib.IsBuilder 90 5 B b (Lib.byteCells l) w) (hBw : B ≤ w.heap.size) :
    Calls Tryz.prog 51 #[.pointer (some ⟨b, 0, none⟩)] w fun e w' => e = .returned (.string ⟨l.toArray⟩) ∧ Below B w w' := Any.Builder_String_any Tryz.lays169 Tryz.Builder_Extra_169 B b l w h hBw
def Tryz.lays162_ren : Go.Shelf.Ren := ⟨fun | 162 => 120 | 232 => 145 | 227 => 146 | 234 => 147 | 236 => 148 | 228 => 164 | 271 => 165 | 151 => 166 | 120 => 183 | 197 => 181 | 152 => 184 | 260 => 197 | 137 => 157 | 119 => 198 | 224 => 186 | 225 => 185 | 217 => 179 | 266 => 196 | n => n, fun | 9 => 9 | 4 => 4 | 3 => 3 | 5 => 5 | 117 => 152 | 116 => 151 | 0 => 0 | 124 => 155 | 21 => 21 | 105 => 170 | 46 => 156 | 119 => 192 | 139 => 195 | 138 => 194 | n => n, fun | 3 => 1 | 4 => 2 | n => n⟩
theorem Tryz.lays162 : Go.Proofs.Lays.n162 Tryz.prog Tryz.lays162_ren := {
  mixed := by kernel_rfl
  f119 := Tryz.func198.trans (congrArg some (by kernel_rfl))
  f120 := Tryz.func183.trans (congrArg some (by kernel_rfl))
  f137 := Tryz.func157.trans (congrArg some (by kernel_rfl))
  f151 := Tryz.func166.trans (congrArg some (by kernel_rfl))
  f152 := Tryz.func184.trans (congrArg some (by kernel_rfl))
  f162 := Tryz.func120.trans (congrArg some (by kernel_rfl))
  f197 := Tryz.func181.trans (congrArg some (by kernel_rfl))
  f217 := Tryz.func179.trans (congrArg some (by kernel_rfl))
  f224 := Tryz.func186.trans (congrArg some (by kernel_rfl))
  f225 := Tryz.func185.trans (congrArg some (by kernel_rfl))
  f227 := Tryz.func146.trans (congrArg some (by kernel_rfl))
  f228 := Tryz.func164.trans (congrArg some (by kernel_rfl))
  f232 := Tryz.func145.trans (congrArg some (by kernel_rfl))
  f234 := Tryz.func147.trans (congrArg some (by kernel_rfl))
  f236 := Tryz.func148.trans (congrArg some (by kernel_rfl))
  f260 := Tryz.func197.trans (congrArg some (by kernel_rfl))
  f266 := Tryz.func196.trans (congrArg some (by kernel_rfl))
  f271 := Tryz.func165.trans (congrArg some (by kernel_rfl))
  t0 := Tryz.underlying0
  a0 := Tryz.isAgg0
  z0 := Tryz.sizeOf0
  v0 := Tryz.zeroValue0
  t3 := Tryz.underlying3
  a3 := Tryz.isAgg3
  z3 := Tryz.sizeOf3
  v3 := Tryz.zeroValue3
  t4 := Tryz.underlying4
  a4 := Tryz.isAgg4
  z4 := Tryz.sizeOf4
  v4 := Tryz.zeroValue4
  t5 := Tryz.underlying5
  a5 := Tryz.isAgg5
  z5 := Tryz.sizeOf5
  v5 := Tryz.zeroValue5
  t9 := Tryz.underlying9
  a9 := Tryz.isAgg9
  z9 := Tryz.sizeOf9
  v9 := Tryz.zeroValue9
  t21 := Tryz.underlying21
  a21 := Tryz.isAgg21
  z21 := Tryz.sizeOf21
  v21 := Tryz.zeroValue21
  t46 := Tryz.underlying156
  a46 := Tryz.isAgg156
  z46 := Tryz.sizeOf156
  v46 := Tryz.zeroValue156
  t105 := Tryz.underlying170
  a105 := Tryz.isAgg170
  z105 := Tryz.sizeOf170
  v105 := Tryz.zeroValue170
  t116 := Tryz.underlying151
  a116 := Tryz.isAgg151
  z116 := Tryz.sizeOf151
  t117 := Tryz.underlying152
  a117 := Tryz.isAgg152
  z117 := Tryz.sizeOf152
  v117 := Tryz.zeroValue152
  t119 := Tryz.underlying192
  a119 := Tryz.isAgg192
  z119 := Tryz.sizeOf192
  t124 := Tryz.underlying155
  a124 := Tryz.isAgg155
  z124 := Tryz.sizeOf155
  v124 := Tryz.zeroValue155
  t138 := Tryz.underlying194
  a138 := Tryz.isAgg194
  z138 := Tryz.sizeOf194
  v138 := Tryz.zeroValue194
  t139 := Tryz.underlying195
  a139 := Tryz.isAgg195
  z139 := Tryz.sizeOf195
  v139 := Tryz.zeroValue195
  g3 := by kernel_rfl
  g4 := by kernel_rfl }
def Tryz.lays219_ren : Go.Shelf.Ren := ⟨fun | 219 => 167 | 217 => 179 | 225 => 185 | 224 => 186 | 267 => 187 | 266 => 196 | 314 => 199 | n => n, fun | 9 => 9 | 3 => 3 | 4 => 4 | 5 => 5 | 46 => 156 | 146 => 175 | 51 => 174 | n => n, fun | 1 => 0 | n => n⟩
theorem Tryz.lays219 : Go.Proofs.Lays.n219 Tryz.prog Tryz.lays219_ren := {
  mixed := by kernel_rfl
  f217 := Tryz.func179.trans (congrArg some (by kernel_rfl))
  f219 := Tryz.func167.trans (congrArg some (by kernel_rfl))
  f224 := Tryz.func186.trans (congrArg some (by kernel_rfl))
  f225 := Tryz.func185.trans (congrArg some (by kernel_rfl))
  f266 := Tryz.func196.trans (congrArg some (by kernel_rfl))
  f267 := Tryz.func187.trans (congrArg some (by kernel_rfl))
  f314 := Tryz.func199.trans (congrArg some (by kernel_rfl))
  t3 := Tryz.underlying3
  a3 := Tryz.isAgg3
  z3 := Tryz.sizeOf3
  v3 := Tryz.zeroValue3
  t4 := Tryz.underlying4
  a4 := Tryz.isAgg4
  z4 := Tryz.sizeOf4
  v4 := Tryz.zeroValue4
  t5 := Tryz.underlying5
  a5 := Tryz.isAgg5
  z5 := Tryz.sizeOf5
  v5 := Tryz.zeroValue5
  t9 := Tryz.underlying9
  a9 := Tryz.isAgg9
  z9 := Tryz.sizeOf9
  v9 := Tryz.zeroValue9
  t46 := Tryz.underlying156
  a46 := Tryz.isAgg156
  z46 := Tryz.sizeOf156
  v46 := Tryz.zeroValue156
  t51 := Tryz.underlying174
  a51 := Tryz.isAgg174
  z51 := Tryz.sizeOf174
  v51 := Tryz.zeroValue174
  t146 := Tryz.underlying175
  a146 := Tryz.isAgg175
  z146 := Tryz.sizeOf175
  v146 := Tryz.zeroValue175
  g1 := by kernel_rfl }
open Go.RowKit Go.Lib in
/-- internal/stringslite.Index (what strings.Index calls) AT A substr OF ONE BYTE c: IT RETURNS 'Lib.indexByte s c'; the world is as it was. (LAID: no walk: one application.) -/
theorem Tryz.stringslite_Index_one (s : ByteArray) (c : UInt8) (w : World) :
    Calls Tryz.prog 167 #[.string s, .string ⟨#[c]⟩] w fun e w' => e = .returned (.int .i64 (Lib.indexByte s.data.toList c)) ∧ w' = w := Any.stringslite_Index_one Tryz.lays219 s c w
def Tryz.lays143_ren : Go.Shelf.Ren := ⟨fun | 143 => 161 | 219 => 167 | 217 => 179 | 225 => 185 | 224 => 186 | 267 => 187 | 266 => 196 | 314 => 199 | n => n, fun | 9 => 9 | 3 => 3 | 4 => 4 | 5 => 5 | 46 => 156 | 146 => 175 | 51 => 174 | n => n, fun | 1 => 0 | n => n⟩
theorem Tryz.lays143 : Go.Proofs.Lays.n143 Tryz.prog Tryz.lays143_ren := {
  mixed := by kernel_rfl
  f143 := Tryz.func161.trans (congrArg some (by kernel_rfl))
  f217 := Tryz.func179.trans (congrArg some (by kernel_rfl))
  f219 := Tryz.func167.trans (congrArg some (by kernel_rfl))
  f224 := Tryz.func186.trans (congrArg some (by kernel_rfl))
  f225 := Tryz.func185.trans (congrArg some (by kernel_rfl))
  f266 := Tryz.func196.trans (congrArg some (by kernel_rfl))
  f267 := Tryz.func187.trans (congrArg some (by kernel_rfl))
  f314 := Tryz.func199.trans (congrArg some (by kernel_rfl))
  t3 := Tryz.underlying3
  a3 := Tryz.isAgg3
  z3 := Tryz.sizeOf3
  v3 := Tryz.zeroValue3
  t4 := Tryz.underlying4
  a4 := Tryz.isAgg4
  z4 := Tryz.sizeOf4
  v4 := Tryz.zeroValue4
  t5 := Tryz.underlying5
  a5 := Tryz.isAgg5
  z5 := Tryz.sizeOf5
  v5 := Tryz.zeroValue5
  t9 := Tryz.underlying9
  a9 := Tryz.isAgg9
  z9 := Tryz.sizeOf9
  v9 := Tryz.zeroValue9
  t46 := Tryz.underlying156
  a46 := Tryz.isAgg156
  z46 := Tryz.sizeOf156
  v46 := Tryz.zeroValue156
  t51 := Tryz.underlying174
  a51 := Tryz.isAgg174
  z51 := Tryz.sizeOf174
  v51 := Tryz.zeroValue174
  t146 := Tryz.underlying175
  a146 := Tryz.isAgg175
  z146 := Tryz.sizeOf175
  v146 := Tryz.zeroValue175
  g1 := by kernel_rfl }
open Go.RowKit Go.Lib in
/-- strings.Index: "Index returns the index of the first instance of substr in s, or -1 if substr is not present in s.": AT A substr OF ONE BYTE c: IT RETURNS 'Lib.indexByte s c'; the world is as it was. (LAID: no walk: one application.) -/
theorem Tryz.strings_Index_one (s : ByteArray) (c : UInt8) (w : World) :
    Calls Tryz.prog 161 #[.string s, .string ⟨#[c]⟩] w fun e w' => e = .returned (.int .i64 (Lib.indexByte s.data.toList c)) ∧ w' = w := Any.strings_Index_one Tryz.lays143 s c w
def Tryz.lays145_ren : Go.Shelf.Ren := ⟨fun | 145 => 122 | 220 => 149 | 219 => 167 | 217 => 179 | 225 => 185 | 224 => 186 | 267 => 187 | 266 => 196 | 314 => 199 | n => n, fun | 9 => 9 | 4 => 4 | 59 => 135 | 3 => 3 | 5 => 5 | 46 => 156 | 146 => 175 | 51 => 174 | n => n, fun | 1 => 0 | n => n⟩
theorem Tryz.lays145 : Go.Proofs.Lays.n145 Tryz.prog Tryz.lays145_ren := {
  mixed := by kernel_rfl
  f145 := Tryz.func122.trans (congrArg some (by kernel_rfl))
  f217 := Tryz.func179.trans (congrArg some (by kernel_rfl))
  f219 := Tryz.func167.trans (congrArg some (by kernel_rfl))
  f220 := Tryz.func149.trans (congrArg some (by kernel_rfl))
  f224 := Tryz.func186.trans (congrArg some (by kernel_rfl))
  f225 := Tryz.func185.trans (congrArg some (by kernel_rfl))
  f266 := Tryz.func196.trans (congrArg some (by kernel_rfl))
  f267 := Tryz.func187.trans (congrArg some (by kernel_rfl))
  f314 := Tryz.func199.trans (congrArg some (by kernel_rfl))
  t3 := Tryz.underlying3
  a3 := Tryz.isAgg3
  z3 := Tryz.sizeOf3
  v3 := Tryz.zeroValue3
  t4 := Tryz.underlying4
  a4 := Tryz.isAgg4
  z4 := Tryz.sizeOf4
  v4 := Tryz.zeroValue4
  t5 := Tryz.underlying5
  a5 := Tryz.isAgg5
  z5 := Tryz.sizeOf5
  v5 := Tryz.zeroValue5
  t9 := Tryz.underlying9
  a9 := Tryz.isAgg9
  z9 := Tryz.sizeOf9
  v9 := Tryz.zeroValue9
  t46 := Tryz.underlying156
  a46 := Tryz.isAgg156
  z46 := Tryz.sizeOf156
  v46 := Tryz.zeroValue156
  t51 := Tryz.underlying174
  a51 := Tryz.isAgg174
  z51 := Tryz.sizeOf174
  v51 := Tryz.zeroValue174
  t59 := Tryz.underlying135
  a59 := Tryz.isAgg135
  z59 := Tryz.sizeOf135
  v59 := Tryz.zeroValue135
  t146 := Tryz.underlying175
  a146 := Tryz.isAgg175
  z146 := Tryz.sizeOf175
  v146 := Tryz.zeroValue175
  g1 := by kernel_rfl }
open Go.RowKit Go.Lib in
/-- strings.Cut: "Cut slices s around the first instance of sep, returning the text before and after sep. The found result reports whether sep appears in s. If sep does not appear in s, cut returns s, "", false.": IT RETURNS 'Lib.cut s sep'; the world is as it was but for the count of draws. (LAID: no walk: one application.) -/
theorem Tryz.strings_Cut (s sep : ByteArray) (m : Int) (w : World) (hs : s.size < 4294967281) (hm : w.cell? ⟨0, 0, none⟩ = some (.int .i64 m)) :
    Calls Tryz.prog 122 #[.string s, .string sep] w fun e w' => e = .returned (.tuple #[.string ⟨(Lib.cut s.data.toList sep.data.toList).1.toArray⟩, .string ⟨(Lib.cut s.data.toList sep.data.toList).2.1.toArray⟩, .bool (Lib.cut s.data.toList sep.data.toList).2.2]) ∧ ∃ n, w' = w.drewN n := Any.strings_Cut Tryz.lays145 s sep m w hs hm
def Tryz.lays138_ren : Go.Shelf.Ren := ⟨fun | 138 => 160 | 195 => 180 | 218 => 182 | 143 => 161 | 219 => 167 | 217 => 179 | 225 => 185 | 224 => 186 | 267 => 187 | 266 => 196 | 314 => 199 | n => n, fun | 9 => 9 | 3 => 3 | 4 => 4 | 5 => 5 | 0 => 0 | 46 => 156 | 146 => 175 | 51 => 174 | n => n, fun | 1 => 0 | n => n⟩
theorem Tryz.lays138 : Go.Proofs.Lays.n138 Tryz.prog Tryz.lays138_ren := {
  mixed := by kernel_rfl
  f138 := Tryz.func160.trans (congrArg some (by kernel_rfl))
  f143 := Tryz.func161.trans (congrArg some (by kernel_rfl))
  f195 := Tryz.func180.trans (congrArg some (by kernel_rfl))
  f217 := Tryz.func179.trans (congrArg some (by kernel_rfl))
  f218 := Tryz.func182.trans (congrArg some (by kernel_rfl))
  f219 := Tryz.func167.trans (congrArg some (by kernel_rfl))
  f224 := Tryz.func186.trans (congrArg some (by kernel_rfl))
  f225 := Tryz.func185.trans (congrArg some (by kernel_rfl))
  f266 := Tryz.func196.trans (congrArg some (by kernel_rfl))
  f267 := Tryz.func187.trans (congrArg some (by kernel_rfl))
  f314 := Tryz.func199.trans (congrArg some (by kernel_rfl))
  t0 := Tryz.underlying0
  a0 := Tryz.isAgg0
  z0 := Tryz.sizeOf0
  v0 := Tryz.zeroValue0
  t3 := Tryz.underlying3
  a3 := Tryz.isAgg3
  z3 := Tryz.sizeOf3
  v3 := Tryz.zeroValue3
  t4 := Tryz.underlying4
  a4 := Tryz.isAgg4
  z4 := Tryz.sizeOf4
  v4 := Tryz.zeroValue4
  t5 := Tryz.underlying5
  a5 := Tryz.isAgg5
  z5 := Tryz.sizeOf5
  v5 := Tryz.zeroValue5
  t9 := Tryz.underlying9
  a9 := Tryz.isAgg9
  z9 := Tryz.sizeOf9
  v9 := Tryz.zeroValue9
  t46 := Tryz.underlying156
  a46 := Tryz.isAgg156
  z46 := Tryz.sizeOf156
  v46 := Tryz.zeroValue156
  t51 := Tryz.underlying174
  a51 := Tryz.isAgg174
  z51 := Tryz.sizeOf174
  v51 := Tryz.zeroValue174
  t146 := Tryz.underlying175
  a146 := Tryz.isAgg175
  z146 := Tryz.sizeOf175
  v146 := Tryz.zeroValue175
  g1 := by kernel_rfl }
open Go.RowKit Go.Lib in
/-- strings.Count AT A substr OF ONE BYTE ('hp'): "Count counts the number of non-overlapping instances of substr in s.": IT RETURNS 'Lib.countByte s (that byte)'; the world is as it was. ✋ NO CONTRACT HERE YET at an empty substr (utf8.RuneCountInString) or at a longer one (a loop over strings.Index). (LAID: no walk: one application.) -/
theorem Tryz.strings_Count_one (s : ByteArray) (c : UInt8) (w : World) :
    Calls Tryz.prog 160 #[.string s, .string ⟨#[c]⟩] w fun e w' => e = .returned (.int .i64 (Lib.countByte s.data.toList c)) ∧ w' = w := Any.strings_Count_one Tryz.lays138 s c w
def Tryz.lays206_ren : Go.Shelf.Ren := ⟨fun | 206 => 162 | n => n, fun | 9 => 9 | 4 => 4 | 3 => 3 | n => n, fun | n => n⟩
theorem Tryz.lays206 : Go.Proofs.Lays.n206 Tryz.prog Tryz.lays206_ren := {
  mixed := by kernel_rfl
  f206 := Tryz.func162.trans (congrArg some (by kernel_rfl))
  t3 := Tryz.underlying3
  a3 := Tryz.isAgg3
  z3 := Tryz.sizeOf3
  v3 := Tryz.zeroValue3
  t4 := Tryz.underlying4
  a4 := Tryz.isAgg4
  z4 := Tryz.sizeOf4
  v4 := Tryz.zeroValue4
  t9 := Tryz.underlying9
  a9 := Tryz.isAgg9
  z9 := Tryz.sizeOf9
  v9 := Tryz.zeroValue9 }
open Go.RowKit Go.Lib in
/-- internal/stringslite.HasPrefix (what strings.HasPrefix calls). (LAID: no walk: one application.) -/
theorem Tryz.stringslite_HasPrefix (s p : ByteArray) (w : World) :
    Calls Tryz.prog 162 #[.string s, .string p] w fun e w' => e = .returned (.bool (Lib.hasPrefix s.data.toList p.data.toList)) ∧ w' = w := Any.stringslite_HasPrefix Tryz.lays206 s p w
def Tryz.lays99_ren : Go.Shelf.Ren := ⟨fun | 99 => 142 | 206 => 162 | n => n, fun | 9 => 9 | 4 => 4 | 3 => 3 | n => n, fun | n => n⟩
theorem Tryz.lays99 : Go.Proofs.Lays.n99 Tryz.prog Tryz.lays99_ren := {
  mixed := by kernel_rfl
  f99 := Tryz.func142.trans (congrArg some (by kernel_rfl))
  f206 := Tryz.func162.trans (congrArg some (by kernel_rfl))
  t3 := Tryz.underlying3
  a3 := Tryz.isAgg3
  z3 := Tryz.sizeOf3
  v3 := Tryz.zeroValue3
  t4 := Tryz.underlying4
  a4 := Tryz.isAgg4
  z4 := Tryz.sizeOf4
  v4 := Tryz.zeroValue4
  t9 := Tryz.underlying9
  a9 := Tryz.isAgg9
  z9 := Tryz.sizeOf9
  v9 := Tryz.zeroValue9 }
open Go.RowKit Go.Lib in
/-- strings.HasPrefix: "HasPrefix reports whether the string s begins with prefix.": IT RETURNS 'Lib.hasPrefix s prefix'; the world is as it was. (LAID: no walk: one application.) -/
theorem Tryz.strings_HasPrefix (s p : ByteArray) (w : World) :
    Calls Tryz.prog 142 #[.string s, .string p] w fun e w' => e = .returned (.bool (Lib.hasPrefix s.data.toList p.data.toList)) ∧ w' = w := Any.strings_HasPrefix Tryz.lays99 s p w
def Tryz.lays221_ren : Go.Shelf.Ren := ⟨fun | 221 => 141 | 268 => 159 | 138 => 160 | 143 => 161 | 195 => 180 | 197 => 181 | 218 => 182 | 219 => 167 | 260 => 197 | 217 => 179 | 225 => 185 | 224 => 186 | 267 => 187 | 266 => 196 | 314 => 199 | n => n, fun | 9 => 9 | 3 => 3 | 31 => 24 | 4 => 4 | 0 => 0 | 105 => 170 | 21 => 21 | 5 => 5 | 46 => 156 | 119 => 192 | 139 => 195 | 138 => 194 | 146 => 175 | 51 => 174 | n => n, fun | 1 => 0 | 3 => 1 | 4 => 2 | n => n⟩
theorem Tryz.lays221 : Go.Proofs.Lays.n221 Tryz.prog Tryz.lays221_ren := {
  mixed := by kernel_rfl
  f138 := Tryz.func160.trans (congrArg some (by kernel_rfl))
  f143 := Tryz.func161.trans (congrArg some (by kernel_rfl))
  f195 := Tryz.func180.trans (congrArg some (by kernel_rfl))
  f197 := Tryz.func181.trans (congrArg some (by kernel_rfl))
  f217 := Tryz.func179.trans (congrArg some (by kernel_rfl))
  f218 := Tryz.func182.trans (congrArg some (by kernel_rfl))
  f219 := Tryz.func167.trans (congrArg some (by kernel_rfl))
  f221 := Tryz.func141.trans (congrArg some (by kernel_rfl))
  f224 := Tryz.func186.trans (congrArg some (by kernel_rfl))
  f225 := Tryz.func185.trans (congrArg some (by kernel_rfl))
  f260 := Tryz.func197.trans (congrArg some (by kernel_rfl))
  f266 := Tryz.func196.trans (congrArg some (by kernel_rfl))
  f267 := Tryz.func187.trans (congrArg some (by kernel_rfl))
  f268 := Tryz.func159.trans (congrArg some (by kernel_rfl))
  f314 := Tryz.func199.trans (congrArg some (by kernel_rfl))
  t0 := Tryz.underlying0
  a0 := Tryz.isAgg0
  z0 := Tryz.sizeOf0
  v0 := Tryz.zeroValue0
  t3 := Tryz.underlying3
  a3 := Tryz.isAgg3
  z3 := Tryz.sizeOf3
  v3 := Tryz.zeroValue3
  t4 := Tryz.underlying4
  a4 := Tryz.isAgg4
  z4 := Tryz.sizeOf4
  v4 := Tryz.zeroValue4
  t5 := Tryz.underlying5
  a5 := Tryz.isAgg5
  z5 := Tryz.sizeOf5
  v5 := Tryz.zeroValue5
  t9 := Tryz.underlying9
  a9 := Tryz.isAgg9
  z9 := Tryz.sizeOf9
  v9 := Tryz.zeroValue9
  t21 := Tryz.underlying21
  a21 := Tryz.isAgg21
  z21 := Tryz.sizeOf21
  v21 := Tryz.zeroValue21
  t31 := Tryz.underlying24
  a31 := Tryz.isAgg24
  z31 := Tryz.sizeOf24
  v31 := Tryz.zeroValue24
  t46 := Tryz.underlying156
  a46 := Tryz.isAgg156
  z46 := Tryz.sizeOf156
  v46 := Tryz.zeroValue156
  t51 := Tryz.underlying174
  a51 := Tryz.isAgg174
  z51 := Tryz.sizeOf174
  v51 := Tryz.zeroValue174
  t105 := Tryz.underlying170
  a105 := Tryz.isAgg170
  z105 := Tryz.sizeOf170
  v105 := Tryz.zeroValue170
  t119 := Tryz.underlying192
  a119 := Tryz.isAgg192
  z119 := Tryz.sizeOf192
  t138 := Tryz.underlying194
  a138 := Tryz.isAgg194
  z138 := Tryz.sizeOf194
  v138 := Tryz.zeroValue194
  t139 := Tryz.underlying195
  a139 := Tryz.isAgg195
  z139 := Tryz.sizeOf195
  v139 := Tryz.zeroValue195
  t146 := Tryz.underlying175
  a146 := Tryz.isAgg175
  z146 := Tryz.sizeOf175
  v146 := Tryz.zeroValue175
  g1 := by kernel_rfl
  g3 := by kernel_rfl
  g4 := by kernel_rfl }
def Tryz.lays105_ren : Go.Shelf.Ren := ⟨fun | 105 => 128 | 212 => 151 | 99 => 142 | 165 => 152 | 166 => 49 | 170 => 153 | 169 => 51 | 263 => 168 | 264 => 169 | 206 => 162 | 240 => 94 | 241 => 170 | 276 => 126 | 277 => 188 | n => n, fun | 9 => 9 | 3 => 3 | 4 => 4 | 20 => 20 | 0 => 0 | 46 => 156 | 109 => 157 | 5 => 5 | 72 => 90 | 76 => 93 | 51 => 174 | 146 => 175 | 53 => 138 | 148 => 177 | 70 => 87 | 37 => 88 | 75 => 92 | 127 => 125 | 164 => 139 | 80 => 95 | n => n, fun | n => n⟩
theorem Tryz.lays105 : Go.Proofs.Lays.n105 Tryz.prog Tryz.lays105_ren := {
  mixed := by kernel_rfl
  f99 := Tryz.func142.trans (congrArg some (by kernel_rfl))
  f105 := Tryz.func128.trans (congrArg some (by kernel_rfl))
  f165 := Tryz.func152.trans (congrArg some (by kernel_rfl))
  f166 := Tryz.func49.trans (congrArg some (by kernel_rfl))
  f169 := Tryz.func51.trans (congrArg some (by kernel_rfl))
  f170 := Tryz.func153.trans (congrArg some (by kernel_rfl))
  f206 := Tryz.func162.trans (congrArg some (by kernel_rfl))
  f212 := Tryz.func151.trans (congrArg some (by kernel_rfl))
  f240 := Tryz.func94.trans (congrArg some (by kernel_rfl))
  f241 := Tryz.func170.trans (congrArg some (by kernel_rfl))
  f263 := Tryz.func168.trans (congrArg some (by kernel_rfl))
  f264 := Tryz.func169.trans (congrArg some (by kernel_rfl))
  f276 := Tryz.func126.trans (congrArg some (by kernel_rfl))
  f277 := Tryz.func188.trans (congrArg some (by kernel_rfl))
  t0 := Tryz.underlying0
  a0 := Tryz.isAgg0
  z0 := Tryz.sizeOf0
  v0 := Tryz.zeroValue0
  t3 := Tryz.underlying3
  a3 := Tryz.isAgg3
  z3 := Tryz.sizeOf3
  v3 := Tryz.zeroValue3
  t4 := Tryz.underlying4
  a4 := Tryz.isAgg4
  z4 := Tryz.sizeOf4
  v4 := Tryz.zeroValue4
  t5 := Tryz.underlying5
  a5 := Tryz.isAgg5
  z5 := Tryz.sizeOf5
  v5 := Tryz.zeroValue5
  t9 := Tryz.underlying9
  a9 := Tryz.isAgg9
  z9 := Tryz.sizeOf9
  v9 := Tryz.zeroValue9
  t20 := Tryz.underlying20
  a20 := Tryz.isAgg20
  z20 := Tryz.sizeOf20
  v20 := Tryz.zeroValue20
  t37 := Tryz.underlying88
  a37 := Tryz.isAgg88
  z37 := Tryz.sizeOf88
  v37 := Tryz.zeroValue88
  t46 := Tryz.underlying156
  a46 := Tryz.isAgg156
  z46 := Tryz.sizeOf156
  v46 := Tryz.zeroValue156
  t51 := Tryz.underlying174
  a51 := Tryz.isAgg174
  z51 := Tryz.sizeOf174
  v51 := Tryz.zeroValue174
  t53 := Tryz.underlying138
  a53 := Tryz.isAgg138
  z53 := Tryz.sizeOf138
  v53 := Tryz.zeroValue138
  t70 := Tryz.underlying87
  a70 := Tryz.isAgg87
  z70 := Tryz.sizeOf87
  v70 := Tryz.zeroValue87
  t72 := Tryz.underlying90
  a72 := Tryz.isAgg90
  z72 := Tryz.sizeOf90
  v72 := Tryz.zeroValue90
  t75 := Tryz.underlying92
  a75 := Tryz.isAgg92
  z75 := Tryz.sizeOf92
  v75 := Tryz.zeroValue92
  t76 := Tryz.underlying93
  a76 := Tryz.isAgg93
  z76 := Tryz.sizeOf93
  v76 := Tryz.zeroValue93
  t109 := Tryz.underlying157
  a109 := Tryz.isAgg157
  z109 := Tryz.sizeOf157
  v109 := Tryz.zeroValue157
  t127 := Tryz.underlying125
  a127 := Tryz.isAgg125
  z127 := Tryz.sizeOf125
  v127 := Tryz.zeroValue125
  t146 := Tryz.underlying175
  a146 := Tryz.isAgg175
  z146 := Tryz.sizeOf175
  v146 := Tryz.zeroValue175
  t148 := Tryz.underlying177
  a148 := Tryz.isAgg177
  z148 := Tryz.sizeOf177
  v148 := Tryz.zeroValue177
  t164 := Tryz.underlying139
  a164 := Tryz.isAgg139
  z164 := Tryz.sizeOf139
  v164 := Tryz.zeroValue139 }
theorem Tryz.Builder_Extra_105 : Builder.Extra Tryz.prog Tryz.lays105_ren := {
  sizeBuilder := by kernel_rfl
  liesBuilder := by kernel_rfl
  t5 := Tryz.underlying5
  a5 := Tryz.isAgg5
  z5 := Tryz.sizeOf5
  v5 := Tryz.zeroValue5
  infoByte := by kernel_rfl
  cellsByte := by kernel_rfl
  sizeByte := by kernel_rfl
  neB5 := by decide }
open Go.RowKit Go.Lib in
/-- **strings.Repeat: count ≥ 0, the result within one allocation: count copies of s.** (LAID: no walk: one application.) -/
theorem Tryz.strings_Repeat (s : ByteArray) (c : Nat) (w : World) (hc : c ≤ 9223372036854775807) (hlen : s.size * c ≤ 140737488355328) :
    Calls Tryz.prog 128 #[.string s, .int .i64 c] w fun e w' => e = .returned (.string ⟨(Lib.repeatL s.data.toList c).toArray⟩) ∧ Below w.heap.size w w' := Any.strings_Repeat Tryz.lays105 Tryz.Builder_Extra_105 s c w hc hlen
end Go.Proofs
namespace Go.Proofs.YtiiploicaimnpaaGreatDoor.Hand
open Go.RowKit Go.Proofs.YtiiploicaimnpaaGreatDoorW.PrintWords Go.Proofs.YtiiploicaimnpaaGreatDoorW.PrintLast Go.Proofs.YtiiploicaimnpaaGreatDoorW.PrintMore
set_option linter.unusedVariables false
set_option linter.unusedSimpArgs false
namespace Bld
theorem size_b : (Tryz.prog.info? 90).map (·.size) = some 2 := by kernel_rfl
theorem lies_b : liesAt Tryz.prog Tryz.prog.depth 90 (2 / Tryz.prog.cellsOf 90) 0 90 1 = true := by kernel_rfl
theorem info_b : (Tryz.prog.info? 5).map (fun i => (i.zero, i.size, i.bytes)) = some (some (.int .u8 0), 1, 1) := by kernel_rfl
set_option maxHeartbeats 1000000 in
set_option maxRecDepth 100000 in
theorem copyCheck_used (b : Nat) (w : World) (h0 : w.cell? ⟨b, 0, none⟩ = some (.pointer (some ⟨b, 0, none⟩))) :
    Calls Tryz.prog 94 #[.pointer (some ⟨b, 0, none⟩)] w fun e w' => e = .returned (.tuple #[]) ∧ w' = w := by
  obtain ⟨j, hj, _⟩ := Option.map_eq_some_iff.1 size_b
  go_enter Tryz.func94, Tryz.ntmps94
  go_wp2
  rw [Lib.run_neq_ptr_same w _ Tryz.underlying87 hj]
  go_wp2
  go_end0
  exact ⟨rfl, rfl⟩
set_option maxHeartbeats 1000000 in
set_option maxRecDepth 100000 in
theorem copyCheck_fresh (b : Nat) (w : World) (h0 : w.cell? ⟨b, 0, none⟩ = some (.pointer none)) (hsh : w.shape? b = some (90, 2)) (hfz : w.frozen? ⟨b, 0, none⟩ = false) :
    Calls Tryz.prog 94 #[.pointer (some ⟨b, 0, none⟩)] w fun e w' => e = .returned (.tuple #[]) ∧ w' = w.setCell ⟨b, 0, none⟩ (.pointer (some ⟨b, 0, none⟩)) := by
  obtain ⟨j, hj, hjs⟩ := Option.map_eq_some_iff.1 size_b
  go_enter Tryz.func94, Tryz.ntmps94
  go_wp2
  rw [Lib.run_to_unsafe w ⟨b, 0, none⟩ Tryz.underlying87 Tryz.underlying139 hj (by rw [hjs]; decide) hsh (Nat.zero_lt_succ 1)]
  simp only [Result.andThen]
  rw [Oper.upon_value]
  go_wp2
  rw [run_callFunc_extern Tryz.func126 (by kernel_rfl) (by kernel_rfl) (by kernel_rfl) (e := Extern.AbiNoEscape.same) (by kernel_rfl)]
  rw [Lib.run_noEscape]
  simp only [Result.andThen]
  rw [Oper.upon_value]
  go_wp2
  rw [Lib.run_from_unsafe w ⟨b, 0, none⟩ Tryz.underlying139 Tryz.underlying87 hj hsh lies_b]
  simp only [Result.andThen]
  rw [Oper.upon_value]
  go_wp2
  go_end0
  exact ⟨rfl, rfl⟩
theorem copyCheck (B b : Nat) (bs : List Value) (w : World) (h : Lib.IsBuilder 90 5 B b bs w) :
    Calls Tryz.prog 94 #[.pointer (some ⟨b, 0, none⟩)] w fun e w' => e = .returned (.tuple #[]) ∧ (Lib.BuilderAt 90 5 B b (.pointer (some ⟨b, 0, none⟩)) bs w' ∧ Below B w w' ∧ KeepsOthers w w') := by
  rcases h with h | h
  · refine (copyCheck_fresh b w h.cell0 h.shape h.frozen0).mono ?_
    rintro e w' ⟨rfl, rfl⟩
    exact ⟨rfl, h.used _, (Below.refl B w).setCell (p := ⟨b, 0, none⟩) h.1 _, KeepsOthers.setCell _ _ _⟩
  · refine (copyCheck_used b w h.cell0).mono ?_
    rintro e w' ⟨rfl, rfl⟩
    exact ⟨rfl, h, Below.refl B _, KeepsOthers.refl _⟩
set_option maxHeartbeats 2000000 in
set_option maxRecDepth 100000 in
theorem WriteString (B b : Nat) (bs : List Value) (s : ByteArray) (w : World) (h : Lib.IsBuilder 90 5 B b bs w) (hlen : bs.length + s.size ≤ 140737488355328) (hBw : B ≤ w.heap.size) :
    Calls Tryz.prog 49 #[.pointer (some ⟨b, 0, none⟩), .string s] w fun e w' => e = .returned (.tuple #[.int .i64 s.size, .nilIface]) ∧ (Lib.BuilderAt 90 5 B b (.pointer (some ⟨b, 0, none⟩)) (bs ++ Lib.strCells s) w' ∧ Below B w w' ∧ KeepsOthers w w') := by
  obtain ⟨i0, hi, hz0, hz1, hz2⟩ := info_parts info_b
  go_enter Tryz.func49, Tryz.ntmps49
  go_wp2_with (go_at_call 94; refine (copyCheck B b bs _ h).mono ?_)
  rintro e w1 ⟨rfl, h1, hb1, hk1⟩
  obtain ⟨hB, v, hbk, hown, hne⟩ := h1
  have c0 : w1.cell? ⟨b, 0, none⟩ = some (.pointer (some ⟨b, 0, none⟩)) := by rw [Lib.cell_of_heap hbk]; rfl
  have c1 : w1.cell? ⟨b, 1, none⟩ = some v := by rw [Lib.cell_of_heap hbk]; rfl
  go_wp2_with (at_builtin; refine Lib.wpList_append_own_string _ rfl _ _ 88 9 rfl B 5 i0 Tryz.underlying88 Tryz.underlying9 hi hz0 hz1 hz2 _ _ _ rfl hown s rfl ?c3 ?c4 ?c5 ?_)
  case c3 => unfold maxLen; omega
  case c4 => omega
  case c5 => have := hb1.size; omega
  intro v' w2 hown' hgrow _
  have hlt : b < w1.heap.size := (Array.getElem?_eq_some_iff.1 hbk).1
  have hb2 : w2.heap[b]? = some (.cells #[.pointer (some ⟨b, 0, none⟩), v] 90 (0, 0)) := by
    rw [hgrow.block b hlt (fun e => hne e.symm)]
    exact hbk
  have hk2 : KeepsOthers w1 w2 := KeepsOthers.of_grownBy hgrow (fun j o hj ho => by
    rcases hown.2 with ⟨hv, _⟩ | ⟨g, cap, cur, hv, _, hg, _⟩
    · rw [hv] at hj; cases hj
    · rw [hv] at hj
      simp only [Value.ownBlock, Option.some.injEq] at hj
      subst hj
      rw [hg] at ho
      cases ho
      rfl)
  have d0 : w2.cell? ⟨b, 0, none⟩ = some (.pointer (some ⟨b, 0, none⟩)) := by rw [Lib.cell_of_heap hb2]; rfl
  have d1 : w2.cell? ⟨b, 1, none⟩ = some v := by rw [Lib.cell_of_heap hb2]; rfl
  have f1 : w2.frozen? ⟨b, 1, none⟩ = false := Lib.frozen_of_heap hb2 1
  obtain ⟨ao, n', cap, rfl⟩ : ∃ ao n' cap, v' = .slice ao n' cap := by
    rcases hown'.2 with ⟨hv, _⟩ | ⟨g, cap, cur, hv, _⟩
    · exact ⟨_, _, _, hv⟩
    · exact ⟨_, _, _, hv⟩
  go_wp2
  go_ret2
  refine ⟨rfl, ?_, ?_, ?_⟩
  · exact Lib.BuilderAt.put (T := 90) (e := 5) hB hb2 (bs' := bs ++ Lib.strCells s) (by simpa [Lib.strCells_length] using hown') (by decide)
  · exact (hb1.grown hgrow (by have := hb1.size; omega) (fun k hk => (hown.lt k hk).1)).setCell (p := ⟨b, 1, none⟩) hB _
  · exact (hk1.trans hk2).trans (KeepsOthers.setCell _ _ _)
end Bld
end Go.Proofs.YtiiploicaimnpaaGreatDoor.Hand
namespace Go.Proofs.YtiiploicaimnpaaGreatDoor.Hand
open Go.RowKit Go.Shelf Go.Proofs.YtiiploicaimnpaaGreatDoorW.PrintWords Go.Proofs.YtiiploicaimnpaaGreatDoorW.PrintLast Go.Proofs.YtiiploicaimnpaaGreatDoorW.PrintMore
set_option linter.unusedVariables false
set_option linter.unusedSimpArgs false
def cutS (s : ByteArray) (c : UInt8) : ByteArray × ByteArray × Bool :=
  if 0 ≤ Lib.indexByte s.data.toList c then (s.extract 0 (Lib.indexByte s.data.toList c).toNat, s.extract ((Lib.indexByte s.data.toList c).toNat + 1) s.size, true) else (s, ⟨#[]⟩, false)
theorem iB_lt (c : UInt8) : ∀ l : List UInt8, Lib.indexByte l c < (l.length : Int) := by
  intro l
  induction l with
  | nil => simp [Lib.indexByte]
  | cons x l ih =>
    unfold Lib.indexByte
    split <;> simp <;> (try split) <;> omega
set_option maxHeartbeats 1000000 in
theorem slcut_calls (s : ByteArray) (c : UInt8) (w : World) (hs : s.size < 4294967281) :
    Calls Tryz.prog 149 #[.string s, .string ⟨#[c]⟩] w fun e w' => e = .returned (.tuple #[.string (cutS s c).1, .string (cutS s c).2.1, .bool (cutS s c).2.2]) ∧ Below w.heap.size w w' := by
  have hlt := iB_lt c s.data.toList
  have cI := fun W => Tryz.stringslite_Index_one s c W
  have hz : s.data.toList.length = s.size := by rw [← Lib.size_eq]
  rw [hz] at hlt
  unfold cutS
  generalize Lib.indexByte s.data.toList c = i at *
  have h1 : (⟨#[c]⟩ : ByteArray).size = 1 := rfl
  by_cases h0 : 0 ≤ i
  · rw [if_pos h0]
    obtain ⟨k, rfl⟩ := Int.eq_ofNat_of_zero_le h0
    have hw : wrap64 ((k : Int) + 1) = ((k + 1 : Nat) : Int) := by rw [IntWalk.wrap64_in _ ⟨by omega, by omega⟩]; omega
    have hk : k < s.size := by omega
    go_enter Tryz.func149, Tryz.ntmps149
    go_wp2_with (go_at_call 167; refine (cI _).mono ?_; rintro e w' ⟨rfl, rfl⟩)
    go_region
    all_goals go_wp2
    all_goals
      go_ret3
      exact ⟨rfl, below_drew (Below.refl _ _)⟩
  · rw [if_neg h0]
    have h3 : ¬ i ≥ 0 := h0
    go_enter Tryz.func149, Tryz.ntmps149
    go_wp2_with (go_at_call 167; refine (cI _).mono ?_; rintro e w' ⟨rfl, rfl⟩)
    go_ret3
    exact ⟨rfl, Below.refl _ _⟩
theorem cut_calls (s : ByteArray) (c : UInt8) (w : World) (hs : s.size < 4294967281) :
    Calls Tryz.prog 122 #[.string s, .string ⟨#[c]⟩] w fun e w' => e = .returned (.tuple #[.string (cutS s c).1, .string (cutS s c).2.1, .bool (cutS s c).2.2]) ∧ Below w.heap.size w w' := by
  have cc := fun W => slcut_calls s c W hs
  generalize cutS s c = r at *
  go_enter Tryz.func122, Tryz.ntmps122
  go_wp2_with (go_at_call 149; refine (cc _).mono ?_; rintro e w' ⟨rfl, hb⟩)
  go_ret3
  exact ⟨rfl, hb⟩
def strings_Cut.f (a0 a1 : ByteArray) : Option (ByteArray × ByteArray × Bool) := if a0.size < 4294967281 ∧ a1 = ⟨#[58]⟩ then some (cutS a0 58) else none
theorem strings_Cut.calls (a0 a1 : ByteArray) (r1 r2 : ByteArray) (r3 : Bool) (w : World) (h : strings_Cut.f a0 a1 = some (r1, r2, r3)) :
    Calls Tryz.prog 122 #[.string a0, .string a1] w fun e w' => e = .returned (.tuple #[.string r1, .string r2, .bool r3]) ∧ Below w.heap.size w w' := by
  unfold strings_Cut.f at h
  split at h
  · rename_i hc
    obtain ⟨h1, rfl⟩ := hc
    have h2 := Option.some.inj h
    have := cut_calls a0 58 w h1
    rw [h2] at this
    exact this
  · cases h
end Go.Proofs.YtiiploicaimnpaaGreatDoor.Hand
namespace Go.Proofs.YtiiploicaimnpaaGreatDoor.Hand
open Go.Shelf Go.RowKit Go.Lib
set_option linter.unusedVariables false
set_option maxHeartbeats 1000000 in
theorem split1_calls (s : ByteArray) (c : UInt8) (w : World) (hs : s.size < 4294967281) :
    Calls Tryz.prog 114 #[.string s, .string ⟨#[c]⟩] w fun e w' =>
      e = .returned (.slice (some ⟨w.heap.size, 0, none⟩) (Lib.countB s ⟨#[c]⟩ + 1) (Lib.countB s ⟨#[c]⟩ + 1)) ∧ w' = w.alloc (.cells ((Lib.splitB ⟨#[c]⟩ 0 (Lib.countB s ⟨#[c]⟩) s).map Value.string).toArray 9) := by
  have h1 : 1 ≤ (⟨#[c]⟩ : ByteArray).size := Nat.le_refl 1
  have hle := Lib.countB_le ⟨#[c]⟩ h1 s.size s (Nat.le_refl _)
  have hlen := Lib.splitB_all ⟨#[c]⟩ h1 0 _ s rfl
  have hI : ∀ (x : ByteArray) (W : World), Calls Tryz.prog 161 #[.string x, .string ⟨#[c]⟩] W fun e w' => e = .returned (.int .i64 (Lib.indexB x ⟨#[c]⟩)) ∧ w' = W := fun x W => by
    refine (Tryz.strings_Index_one x c W).mono fun e w' ⟨he, hw⟩ => ⟨?_, hw⟩
    rw [he]
    show _ = Ending.returned (Value.int .i64 (Lib.index x.data.toList [c]))
    rw [Lib.index_one]
  have hC : Calls Tryz.prog 160 #[.string s, .string ⟨#[c]⟩] w fun e w' => e = .returned (.int .i64 (Lib.countB s ⟨#[c]⟩)) ∧ w' = w := by
    refine (Tryz.strings_Count_one s c w).mono fun e w' ⟨he, hw⟩ => ⟨?_, hw⟩
    rw [he]
    show _ = Ending.returned (Value.int .i64 ((Lib.count s.data.toList [c] : Nat) : Int))
    rw [Lib.count_one]
    rfl
  have cc := Any.strings_genSplit_core Tryz.lays221 (by kernel_rfl) s ⟨#[c]⟩ 0 (-1) (Lib.countB s ⟨#[c]⟩ + 1) w hs h1 (Nat.zero_le _) (fun x _ _ => hI x _) hC (by decide) (by decide) (by rw [if_pos (by decide)]; omega)
  rw [Nat.add_sub_cancel, hlen] at cc
  have e2 : Lib.cellsOf (Lib.splitB ⟨#[c]⟩ 0 (Lib.countB s ⟨#[c]⟩) s) (Lib.countB s ⟨#[c]⟩ + 1) = ((Lib.splitB ⟨#[c]⟩ 0 (Lib.countB s ⟨#[c]⟩) s).map Value.string).toArray := by rw [← hlen]; exact Lib.cellsOf_full _
  rw [e2] at cc
  go_enter Tryz.func114, Tryz.ntmps114
  go_wp2_with (go_at_call 141; refine cc.mono ?_; rintro e w' ⟨rfl, hw⟩; rw [hw])
  go_ret
  exact ⟨rfl, rfl⟩
end Go.Proofs.YtiiploicaimnpaaGreatDoor.Hand
namespace Go.Proofs.YtiiploicaimnpaaGreatDoor.Hand
open Go.RowKit Go.Proofs.YtiiploicaimnpaaGreatDoorW.PrintWords Go.Proofs.YtiiploicaimnpaaGreatDoorW.PrintLast Go.Proofs.YtiiploicaimnpaaGreatDoorW.PrintMore
set_option linter.unusedVariables false
set_option linter.unusedSimpArgs false
/-- ask: the error of the first test that fails. -/
theorem ask_calls (g : Nat) (ok : Bool) (wrong e0 : Int) (w : World) (o : TypeId) (hblk : w.heap[g]? = some (.cells #[.int .i64 e0] o (0, 0))) :
    Calls Tryz.prog 115 #[.bool ok, .int .i64 wrong, .pointer (some ⟨g, 0, none⟩)] w fun e w' => e = .returned (.tuple #[]) ∧ w' = (if e0 = 0 ∧ ok = false then w.setCell ⟨g, 0, none⟩ (.int .i64 wrong) else w) := by
  have hc : w.cell? ⟨g, 0, none⟩ = some (.int .i64 e0) := by simp [World.cell?, hblk]
  have hf : w.frozen? ⟨g, 0, none⟩ = false := blk_frozen hblk _
  by_cases h : e0 = 0
  · subst h
    cases ok
    · rw [if_pos ⟨rfl, rfl⟩]
      go_enter Tryz.func115, Tryz.ntmps115
      go_wp2
      go_end0
      exact ⟨rfl, rfl⟩
    · rw [if_neg (by simp)]
      go_enter Tryz.func115, Tryz.ntmps115
      go_wp2
      go_end0
      exact ⟨rfl, rfl⟩
  · have h2 : (e0 == 0) = false := by rw [beq_eq_false_iff_ne]; exact h
    rw [if_neg (fun h3 => h h3.1)]
    go_enter Tryz.func115, Tryz.ntmps115
    go_wp2
    go_end0
    exact ⟨rfl, rfl⟩
def wordsS (s : ByteArray) : List ByteArray := Lib.splitB ⟨#[32]⟩ 0 (Lib.countB s ⟨#[32]⟩) s
theorem words_len (s : ByteArray) : (wordsS s).length = Lib.countB s ⟨#[32]⟩ + 1 := Lib.splitB_all ⟨#[32]⟩ (Nat.le_refl 1) 0 _ s rfl
theorem words_calls (s : ByteArray) (w : World) (hs : s.size < 4294967281) : Calls Tryz.prog 114 #[.string s, .string ⟨#[32]⟩] w fun e w' => e = .returned (.slice (some ⟨w.heap.size, 0, none⟩) (wordsS s).length (wordsS s).length) ∧ w' = w.alloc (.cells ((wordsS s).map Value.string).toArray 9) := by
  rw [words_len]
  exact split1_calls s 32 w hs
def errS (a b : ByteArray) (f : Int) : Int := if Oct.tokenS a = false then 6 else if Oct.visibleS b = false then 11 else f
def headC (a b : ByteArray) (n : Int) : Array Value := #[.string a, .string b, .int .i64 n, .int .i64 0, .string ⟨#[]⟩, .slice none 0 0]
def headV (a b : ByteArray) (n : Int) : Value := .agg (headC a b n)
def retR (s a b : ByteArray) (n f : Int) : Ending := .returned (.tuple #[if errS a b f = 0 then headV a b n else headV ⟨#[]⟩ ⟨#[]⟩ 0, .int .i64 (errS a b f)])
theorem words3_calls (s a b c : ByteArray) (w : World) (hs : s.size < 4294967281) (hw : wordsS s = [a, b, c]) : Calls Tryz.prog 114 #[.string s, .string ⟨#[32]⟩] w fun e w' => e = .returned (.slice (some ⟨w.heap.size, 0, none⟩) 3 3) ∧ w'.heap[w.heap.size]? = some (.cells #[.string a, .string b, .string c] 9 (0, 0)) ∧ Below w.heap.size w w' ∧ w'.heap.size = w.heap.size + 1 := by
  have h := words_calls s w hs
  rw [hw] at h
  refine h.mono ?_
  rintro e w' ⟨rfl, rfl⟩
  exact ⟨rfl, blk_new _ _, (Below.refl _ _).alloc (Nat.le_refl _) _, by simp⟩
def askE (e : Int) (ok : Bool) (wrong : Int) : Int := if e = 0 ∧ ok = false then wrong else e
theorem errS_ask (a b : ByteArray) (f : Int) : askE (askE (askE 0 (Oct.tokenS a) 6) (Oct.visibleS b) 11) (f == 0) f = errS a b f := by
  unfold errS askE
  cases Oct.tokenS a <;> cases Oct.visibleS b <;> simp
  exact fun h => h.symm
/-- What lies in memory while Request runs: its result, the words, the head, the error. -/
structure RQ (w W : World) (gh ge : Nat) (a b c : ByteArray) (n e : Int) : Prop where
  r : W.heap[w.heap.size]? = some (.cells (headC ⟨#[]⟩ ⟨#[]⟩ 0) 29 (0, 0))
  s : W.heap[w.heap.size + 1]? = some (.cells #[.string a, .string b, .string c] 9 (0, 0))
  h : W.heap[gh]? = some (.cells (headC a b n) 29 (0, 0))
  e : W.heap[ge]? = some (.cells #[.int .i64 e] 30 (0, 0))
  b : Below w.heap.size w W
  lh : w.heap.size < gh
  le : w.heap.size < ge
theorem RQ.below {w W W' : World} {gh ge : Nat} {a b c : ByteArray} {n e : Int} (h : RQ w W gh ge a b c n e) (hb : Below W.heap.size W W') : RQ w W' gh ge a b c n e :=
  ⟨blk_below h.r hb, blk_below h.s hb, blk_below h.h hb, blk_below h.e hb, h.b.trans (hb.mono h.b.size), h.lh, h.le⟩
theorem RQ.drawn {w W W' : World} {gh ge : Nat} {a b c : ByteArray} {n e : Int} (h : RQ w W gh ge a b c n e) (hb : Drawn0 W W') : RQ w W' gh ge a b c n e := by
  obtain ⟨m, rfl⟩ := hb
  exact ⟨h.r, h.s, h.h, h.e, pw_below_drewN h.b m, h.lh, h.le⟩
theorem RQ.setE {w W : World} {gh ge : Nat} {a b c : ByteArray} {n e : Int} (h : RQ w W gh ge a b c n e) (e' : Int) : RQ w (W.setCell ⟨ge, 0, none⟩ (.int .i64 e')) gh ge a b c n e' :=
  ⟨blk_far h.r (blk_ne h.r h.e (by decide)) _, blk_far h.s (blk_ne h.s h.e (by decide)) _, blk_far h.h (blk_ne h.h h.e (by decide)) _, blk_put h.e 0 _ rfl, h.b.setCell (Nat.le_of_lt h.le) _, h.lh, h.le⟩
theorem RQ.setN {w W : World} {gh ge : Nat} {a b c : ByteArray} {n e : Int} (h : RQ w W gh ge a b c n e) (n' : Int) : RQ w (W.setCell ⟨gh, 2, none⟩ (.int .i64 n')) gh ge a b c n' e :=
  ⟨blk_far h.r (Nat.ne_of_lt h.lh) _, blk_far h.s (blk_ne h.s h.h (by decide)) _, blk_put h.h 2 _ rfl, blk_far h.e (blk_ne h.e h.h (by decide)) _, h.b.setCell (Nat.le_of_lt h.lh) _, h.lh, h.le⟩
theorem RQ.ask {w W : World} {gh ge : Nat} {a b c : ByteArray} {n e : Int} (h : RQ w W gh ge a b c n e) (ok : Bool) (wrong : Int) :
    Calls Tryz.prog 115 #[.bool ok, .int .i64 wrong, .pointer (some ⟨ge, 0, none⟩)] W fun x W' => x = .returned (.tuple #[]) ∧ RQ w W' gh ge a b c n (askE e ok wrong) := by
  refine (ask_calls ge ok wrong e W _ h.e).mono ?_
  rintro x W' ⟨rfl, rfl⟩
  refine ⟨rfl, ?_⟩
  unfold askE
  by_cases k : e = 0 ∧ ok = false
  · rw [if_pos k, if_pos k]; exact h.setE wrong
  · rw [if_neg k, if_neg k]; exact h
theorem RQ.cells {w W : World} {gh ge : Nat} {a b c : ByteArray} {n e : Int} (h : RQ w W gh ge a b c n e) : W.cell? ⟨gh, 0, none⟩ = some (.string a) ∧ W.cell? ⟨gh, 1, none⟩ = some (.string b) ∧ W.cell? ⟨gh, 2, none⟩ = some (.int .i64 n) ∧ W.frozen? ⟨gh, 2, none⟩ = false ∧ W.cell? ⟨w.heap.size + 1, 2, none⟩ = some (.string c) ∧ W.cell? ⟨ge, 0, none⟩ = some (.int .i64 e) :=
  ⟨blk_cell h.h 0, blk_cell h.h 1, blk_cell h.h 2, blk_frozen h.h 2, blk_cell h.s 2, blk_cell h.e 0⟩
set_option maxHeartbeats 1000000 in
set_option maxRecDepth 100000 in
theorem Request_three (s : ByteArray) (a b c : ByteArray) (n f : Int) (w : World) (hs : s.size < 4294967281) (hw : wordsS s = [a, b, c]) (hm : start_Minor.f c = some (n, f)) :
    Calls Tryz.prog 84 #[.string s] w fun e w' => e = retR s a b n f ∧ Below w.heap.size w w' := by
  have cS := fun W => words3_calls s a b c W hs hw
  have cM := fun W => start_Minor.calls c n f W hm
  clear hw hm
  go_enter Tryz.func84, Tryz.ntmps84
  go_wp2_with (first | (go_at_call 114; refine (cS _).mono ?_; rintro e w1 ⟨rfl, hb1, hB1, hz1⟩))
  have hb0 := blk_below (blk_new w _) hB1
  have hB := ((Below.refl w.heap.size w).alloc (Nat.le_refl _) _).trans (hB1.mono (by simp))
  rw [World.size_alloc] at hb1 hz1
  clear hB1 cS
  have hx0 : w1.cell? ⟨w.heap.size + 1, 0, none⟩ = some (.string a) := blk_cell hb1 0
  have hx1 : w1.cell? ⟨w.heap.size + 1, 1, none⟩ = some (.string b) := blk_cell hb1 1
  have hy0 : ∀ o, (w1.alloc o).cell? ⟨w.heap.size + 1, 0, none⟩ = some (.string a) := fun o => blk_cell (blk_alloc hb1 o) 0
  have hy1 : ∀ o, (w1.alloc o).cell? ⟨w.heap.size + 1, 1, none⟩ = some (.string b) := fun o => blk_cell (blk_alloc hb1 o) 1
  have hzH := Lib.hid hz1
  clear hz1
  go_wp2_with fail
  go_region
  have hQ0 : ∀ W, W = ((w1.alloc (.cells #[.string a, .string b, .int .i64 0, .int .i64 0, .string ⟨#[]⟩, .slice none 0 0] 29)).alloc (.cells #[.int .i64 0] 30)).drew → RQ w W w1.heap.size (w1.heap.size + 1) a b c 0 0 := fun W hW => by
    have h1 := hzH.out
    subst hW
    refine ⟨blk_drew (blk_alloc (blk_alloc hb0 _) _), blk_drew (blk_alloc (blk_alloc hb1 _) _), blk_drew (blk_alloc (blk_new w1 _) _), ?_, ((hB.alloc hB.size _).alloc ?_ _).drew, by omega, by omega⟩
    · have := blk_new (w1.alloc (.cells #[.string a, .string b, .int .i64 0, .int .i64 0, .string ⟨#[]⟩, .slice none 0 0] 29)) (.cells #[.int .i64 0] 30)
      rw [World.size_alloc] at this
      exact blk_drew this
    · have := hB.size; simp; omega
  have eg := enters_of Tryz.func115 (by kernel_rfl) rfl
  clear hb1 hb0 hB hx0 hx1 hy0 hy1
  go_wp2_with (go_at_call 99; have hQ1 := hQ0 _ rfl; refine (Oct.Token_calls a _).mono ?_; rintro e w2 ⟨rfl, hb⟩; have hQ2 := hQ1.below hb; clear hb hQ1 hQ0; obtain ⟨c0, c1, c2, f2, c3, c4⟩ := hQ2.cells)
  go_wp2_with (go_at_call 115; refine (hQ2.ask _ _).mono ?_; clear c0 c1 c2 f2 c3 c4 hQ2; rintro e w3 ⟨rfl, hQ3⟩; obtain ⟨c0, c1, c2, f2, c3, c4⟩ := hQ3.cells)
  go_wp2_with (go_at_call 102; refine (Oct.Visible_calls b _).mono ?_; rintro e w4 ⟨rfl, hb⟩; have hQ4 := hQ3.below hb; clear c0 c1 c2 f2 c3 c4 hb hQ3; obtain ⟨c0, c1, c2, f2, c3, c4⟩ := hQ4.cells)
  go_wp2_with (go_at_call 115; refine (hQ4.ask _ _).mono ?_; clear c0 c1 c2 f2 c3 c4 hQ4; rintro e w5 ⟨rfl, hQ5⟩; obtain ⟨c0, c1, c2, f2, c3, c4⟩ := hQ5.cells)
  go_wp2_with (go_at_call 116; refine (cM _).mono ?_; rintro e w6 ⟨rfl, hb⟩; have hQ6 := hQ5.drawn hb; clear c0 c1 c2 f2 c3 c4 hb hQ5; obtain ⟨c0, c1, c2, f2, c3, c4⟩ := hQ6.cells)
  go_wp2_with (go_at_call 115; refine (hQ6.ask _ _).mono ?_; clear c0 c1 c2 f2 c3 c4 hQ6; rintro e w7 ⟨rfl, hQ7⟩; rw [errS_ask] at hQ7; obtain ⟨c0, c1, c2, f2, c3, c4⟩ := hQ7.cells)
  go_wp2_with fail
  all_goals
    have hQ8 := hQ7.setN n
    obtain ⟨w8, hw8⟩ : ∃ W, w7.setCell ⟨w1.heap.size, 2, none⟩ (.int .i64 n) = W := ⟨_, rfl⟩
    rw [hw8] at hQ8 ⊢
    clear hw8 c0 c1 c2 f2 c3 c4 hQ7
    have cE : w8.cell? ⟨w1.heap.size + 1, 0, none⟩ = some (.int .i64 (errS a b f)) := blk_cell hQ8.e 0
    have cH : ∀ i, w8.cell? ⟨w1.heap.size, i, none⟩ = (headC a b n)[i]? := fun i => blk_cell hQ8.h i
    have cR : ∀ i, w8.cell? ⟨w.heap.size, i, none⟩ = (headC ⟨#[]⟩ ⟨#[]⟩ 0)[i]? := fun i => blk_cell hQ8.r i
    have fR : ∀ i, w8.frozen? ⟨w.heap.size, i, none⟩ = false := fun i => blk_frozen hQ8.r i
    have h0 := cH 0; have h1 := cH 1; have h2 := cH 2; have h3 := cH 3; have h4 := cH 4; have h5 := cH 5
    have r0 := cR 0; have r1 := cR 1; have r2 := cR 2; have r3 := cR 3; have r4 := cR 4; have r5 := cR 5
    have g0 := fR 0; have g1 := fR 1; have g2 := fR 2; have g3 := fR 3; have g4 := fR 4; have g5 := fR 5
    simp [headC] at h0 h1 h2 h3 h4 h5 r0 r1 r2 r3 r4 r5
    have hB8 := hQ8.b
    clear cH cR fR hQ8
    have n1 : ¬ w1.heap.size + 1 = w.heap.size := by have := hzH.out; omega
    have n2 : ¬ w.heap.size = w1.heap.size + 1 := by have := hzH.out; omega
    have n3 : ¬ w1.heap.size = w.heap.size := by have := hzH.out; omega
    have n4 : ¬ w.heap.size = w1.heap.size := by have := hzH.out; omega
    go_region
    go_wp2
  · have hte : (errS a b f != 0) = true := by assumption
    have hE : ¬ errS a b f = 0 := by simpa using hte
    refine bodyPost_ret (v := .tuple #[headV ⟨#[]⟩ ⟨#[]⟩ 0, .int .i64 (errS a b f)]) (by simp [results, Tryz.results84, go_sem, headV, headC, *]) rfl ⟨by unfold retR; rw [if_neg hE], ?_⟩
    exact ((((((hB8.setCell (p := ⟨w.heap.size, 0, none⟩) (Nat.le_refl _) _).setCell (p := ⟨w.heap.size, 1, none⟩) (Nat.le_refl _) _).setCell (p := ⟨w.heap.size, 2, none⟩) (Nat.le_refl _) _).setCell (p := ⟨w.heap.size, 3, none⟩) (Nat.le_refl _) _).setCell (p := ⟨w.heap.size, 4, none⟩) (Nat.le_refl _) _).setCell (p := ⟨w.heap.size, 5, none⟩) (Nat.le_refl _) _).drew
  · have hte : (errS a b f != 0) = false := by assumption
    have hE : errS a b f = 0 := by simpa using hte
    refine bodyPost_ret (v := .tuple #[headV a b n, .int .i64 (errS a b f)]) (by simp [results, Tryz.results84, go_sem, headV, headC, *]) rfl ⟨by unfold retR; rw [if_pos hE], ?_⟩
    exact ((((((hB8.setCell (p := ⟨w.heap.size, 0, none⟩) (Nat.le_refl _) _).setCell (p := ⟨w.heap.size, 1, none⟩) (Nat.le_refl _) _).setCell (p := ⟨w.heap.size, 2, none⟩) (Nat.le_refl _) _).setCell (p := ⟨w.heap.size, 3, none⟩) (Nat.le_refl _) _).setCell (p := ⟨w.heap.size, 4, none⟩) (Nat.le_refl _) _).setCell (p := ⟨w.heap.size, 5, none⟩) (Nat.le_refl _) _).drew
end Go.Proofs.YtiiploicaimnpaaGreatDoor.Hand
namespace Go.Proofs.YtiiploicaimnpaaGreatDoor.Hand
open Go.RowKit Go.Proofs.YtiiploicaimnpaaGreatDoorW.PrintWords Go.Proofs.YtiiploicaimnpaaGreatDoorW.PrintLast Go.Proofs.YtiiploicaimnpaaGreatDoorW.PrintMore
set_option linter.unusedVariables false
set_option linter.unusedSimpArgs false
set_option maxHeartbeats 1000000 in
set_option maxRecDepth 100000 in
theorem Request_other (s : ByteArray) (w : World) (hs : s.size < 4294967281) (hw : ¬ (wordsS s).length = 3) :
    Calls Tryz.prog 84 #[.string s] w fun e w' => e = .returned (.tuple #[headV ⟨#[]⟩ ⟨#[]⟩ 0, .int .i64 3]) ∧ Below w.heap.size w w' := by
  have cS := fun W => words_calls s W hs
  generalize wordsS s = l at cS hw
  have hl : (((l.length : Nat) : Int) != 3) = true := by simp; omega
  clear hw
  go_enter Tryz.func84, Tryz.ntmps84
  go_wp2_with (go_at_call 114; refine (cS _).mono ?_; rintro e w1 ⟨rfl, hw1⟩; have hB1 : Below w.heap.size w w1 := hw1 ▸ ((Below.refl _ _).alloc (Nat.le_refl _) _).alloc (by simp) _; have hb0 : w1.heap[w.heap.size]? = some (.cells (headC ⟨#[]⟩ ⟨#[]⟩ 0) 29 (0, 0)) := hw1 ▸ blk_alloc (blk_new w _) _; clear hw1; have cR : ∀ i, w1.cell? ⟨w.heap.size, i, none⟩ = (headC ⟨#[]⟩ ⟨#[]⟩ 0)[i]? := fun i => blk_cell hb0 i; have fR : ∀ i, w1.frozen? ⟨w.heap.size, i, none⟩ = false := fun i => blk_frozen hb0 i; have r0 := cR 0; have r1 := cR 1; have r2 := cR 2; have r3 := cR 3; have r4 := cR 4; have r5 := cR 5; simp [headC] at r0 r1 r2 r3 r4 r5; clear cR hb0)
  refine bodyPost_ret (v := .tuple #[headV ⟨#[]⟩ ⟨#[]⟩ 0, .int .i64 3]) (by simp [results, Tryz.results84, go_sem, headV, headC, *]) rfl ⟨rfl, ?_⟩
  exact ((((((hB1.setCell (p := ⟨w.heap.size, 0, none⟩) (Nat.le_refl _) _).setCell (p := ⟨w.heap.size, 1, none⟩) (Nat.le_refl _) _).setCell (p := ⟨w.heap.size, 2, none⟩) (Nat.le_refl _) _).setCell (p := ⟨w.heap.size, 3, none⟩) (Nat.le_refl _) _).setCell (p := ⟨w.heap.size, 4, none⟩) (Nat.le_refl _) _).setCell (p := ⟨w.heap.size, 5, none⟩) (Nat.le_refl _) _)
def reqR (s a b : ByteArray) (n f : Int) : ByteArray × ByteArray × Int × Int × ByteArray × List S85 × Int :=
  if errS a b f = 0 then (a, b, n, 0, ⟨#[]⟩, [], errS a b f) else (⟨#[]⟩, ⟨#[]⟩, 0, 0, ⟨#[]⟩, [], errS a b f)
def start_Request.f (a0 : ByteArray) : Option (ByteArray × ByteArray × Int × Int × ByteArray × List S85 × Int) :=
  if a0.size < 4294967281 then
    match wordsS a0 with
    | [a, b, c] => (start_Minor.f c).bind fun nf => some (reqR a0 a b nf.1 nf.2)
    | _ => some (⟨#[]⟩, ⟨#[]⟩, 0, 0, ⟨#[]⟩, [], 3)
  else none
theorem start_Request.calls (a0 : ByteArray) (r1 : ByteArray) (r2 : ByteArray) (r3 : Int) (r4 : Int) (r5 : ByteArray) (r6 : List S85) (r7 : Int) (w : World) (h : start_Request.f a0 = some (r1, r2, r3, r4, r5, r6, r7)) :
    Calls Tryz.prog 84 #[.string a0] w fun e w' => ∃ v5_ : Value, e = .returned (.tuple #[.agg #[.string r1, .string r2, .int .i64 r3, .int .i64 r4, .string r5, v5_], .int .i64 r7]) ∧ Kd.R k85 85 w' w.heap.size (fun _ => True) v5_ r6 ∧ Below w.heap.size w w' := by
  unfold start_Request.f at h
  by_cases hs : a0.size < 4294967281
  · rw [if_pos hs] at h
    by_cases hl : (wordsS a0).length = 3
    · match hw : wordsS a0, hl with
      | [a, b, c], _ =>
        rw [hw] at h
        obtain ⟨⟨n, f⟩, hm, hr⟩ := Option.bind_eq_some_iff.1 h
        have hr := Option.some.inj hr
        refine (Request_three a0 a b c n f w hs hw hm).mono ?_
        rintro e w' ⟨rfl, hb⟩
        unfold reqR at hr
        unfold retR
        by_cases h0 : errS a b f = 0
        · rw [if_pos h0] at hr
          rw [if_pos h0]
          simp only [Prod.mk.injEq] at hr
          obtain ⟨rfl, rfl, rfl, rfl, rfl, rfl, rfl⟩ := hr
          exact ⟨_, rfl, Kd.R_nil _ _ _ _ _, hb⟩
        · rw [if_neg h0] at hr
          rw [if_neg h0]
          simp only [Prod.mk.injEq] at hr
          obtain ⟨rfl, rfl, rfl, rfl, rfl, rfl, rfl⟩ := hr
          exact ⟨_, rfl, Kd.R_nil _ _ _ _ _, hb⟩
    · have hr : some (⟨#[]⟩, ⟨#[]⟩, 0, 0, ⟨#[]⟩, [], 3) = some (r1, r2, r3, r4, r5, r6, r7) := by
        rw [← h]
        split
        · rename_i hq
          rw [hq] at hl
          exact absurd rfl hl
        · rfl
      have hr := Option.some.inj hr
      simp only [Prod.mk.injEq] at hr
      obtain ⟨rfl, rfl, rfl, rfl, rfl, rfl, rfl⟩ := hr
      refine (Request_other a0 w hs hl).mono ?_
      rintro e w' ⟨rfl, hb⟩
      exact ⟨_, rfl, Kd.R_nil _ _ _ _ _, hb⟩
  · rw [if_neg hs] at h
    cases h
end Go.Proofs.YtiiploicaimnpaaGreatDoor.Hand
namespace Go.Proofs.YtiiploicaimnpaaGreatDoor.Hand
open Go.RowKit Go.Proofs.YtiiploicaimnpaaGreatDoorW.PrintWords Go.Proofs.YtiiploicaimnpaaGreatDoorW.PrintLast Go.Proofs.YtiiploicaimnpaaGreatDoorW.PrintMore
set_option linter.unusedVariables false
set_option linter.unusedSimpArgs false
def strings_Repeat.f (a0 : ByteArray) (a1 : Int) : Option ByteArray := if 0 ≤ a1 ∧ a1 ≤ 140737488355328 ∧ a0.size * a1.toNat ≤ 140737488355328 then some ⟨(Lib.repeatL a0.data.toList a1.toNat).toArray⟩ else none
theorem strings_Repeat.calls (a0 : ByteArray) (a1 : Int) (r : ByteArray) (w : World) (h : strings_Repeat.f a0 a1 = some r) :
    Calls Tryz.prog 128 #[.string a0, .int .i64 a1] w fun e w' => e = .returned (.string r) ∧ Below w.heap.size w w' := by
  unfold strings_Repeat.f at h
  by_cases hc : 0 ≤ a1 ∧ a1 ≤ 140737488355328 ∧ a0.size * a1.toNat ≤ 140737488355328
  · rw [if_pos hc] at h
    obtain rfl := Option.some.inj h
    have c := Tryz.strings_Repeat a0 a1.toNat w (by omega) hc.2.2
    rw [Int.toNat_of_nonneg hc.1] at c
    exact c
  · rw [if_neg hc] at h
    cases h
end Go.Proofs.YtiiploicaimnpaaGreatDoor.Hand
namespace Go.Proofs.YtiiploicaimnpaaGreatDoor.Hand
open Go.RowKit Go.Proofs.YtiiploicaimnpaaGreatDoorW.PrintWords Go.Proofs.YtiiploicaimnpaaGreatDoorW.PrintLast Go.Proofs.YtiiploicaimnpaaGreatDoorW.PrintMore
set_option linter.unusedVariables false
set_option linter.unusedSimpArgs false
attribute [local go_sem] max2_int min2_int
def padL (n : Int) (w : Nat) : List UInt8 := if n < 0 then textL n else List.replicate (w - (textL n).length) 48 ++ textL n
theorem repeat0 (m : Nat) : (Lib.repeatL [48] m) = List.replicate m (48 : UInt8) := by
  induction m with
  | zero => rfl
  | succ m ih => simp [Lib.repeatL, List.replicate_succ] at ih ⊢; exact ih
set_option maxHeartbeats 1000000 in
theorem Pad3_calls (n : Int) (w : World) (h0 : -9223372036854775808 ≤ n) (h1 : n ≤ 9223372036854775807) :
    Calls Tryz.prog 96 #[.int .i64 n, .int .i64 3] w fun e w' => e = .returned (.string (ba (padL n 3))) ∧ Below w.heap.size w w' := by
  have hl := textL_len h0 h1
  have cT := fun W => Text_calls n W h0 h1
  unfold padL
  generalize textL n = l at hl cT ⊢
  by_cases hn : n < 0
  · rw [if_pos hn]
    clear h0 h1
    go_enter Tryz.func96, Tryz.ntmps96
    go_wp2_with (go_at_call 127; refine (cT _).mono ?_; rintro e w1 ⟨rfl, hb⟩)
    go_ret
    exact ⟨rfl, hb⟩
  · rw [if_neg hn]
    have hz : (ba l).size = l.length := ba_size l
    have hz2 : (ba l).size ≤ 21 := by omega
    have cR := fun W => strings_Repeat.calls ⟨#[48]⟩ ((3 - (ba l).size : Nat) : Int) (ba (List.replicate (3 - (ba l).size) 48)) W (by
      unfold strings_Repeat.f
      rw [if_pos ⟨by omega, by omega, by rw [Int.toNat_natCast]; have : (⟨#[48]⟩ : ByteArray).size = 1 := rfl; rw [this]; omega⟩, Int.toNat_natCast]
      show some (⟨(Lib.repeatL [48] _).toArray⟩ : ByteArray) = _
      rw [repeat0]
      rfl)
    have e : ba (List.replicate (3 - l.length) 48 ++ l) = ba (List.replicate (3 - (ba l).size) 48) ++ ba l := by rw [ba_append, hz]
    rw [e]
    have hs : (ba (List.replicate (3 - (ba l).size) (48 : UInt8))).size ≤ 3 := by rw [ba_size, List.length_replicate]; omega
    clear e hz hl h0 h1
    generalize ba (List.replicate (3 - (ba l).size) 48) = r at cR hs ⊢
    generalize ba l = t at cT cR hz2 ⊢
    have hm : max 0 (min (max 3 0) 20 - (t.size : Int)) = ((3 - t.size : Nat) : Int) := by omega
    go_enter Tryz.func96, Tryz.ntmps96
    go_wp2_with (go_at_call 127; refine (cT _).mono ?_; rintro e w1 ⟨rfl, hb⟩)
    go_wp2_with (go_at_call 128; refine (cR _).mono ?_; rintro e w2 ⟨rfl, hb2⟩)
    go_ret
    exact ⟨rfl, hb.trans (hb2.mono hb.size)⟩
end Go.Proofs.YtiiploicaimnpaaGreatDoor.Hand
namespace Go.Proofs.YtiiploicaimnpaaGreatDoor.Hand
open Go.RowKit Go.Proofs.YtiiploicaimnpaaGreatDoorW.PrintWords Go.Proofs.YtiiploicaimnpaaGreatDoorW.PrintLast Go.Proofs.YtiiploicaimnpaaGreatDoorW.PrintMore
set_option linter.unusedVariables false
set_option linter.unusedSimpArgs false
def versS (n : Int) : ByteArray := if n ≤ 0 then ⟨#[72, 84, 84, 80, 47, 49, 46, 48]⟩ else ⟨#[72, 84, 84, 80, 47, 49, 46, 49]⟩
theorem versS_size (n : Int) : (versS n).size = 8 := by unfold versS; split <;> rfl
theorem Version_calls (n : Int) (w : World) : Calls Tryz.prog 95 #[.int .i64 n] w fun e w' => e = .returned (.string (versS n)) ∧ w' = w := by
  unfold versS
  by_cases h : n ≤ 0
  · rw [if_pos h]
    go_enter Tryz.func95, Tryz.ntmps95
    go_wp2
    go_ret
    exact ⟨rfl, rfl⟩
  · rw [if_neg h]
    go_enter Tryz.func95, Tryz.ntmps95
    go_wp2
    go_ret
    exact ⟨rfl, rfl⟩
set_option maxHeartbeats 1000000 in
set_option maxRecDepth 100000 in
theorem Line_ask (m t : ByteArray) (n st : Int) (r : ByteArray) (fv : Value) (w : World) (hm : m.size ≤ 140737488355328) (ht : t.size ≤ 140737488355328) (h : ¬ m.toList = []) (hf : fv.cells = #[fv]) :
    Calls Tryz.prog 50 #[.agg #[.string m, .string t, .int .i64 n, .int .i64 st, .string r, fv]] w fun e w' => e = .returned (.string (m ++ ⟨#[32]⟩ ++ t ++ ⟨#[32]⟩ ++ versS n)) ∧ Below w.heap.size w w' := by
  have cV := fun W => Version_calls n W
  have hv := versS_size n
  generalize versS n = v at cV hv ⊢
  have he : m.toList.isEmpty = false := by cases h' : m.toList <;> simp_all
  have hv2 : v.size ≤ 8 := by omega
  clear hv h
  go_enter Tryz.func50, Tryz.ntmps50
  go_wp2
  go_quiet ((go_at_call 95; exact Calls.quiet_of_same (cV _)))
  go_wp2
  go_ret
  exact ⟨rfl, pw_below_drewN ((Below.refl _ _).alloc (Nat.le_refl _) _) _⟩
set_option maxHeartbeats 1000000 in
set_option maxRecDepth 100000 in
theorem Line_answer (m t : ByteArray) (n st : Int) (r : ByteArray) (fv : Value) (w : World) (hr : r.size ≤ 140737488355328) (h : m.toList = []) (hf : fv.cells = #[fv]) (h0 : -9223372036854775808 ≤ st) (h1 : st ≤ 9223372036854775807) :
    Calls Tryz.prog 50 #[.agg #[.string m, .string t, .int .i64 n, .int .i64 st, .string r, fv]] w fun e w' => e = .returned (.string (versS n ++ ⟨#[32]⟩ ++ ba (padL st 3) ++ ⟨#[32]⟩ ++ r)) ∧ Below w.heap.size w w' := by
  have cV := fun W => Version_calls n W
  have hv := versS_size n
  generalize versS n = v at cV hv ⊢
  have cP := fun W => Pad3_calls st W h0 h1
  have hp : (ba (padL st 3)).size ≤ 24 := by
    have := textL_len h0 h1
    rw [ba_size]
    unfold padL
    split
    · omega
    · simp; omega
  generalize ba (padL st 3) = pd at cP hp ⊢
  have he : m.toList.isEmpty = true := by rw [h]; rfl
  have hv2 : v.size ≤ 8 := by omega
  clear hv h h0 h1
  go_enter Tryz.func50, Tryz.ntmps50
  go_wp2
  obtain ⟨w1, hw1⟩ : ∃ W, w.alloc (.cells #[.string m, .string t, .int .i64 n, .int .i64 st, .string r, fv] 29) = W := ⟨_, rfl⟩
  have hb : w1.heap[w.heap.size]? = some (.cells #[.string m, .string t, .int .i64 n, .int .i64 st, .string r, fv] 29 (0, 0)) := hw1 ▸ blk_new w _
  have hB : Below w.heap.size w w1 := hw1 ▸ (Below.refl _ _).alloc (Nat.le_refl _) _
  rw [hw1]
  clear hw1
  have c2 : w1.cell? ⟨w.heap.size, 2, none⟩ = some (.int .i64 n) := blk_cell hb 2
  have c3 : w1.cell? ⟨w.heap.size, 3, none⟩ = some (.int .i64 st) := blk_cell hb 3
  have c4 : w1.cell? ⟨w.heap.size, 4, none⟩ = some (.string r) := blk_cell hb 4
  have q1 : (9223372036854775807 < v.size + 1) = False := eq_false (by omega)
  have q2 : (9223372036854775807 < v.size + 1 + pd.size) = False := eq_false (by omega)
  have q3 : (9223372036854775807 < v.size + 1 + pd.size + 1) = False := eq_false (by omega)
  have q4 : (9223372036854775807 < v.size + 1 + pd.size + 1 + r.size) = False := eq_false (by omega)
  go_region_held3 (fun w' => w'.cell? ⟨w.heap.size, 2, none⟩ = some (.int .i64 n) ∧ w'.cell? ⟨w.heap.size, 3, none⟩ = some (.int .i64 st) ∧ w'.cell? ⟨w.heap.size, 4, none⟩ = some (.string r) ∧ Below w.heap.size w w')
    (first
      | exact ⟨c2, c3, c4, hB.drew⟩
      | (go_split_ands; exact ⟨pw_cell_below hb3 (by assumption), pw_cell_below hb3 (by assumption), pw_cell_below hb3 (by assumption), Below.trans (by assumption) (hb3.mono (Below.size (by assumption)))⟩)
      | go_keep)
    (first | (go_at_call 95; refine (cV _).mono ?_; rintro e w2 ⟨rfl, rfl⟩) | (go_at_call 96; refine (cP _).mono ?_; rintro e w3 ⟨rfl, hb3⟩))
  all_goals
    go_wp2
    go_ret
    exact ⟨rfl, hB.drew.trans (hb3.mono hB.size)⟩
def lineS (m t : ByteArray) (n st : Int) (r : ByteArray) : ByteArray :=
  if m.toList = [] then versS n ++ ⟨#[32]⟩ ++ ba (padL st 3) ++ ⟨#[32]⟩ ++ r else m ++ ⟨#[32]⟩ ++ t ++ ⟨#[32]⟩ ++ versS n
def start_Line.f (a0_0 : ByteArray) (a0_1 : ByteArray) (a0_2 : Int) (a0_3 : Int) (a0_4 : ByteArray) (l0_5 : List S85) : Option ByteArray :=
  if a0_0.size ≤ 140737488355328 ∧ a0_1.size ≤ 140737488355328 ∧ a0_4.size ≤ 140737488355328 ∧ -9223372036854775808 ≤ a0_3 ∧ a0_3 ≤ 9223372036854775807 then some (lineS a0_0 a0_1 a0_2 a0_3 a0_4) else none
theorem start_Line.calls (a0_0 : ByteArray) (a0_1 : ByteArray) (a0_2 : Int) (a0_3 : Int) (a0_4 : ByteArray) (A0_5 : Option Addr) (c0_5 : Nat) (l0_5 : List S85) (r : ByteArray) (w : World) (hr0_5 : Kd.C k85 w A0_5 l0_5.length l0_5) (hc0_5 : l0_5.length ≤ c0_5) (h : start_Line.f a0_0 a0_1 a0_2 a0_3 a0_4 l0_5 = some r) :
    Calls Tryz.prog 50 #[.agg #[.string a0_0, .string a0_1, .int .i64 a0_2, .int .i64 a0_3, .string a0_4, .slice A0_5 l0_5.length c0_5]] w fun e w' => e = .returned (.string r) ∧ Below w.heap.size w w' := by
  unfold start_Line.f at h
  by_cases hc : a0_0.size ≤ 140737488355328 ∧ a0_1.size ≤ 140737488355328 ∧ a0_4.size ≤ 140737488355328 ∧ -9223372036854775808 ≤ a0_3 ∧ a0_3 ≤ 9223372036854775807
  · rw [if_pos hc] at h
    obtain rfl := Option.some.inj h
    obtain ⟨h0, h1, h2, h3, h4⟩ := hc
    unfold lineS
    by_cases hm : a0_0.toList = []
    · rw [if_pos hm]
      exact Line_answer _ _ _ _ _ _ w h2 hm rfl h3 h4
    · rw [if_neg hm]
      exact Line_ask _ _ _ _ _ _ w h0 h1 hm rfl
  · rw [if_neg hc] at h
    cases h
end Go.Proofs.YtiiploicaimnpaaGreatDoor.Hand
namespace Go.Proofs.YtiiploicaimnpaaGreatDoor.Hand
open Go.RowKit Go.Proofs.YtiiploicaimnpaaGreatDoorW.PrintWords
set_option linter.unusedVariables false
set_option linter.unusedSimpArgs false
theorem digL_lt {b n : Nat} (h : n < b) : digL b n = [sg n] := by rw [digL, dif_pos (.inr h)]
theorem digL_ge {b n : Nat} (hb : 2 ≤ b) (h : ¬ n < b) : digL b n = digL b (n / b) ++ [sg (n % b)] := by rw [digL, dif_neg (by omega)]
theorem sig_at {d : Nat} (h : d < 16) : (⟨#[48, 49, 50, 51, 52, 53, 54, 55, 56, 57, 97, 98, 99, 100, 101, 102]⟩ : ByteArray).extract d (d + 1) = ba [sg d] := by
  have : ∀ d : Fin 16, ((⟨#[48, 49, 50, 51, 52, 53, 54, 55, 56, 57, 97, 98, 99, 100, 101, 102]⟩ : ByteArray).extract d.val (d.val + 1)).data.toList = [sg d.val] := by decide
  have h2 := this ⟨d, h⟩
  apply ByteArray.ext
  apply Array.ext'
  rw [h2]
  rfl
theorem u64_div {m b : Nat} (h : m ≤ 9223372036854775808) : IntKind.u64.wrap ((m : Int) / (b : Int)) = ((m / b : Nat) : Int) := by
  rw [← Int.natCast_ediv]
  have : m / b ≤ m := Nat.div_le_self _ _
  generalize m / b = q at *
  exact IntWalk.u64_in _ (by omega)
theorem Below_drewN {B : Nat} {w W : World} (h : Below B w W) (n : Nat) : Below B w (W.drewN n) := ⟨h.os, h.tape, h.output, h.size, h.block⟩
set_option maxHeartbeats 1000000 in
theorem refDigits_calls (n b : Nat) (w : World) (hb : b = 10 ∨ b = 16) (hn : n ≤ 9223372036854775808) :
    Calls Tryz.prog 154 #[.int .u64 n, .int .u64 b] w fun e w' => e = .returned (.string (ba (digL b n))) ∧ Below w.heap.size w w' := by
  obtain ⟨R, hR⟩ : ∃ R, digL b n = R := ⟨_, rfl⟩
  rw [hR]
  have hlen : R.length ≤ 20 := by rw [← hR]; exact digL_le 20 b n (by omega) (by omega) (by omega)
  have hR' : Hid (digL b n ++ [] = R) := by rw [List.append_nil]; exact hR
  have hlen' := Lib.hid hlen
  clear hR hlen
  have hb0 : b ≤ 16 := by omega
  have hb1 : 10 ≤ b := by omega
  have hb2 : ¬ b = 0 := by omega
  go_enter Tryz.func154, Tryz.ntmps154
  go_wp2
  go_loopw [0, 6] (fun vn vo wr => ∃ (m : Nat) (o : List UInt8), m ≤ 9223372036854775808 ∧ vn = .int .u64 m ∧ vo = .string (ba o) ∧ Hid (digL b m ++ o = R) ∧ Below w.heap.size w wr) (fun vn _ _ => (intOf vn).toNat)
  case atStart => exact ⟨n, [], hn, rfl, rfl, hR', Below.refl _ _⟩
  case round =>
    clear hR' hn n
    obtain ⟨m, o, hm, rfl, rfl, hI, hB⟩ := hrel
    have hol : (ba o).size ≤ 20 := by
      have := hlen'.out
      rw [← hI.out, List.length_append] at this
      rw [ba_size]
      omega
    by_cases hlt : m < b
    · have hI2 := hI.out
      rw [digL_lt hlt] at hI2
      have hI3 := Lib.hid hI2
      clear hI hI2
      go_wp2
      go_ret
      exact ⟨by rw [show (m + 1) = m + 1 from rfl]; rw [← hI3.out, ← ba_append, ← sig_at (by omega)]; rfl, hB⟩
    · have hI2 := hI.out
      rw [digL_ge (by omega) hlt, List.append_assoc] at hI2
      have hI3 := Lib.hid hI2
      clear hI hI2
      have hmod : m % b < b := Nat.mod_lt _ (by omega)
      have hdiv : m / b < m := Nat.div_lt_self (by omega) (by omega)
      go_wp2
      have f1 : (0 : Int) ≤ (m : Int) % (b : Int) := by omega
      have f2 : (m : Int) % (b : Int) < 16 := by have := Int.emod_lt_of_pos (m : Int) (show (0 : Int) < b by omega); omega
      have f3 : IntKind.u64.wrap ((m : Int) / (b : Int)) = ((m / b : Nat) : Int) := u64_div hm
      go_quiet (fail)
      go_wp2
      go_roundw
      case rel => exact ⟨m / b, sg (m % b) :: o, Nat.le_trans (Nat.le_of_lt hdiv) hm, rfl, by rw [sig_at (by omega), ba_append]; rfl, hI3.out, Below_drewN hB _⟩
      case measure => simp [intOf]; exact hdiv
set_option maxHeartbeats 1000000 in
theorem refText_calls (n : Int) (w : World) (h0 : -9223372036854775808 ≤ n) (h1 : n ≤ 9223372036854775807) :
    Calls Tryz.prog 129 #[.int .i64 n] w fun e w' => e = .returned (.string (ba (textL n))) ∧ Below w.heap.size w w' := by
  have hl := digL_len (b := 10) (by omega) h0 h1
  by_cases hn : n < 0
  · have e : ba (textL n) = ⟨#[45]⟩ ++ ba (digL 10 n.natAbs) := by unfold textL; rw [if_pos hn]; rfl
    rw [e]
    clear e
    obtain ⟨t, ht⟩ : ∃ t, ba (digL 10 n.natAbs) = t := ⟨_, rfl⟩
    have hts : t.size ≤ 20 := by rw [← ht, ba_size]; exact hl
    have H := Lib.hid ht
    rw [ht]
    clear ht hl
    go_enter Tryz.func129, Tryz.ntmps129
    go_wp2_with (fail)
    rw [show -(n + 1) + 1 = ((n.natAbs : Nat) : Int) from by omega]
    refine (refDigits_calls n.natAbs 10 _ (.inl rfl) (by omega)).mono ?_
    rw [H.out]
    rintro e w' ⟨rfl, hb⟩
    go_wp2
    go_ret
    exact ⟨rfl, hb⟩
  · have e : ba (textL n) = ba (digL 10 n.natAbs) := by unfold textL; rw [if_neg hn]
    rw [e]
    clear e hl
    obtain ⟨t, ht⟩ : ∃ t, ba (digL 10 n.natAbs) = t := ⟨_, rfl⟩
    have H := Lib.hid ht
    rw [ht]
    clear ht
    go_enter Tryz.func129, Tryz.ntmps129
    go_wp2_with (fail)
    rw [show n = ((n.natAbs : Nat) : Int) from by omega]
    refine (refDigits_calls n.natAbs 10 _ (.inl rfl) (by omega)).mono ?_
    rw [H.out]
    rintro e w' ⟨rfl, hb⟩
    go_wp2
    go_ret
    exact ⟨rfl, hb⟩
end Go.Proofs.YtiiploicaimnpaaGreatDoor.Hand
namespace Go.Proofs.YtiiploicaimnpaaGreatDoor.Hand
open Go.RowKit Go.Proofs.YtiiploicaimnpaaGreatDoorW.PrintWords Go.Proofs.YtiiploicaimnpaaGreatDoorW.PrintLast Go.Proofs.YtiiploicaimnpaaGreatDoorW.PrintMore
set_option linter.unusedVariables false
set_option linter.unusedSimpArgs false
theorem zero_ba (j : Nat) (l : List UInt8) : (⟨#[48]⟩ : ByteArray) ++ ba (List.replicate j 48 ++ l) = ba (List.replicate (j + 1) 48 ++ l) := by
  show ba [48] ++ _ = _
  rw [ba_append]
  rfl
set_option maxHeartbeats 1000000 in
theorem refPad3_calls (n : Int) (w : World) (h0 : -9223372036854775808 ≤ n) (h1 : n ≤ 9223372036854775807) :
    Calls Tryz.prog 98 #[.int .i64 n, .int .i64 3] w fun e w' => e = .returned (.string (ba (padL n 3))) ∧ Below w.heap.size w w' := by
  have hl := textL_len h0 h1
  have cT := fun W => refText_calls n W h0 h1
  unfold padL
  generalize textL n = l at hl cT ⊢
  by_cases hn : n < 0
  · rw [if_pos hn]
    clear h0 h1
    go_enter Tryz.func98, Tryz.ntmps98
    go_wp2_with (go_at_call 129; refine (cT _).mono ?_; rintro e w1 ⟨rfl, hb⟩)
    go_loop [5] (fun v => v = .string (ba l)) (fun _ => 0)
    case atStart => rfl
    case round =>
      subst hrel
      go_wp2
      go_ret
      exact ⟨rfl, hb⟩
  · rw [if_neg hn]
    have hn2 : 0 ≤ n := by omega
    clear h0 h1
    obtain ⟨R, hR⟩ : ∃ R, ba (List.replicate (3 - l.length) 48 ++ l) = R := ⟨_, rfl⟩
    rw [hR]
    have hRH := Lib.hid hR
    have hl2 := Lib.hid hl
    clear hR hl
    have e0 : ba l = ba (List.replicate 0 48 ++ l) := rfl
    rw [e0] at cT
    clear e0
    go_enter Tryz.func98, Tryz.ntmps98
    go_wp2_with (go_at_call 129; refine (cT _).mono ?_; rintro e w1 ⟨rfl, hb⟩)
    go_loop [5] (fun v => ∃ j : Nat, v = .string (ba (List.replicate j 48 ++ l)) ∧ (j = 0 ∨ j + l.length ≤ 3)) (fun v => match v with | .string x => 3 - x.size | _ => 0)
    case atStart => exact ⟨0, rfl, .inl rfl⟩
    case round =>
      obtain ⟨j, rfl, hj⟩ := hrel
      have hz : (ba (List.replicate j (48 : UInt8) ++ l)).size = j + l.length := by rw [ba_size, List.length_append, List.length_replicate]
      have hzb := hl2.out
      have hz3 : (ba (List.replicate j (48 : UInt8) ++ l)).size ≤ 24 := by omega
      by_cases hlt : j + l.length < 3
      · have hc : (ba (List.replicate j (48 : UInt8) ++ l)).size < 3 := by omega
        have hn' := zero_ba j l
        have hz2 : (ba (List.replicate (j + 1) (48 : UInt8) ++ l)).size = j + 1 + l.length := by rw [ba_size, List.length_append, List.length_replicate]
        have hjH : Hid (j + 1 + l.length ≤ 3) := Lib.hid (by omega)
        have hzH := Lib.hid hz
        have hzH2 := Lib.hid hz2
        clear hz hz2 hj hlt hzb
        generalize ba (List.replicate j (48 : UInt8) ++ l) = s at *
        have hnH := Lib.hid hn'
        clear hn'
        go_wp2
        all_goals
          go_round
          case rel => exact ⟨j + 1, by rw [hnH.out], .inr hjH.out⟩
          case measure => (rw [hnH.out]; simp; have := hzH.out; have := hzH2.out; omega)
      · have hc : ¬ (ba (List.replicate j (48 : UInt8) ++ l)).size < 3 := by omega
        have hE : ba (List.replicate j (48 : UInt8) ++ l) = R := by
          rw [← hRH.out]
          have : j = 3 - l.length := by omega
          rw [this]
        clear hz hzb
        generalize ba (List.replicate j (48 : UInt8) ++ l) = s at *
        subst hE
        go_wp2
        all_goals
          go_ret
          exact ⟨rfl, hb⟩
theorem RVersion_calls (n : Int) (w : World) : Calls Tryz.prog 97 #[.int .i64 n] w fun e w' => e = .returned (.string (versS n)) ∧ w' = w := by
  unfold versS
  by_cases h : n ≤ 0
  · rw [if_pos h]
    go_enter Tryz.func97, Tryz.ntmps97
    go_wp2
    go_ret
    exact ⟨rfl, rfl⟩
  · rw [if_neg h]
    go_enter Tryz.func97, Tryz.ntmps97
    go_wp2
    go_ret
    exact ⟨rfl, rfl⟩
set_option maxHeartbeats 1000000 in
set_option maxRecDepth 100000 in
theorem RLine_ask (m t : ByteArray) (n st : Int) (r : ByteArray) (fv : Value) (w : World) (hm : m.size ≤ 140737488355328) (ht : t.size ≤ 140737488355328) (h : ¬ m.toList = []) (hf : fv.cells = #[fv]) :
    Calls Tryz.prog 52 #[.agg #[.string m, .string t, .int .i64 n, .int .i64 st, .string r, fv]] w fun e w' => e = .returned (.string (m ++ ⟨#[32]⟩ ++ t ++ ⟨#[32]⟩ ++ versS n)) ∧ Below w.heap.size w w' := by
  have cV := fun W => RVersion_calls n W
  have hv := versS_size n
  generalize versS n = v at cV hv ⊢
  have he : m.toList.isEmpty = false := by cases h' : m.toList <;> simp_all
  have hv2 : v.size ≤ 8 := by omega
  clear hv h
  go_enter Tryz.func52, Tryz.ntmps52
  go_wp2
  go_quiet ((go_at_call 97; exact Calls.quiet_of_same (cV _)))
  go_wp2
  go_ret
  exact ⟨rfl, pw_below_drewN ((Below.refl _ _).alloc (Nat.le_refl _) _) _⟩
set_option maxHeartbeats 1000000 in
set_option maxRecDepth 100000 in
theorem RLine_answer (m t : ByteArray) (n st : Int) (r : ByteArray) (fv : Value) (w : World) (hr : r.size ≤ 140737488355328) (h : m.toList = []) (hf : fv.cells = #[fv]) (h0 : -9223372036854775808 ≤ st) (h1 : st ≤ 9223372036854775807) :
    Calls Tryz.prog 52 #[.agg #[.string m, .string t, .int .i64 n, .int .i64 st, .string r, fv]] w fun e w' => e = .returned (.string (versS n ++ ⟨#[32]⟩ ++ ba (padL st 3) ++ ⟨#[32]⟩ ++ r)) ∧ Below w.heap.size w w' := by
  have cV := fun W => RVersion_calls n W
  have hv := versS_size n
  generalize versS n = v at cV hv ⊢
  have cP := fun W => refPad3_calls st W h0 h1
  have hp : (ba (padL st 3)).size ≤ 24 := by
    have := textL_len h0 h1
    rw [ba_size]
    unfold padL
    split
    · omega
    · simp; omega
  generalize ba (padL st 3) = pd at cP hp ⊢
  have he : m.toList.isEmpty = true := by rw [h]; rfl
  have hv2 : v.size ≤ 8 := by omega
  clear hv h h0 h1
  go_enter Tryz.func52, Tryz.ntmps52
  go_wp2
  obtain ⟨w1, hw1⟩ : ∃ W, w.alloc (.cells #[.string m, .string t, .int .i64 n, .int .i64 st, .string r, fv] 29) = W := ⟨_, rfl⟩
  have hb : w1.heap[w.heap.size]? = some (.cells #[.string m, .string t, .int .i64 n, .int .i64 st, .string r, fv] 29 (0, 0)) := hw1 ▸ blk_new w _
  have hB : Below w.heap.size w w1 := hw1 ▸ (Below.refl _ _).alloc (Nat.le_refl _) _
  rw [hw1]
  clear hw1
  have c2 : w1.cell? ⟨w.heap.size, 2, none⟩ = some (.int .i64 n) := blk_cell hb 2
  have c3 : w1.cell? ⟨w.heap.size, 3, none⟩ = some (.int .i64 st) := blk_cell hb 3
  have c4 : w1.cell? ⟨w.heap.size, 4, none⟩ = some (.string r) := blk_cell hb 4
  have q1 : (9223372036854775807 < v.size + 1) = False := eq_false (by omega)
  have q2 : (9223372036854775807 < v.size + 1 + pd.size) = False := eq_false (by omega)
  have q3 : (9223372036854775807 < v.size + 1 + pd.size + 1) = False := eq_false (by omega)
  have q4 : (9223372036854775807 < v.size + 1 + pd.size + 1 + r.size) = False := eq_false (by omega)
  go_region_held3 (fun w' => w'.cell? ⟨w.heap.size, 2, none⟩ = some (.int .i64 n) ∧ w'.cell? ⟨w.heap.size, 3, none⟩ = some (.int .i64 st) ∧ w'.cell? ⟨w.heap.size, 4, none⟩ = some (.string r) ∧ Below w.heap.size w w')
    (first
      | exact ⟨c2, c3, c4, hB.drew⟩
      | (go_split_ands; exact ⟨pw_cell_below hb3 (by assumption), pw_cell_below hb3 (by assumption), pw_cell_below hb3 (by assumption), Below.trans (by assumption) (hb3.mono (Below.size (by assumption)))⟩)
      | go_keep)
    (first | (go_at_call 97; refine (cV _).mono ?_; rintro e w2 ⟨rfl, rfl⟩) | (go_at_call 98; refine (cP _).mono ?_; rintro e w3 ⟨rfl, hb3⟩))
  all_goals
    go_wp2
    go_ret
    exact ⟨rfl, hB.drew.trans (hb3.mono hB.size)⟩
def abutmentref15_Line.f (a0_0 : ByteArray) (a0_1 : ByteArray) (a0_2 : Int) (a0_3 : Int) (a0_4 : ByteArray) (l0_5 : List S85) : Option ByteArray :=
  if a0_0.size ≤ 140737488355328 ∧ a0_1.size ≤ 140737488355328 ∧ a0_4.size ≤ 140737488355328 ∧ -9223372036854775808 ≤ a0_3 ∧ a0_3 ≤ 9223372036854775807 then some (lineS a0_0 a0_1 a0_2 a0_3 a0_4) else none
theorem abutmentref15_Line.calls (a0_0 : ByteArray) (a0_1 : ByteArray) (a0_2 : Int) (a0_3 : Int) (a0_4 : ByteArray) (A0_5 : Option Addr) (c0_5 : Nat) (l0_5 : List S85) (r : ByteArray) (w : World) (hr0_5 : Kd.C k85 w A0_5 l0_5.length l0_5) (hc0_5 : l0_5.length ≤ c0_5) (h : abutmentref15_Line.f a0_0 a0_1 a0_2 a0_3 a0_4 l0_5 = some r) :
    Calls Tryz.prog 52 #[.agg #[.string a0_0, .string a0_1, .int .i64 a0_2, .int .i64 a0_3, .string a0_4, .slice A0_5 l0_5.length c0_5]] w fun e w' => e = .returned (.string r) ∧ Below w.heap.size w w' := by
  unfold abutmentref15_Line.f at h
  by_cases hc : a0_0.size ≤ 140737488355328 ∧ a0_1.size ≤ 140737488355328 ∧ a0_4.size ≤ 140737488355328 ∧ -9223372036854775808 ≤ a0_3 ∧ a0_3 ≤ 9223372036854775807
  · rw [if_pos hc] at h
    obtain rfl := Option.some.inj h
    obtain ⟨h0, h1, h2, h3, h4⟩ := hc
    unfold lineS
    by_cases hm : a0_0.toList = []
    · rw [if_pos hm]
      exact RLine_answer _ _ _ _ _ _ w h2 hm rfl h3 h4
    · rw [if_neg hm]
      exact RLine_ask _ _ _ _ _ _ w h0 h1 hm rfl
  · rw [if_neg hc] at h
    cases h
end Go.Proofs.YtiiploicaimnpaaGreatDoor.Hand
