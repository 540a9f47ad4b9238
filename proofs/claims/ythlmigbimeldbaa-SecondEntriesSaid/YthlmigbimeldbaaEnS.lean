/- strings.Contains of one letter, off the shelf: contracts of the library's, laid at this program. -/
import Derived.Shelf.Strings.Builder1
import Derived.Shelf.Strings.BuilderF
import Derived.Shelf.Strings.BuilderK
import Derived.Shelf.Strings.Search1
import Derived.Shelf.Strings.Search2
import Derived.Shelf.Strings.Search3
import Derived.Shelf.LaysM
import Derived.Shelf.Strings.Shaped
import Derived.Shelf.Strings.BuilderCap
import Derived.Test.YthlmigbimeldbaaProg
namespace Go.Proofs
open Go.Shelf
def YthlmigbimeldbaaSh.lays144_ren : Go.Shelf.Ren := ⟨fun | 144 => 100 | 143 => 117 | 219 => 120 | 217 => 121 | 225 => 122 | 224 => 123 | 267 => 124 | 266 => 125 | 314 => 126 | n => n, fun | 9 => 9 | 4 => 4 | 3 => 3 | 5 => 5 | 46 => 105 | 146 => 163 | 51 => 71 | n => n, fun | 1 => 0 | n => n⟩
theorem YthlmigbimeldbaaSh.lays144 : Go.Proofs.Lays.n144 Try.prog YthlmigbimeldbaaSh.lays144_ren := {
  mixed := by kernel_rfl
  f143 := Try.func117.trans (congrArg some (by kernel_rfl))
  f144 := Try.func100.trans (congrArg some (by kernel_rfl))
  f217 := Try.func121.trans (congrArg some (by kernel_rfl))
  f219 := Try.func120.trans (congrArg some (by kernel_rfl))
  f224 := Try.func123.trans (congrArg some (by kernel_rfl))
  f225 := Try.func122.trans (congrArg some (by kernel_rfl))
  f266 := Try.func125.trans (congrArg some (by kernel_rfl))
  f267 := Try.func124.trans (congrArg some (by kernel_rfl))
  f314 := Try.func126.trans (congrArg some (by kernel_rfl))
  t3 := Try.underlying3
  a3 := Try.isAgg3
  z3 := Try.sizeOf3
  v3 := Try.zeroValue3
  t4 := Try.underlying4
  a4 := Try.isAgg4
  z4 := Try.sizeOf4
  v4 := Try.zeroValue4
  t5 := Try.underlying5
  a5 := Try.isAgg5
  z5 := Try.sizeOf5
  v5 := Try.zeroValue5
  t9 := Try.underlying9
  a9 := Try.isAgg9
  z9 := Try.sizeOf9
  v9 := Try.zeroValue9
  t46 := Try.underlying105
  a46 := Try.isAgg105
  z46 := Try.sizeOf105
  v46 := Try.zeroValue105
  t51 := Try.underlying71
  a51 := Try.isAgg71
  z51 := Try.sizeOf71
  v51 := Try.zeroValue71
  t146 := Try.underlying163
  a146 := Try.isAgg163
  z146 := Try.sizeOf163
  v146 := Try.zeroValue163
  g1 := by kernel_rfl }
open Go.RowKit Go.Lib in
/-- strings.Contains: "Contains reports whether substr is within s.": AT A substr OF ONE BYTE c: IT RETURNS 'decide (0 ≤ Lib.indexByte s c)'; the world is as it was. (LAID: no walk: one application.) -/
theorem YthlmigbimeldbaaSh.strings_Contains_one (s : ByteArray) (c : UInt8) (w : World) :
    Calls Try.prog 100 #[.string s, .string ⟨#[c]⟩] w fun e w' => e = .returned (.bool (decide (0 ≤ Lib.indexByte s.data.toList c))) ∧ w' = w := Any.strings_Contains_one YthlmigbimeldbaaSh.lays144 s c w
end Go.Proofs
