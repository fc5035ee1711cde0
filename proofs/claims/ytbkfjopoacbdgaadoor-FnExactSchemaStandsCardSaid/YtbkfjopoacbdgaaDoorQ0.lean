/- Contracts of Go's library, laid from the shelf over this translation. TrimLeft and Trim at the program's cutsets. Plain laws on texts, kinds, schemas and values; no program in sight. Plain laws on texts, kinds, schemas and values; no program in sight. Plain laws on texts, kinds, schemas and values; no program in sight. A text of small letters alone. The reference's kinds: whether a text is a kind. The program's isName. -/
import Derived.Shelf.Strings.SlTrimAscii
import Derived.Shelf.Strings.Prefix
import Derived.Shelf.Strings.Cut
import Derived.Shelf.Strings.Search3
import Derived.Shelf.Strings.Split
import Derived.Shelf.Strings.SplitShaped
import Derived.Shelf.Strings.Shaped
import Derived.KernelRfl
import Derived.Below
import Derived.Test.YtbkfjopoacbdgaaDoorChecked
import Derived.Lib.SlTrimSet
import Derived.WalkKit
import Derived.Lib.UnsafeStr
import Derived.Lib.Hide
import Derived.Test.YtbkfjopoacbdgaaDoorRows
import Derived.ProofKit
import Derived.OpenShut
import Derived.BigQuiet
import Derived.WalkSpells
namespace Go.Proofs
open Go.Shelf
def Tryd.lays161_ren : Go.Shelf.Ren := ⟨fun | 161 => 81 | 231 => 94 | 227 => 95 | 233 => 96 | 235 => 97 | 228 => 112 | 197 => 113 | 151 => 114 | 260 => 120 | 152 => 121 | 137 => 123 | 119 => 124 | 224 => 104 | 225 => 103 | 217 => 102 | 266 => 115 | n => n, fun | 9 => 9 | 4 => 4 | 3 => 3 | 5 => 5 | 117 => 121 | 116 => 120 | 0 => 0 | 124 => 124 | 105 => 129 | 21 => 21 | 119 => 137 | 46 => 126 | 139 => 140 | 138 => 139 | n => n, fun | 3 => 1 | 4 => 2 | n => n⟩
theorem Tryd.lays161 : Go.Proofs.Lays.n161 Tryd.prog Tryd.lays161_ren := {
  mixed := by kernel_rfl
  f119 := Tryd.func124.trans (congrArg some (by kernel_rfl))
  f137 := Tryd.func123.trans (congrArg some (by kernel_rfl))
  f151 := Tryd.func114.trans (congrArg some (by kernel_rfl))
  f152 := Tryd.func121.trans (congrArg some (by kernel_rfl))
  f161 := Tryd.func81.trans (congrArg some (by kernel_rfl))
  f197 := Tryd.func113.trans (congrArg some (by kernel_rfl))
  f217 := Tryd.func102.trans (congrArg some (by kernel_rfl))
  f224 := Tryd.func104.trans (congrArg some (by kernel_rfl))
  f225 := Tryd.func103.trans (congrArg some (by kernel_rfl))
  f227 := Tryd.func95.trans (congrArg some (by kernel_rfl))
  f228 := Tryd.func112.trans (congrArg some (by kernel_rfl))
  f231 := Tryd.func94.trans (congrArg some (by kernel_rfl))
  f233 := Tryd.func96.trans (congrArg some (by kernel_rfl))
  f235 := Tryd.func97.trans (congrArg some (by kernel_rfl))
  f260 := Tryd.func120.trans (congrArg some (by kernel_rfl))
  f266 := Tryd.func115.trans (congrArg some (by kernel_rfl))
  t0 := Tryd.underlying0
  a0 := Tryd.isAgg0
  z0 := Tryd.sizeOf0
  v0 := Tryd.zeroValue0
  t3 := Tryd.underlying3
  a3 := Tryd.isAgg3
  z3 := Tryd.sizeOf3
  v3 := Tryd.zeroValue3
  t4 := Tryd.underlying4
  a4 := Tryd.isAgg4
  z4 := Tryd.sizeOf4
  v4 := Tryd.zeroValue4
  t5 := Tryd.underlying5
  a5 := Tryd.isAgg5
  z5 := Tryd.sizeOf5
  v5 := Tryd.zeroValue5
  t9 := Tryd.underlying9
  a9 := Tryd.isAgg9
  z9 := Tryd.sizeOf9
  v9 := Tryd.zeroValue9
  t21 := Tryd.underlying21
  a21 := Tryd.isAgg21
  z21 := Tryd.sizeOf21
  v21 := Tryd.zeroValue21
  t46 := Tryd.underlying126
  a46 := Tryd.isAgg126
  z46 := Tryd.sizeOf126
  v46 := Tryd.zeroValue126
  t105 := Tryd.underlying129
  a105 := Tryd.isAgg129
  z105 := Tryd.sizeOf129
  v105 := Tryd.zeroValue129
  t116 := Tryd.underlying120
  a116 := Tryd.isAgg120
  z116 := Tryd.sizeOf120
  t117 := Tryd.underlying121
  a117 := Tryd.isAgg121
  z117 := Tryd.sizeOf121
  v117 := Tryd.zeroValue121
  t119 := Tryd.underlying137
  a119 := Tryd.isAgg137
  z119 := Tryd.sizeOf137
  t124 := Tryd.underlying124
  a124 := Tryd.isAgg124
  z124 := Tryd.sizeOf124
  v124 := Tryd.zeroValue124
  t138 := Tryd.underlying139
  a138 := Tryd.isAgg139
  z138 := Tryd.sizeOf139
  v138 := Tryd.zeroValue139
  t139 := Tryd.underlying140
  a139 := Tryd.isAgg140
  z139 := Tryd.sizeOf140
  v139 := Tryd.zeroValue140
  g3 := by kernel_rfl
  g4 := by kernel_rfl }
def Tryd.lays160_ren : Go.Shelf.Ren := ⟨fun | 160 => 90 | 232 => 106 | 231 => 94 | 227 => 95 | 234 => 107 | 233 => 96 | 236 => 108 | 235 => 97 | 228 => 112 | 271 => 117 | 151 => 114 | 197 => 113 | 120 => 122 | 152 => 121 | 260 => 120 | 137 => 123 | 119 => 124 | 224 => 104 | 225 => 103 | 217 => 102 | 266 => 115 | n => n, fun | 9 => 9 | 4 => 4 | 3 => 3 | 5 => 5 | 117 => 121 | 116 => 120 | 0 => 0 | 124 => 124 | 21 => 21 | 105 => 129 | 46 => 126 | 119 => 137 | 139 => 140 | 138 => 139 | n => n, fun | 3 => 1 | 4 => 2 | n => n⟩
theorem Tryd.lays160 : Go.Proofs.Lays.n160 Tryd.prog Tryd.lays160_ren := {
  mixed := by kernel_rfl
  f119 := Tryd.func124.trans (congrArg some (by kernel_rfl))
  f120 := Tryd.func122.trans (congrArg some (by kernel_rfl))
  f137 := Tryd.func123.trans (congrArg some (by kernel_rfl))
  f151 := Tryd.func114.trans (congrArg some (by kernel_rfl))
  f152 := Tryd.func121.trans (congrArg some (by kernel_rfl))
  f160 := Tryd.func90.trans (congrArg some (by kernel_rfl))
  f197 := Tryd.func113.trans (congrArg some (by kernel_rfl))
  f217 := Tryd.func102.trans (congrArg some (by kernel_rfl))
  f224 := Tryd.func104.trans (congrArg some (by kernel_rfl))
  f225 := Tryd.func103.trans (congrArg some (by kernel_rfl))
  f227 := Tryd.func95.trans (congrArg some (by kernel_rfl))
  f228 := Tryd.func112.trans (congrArg some (by kernel_rfl))
  f231 := Tryd.func94.trans (congrArg some (by kernel_rfl))
  f232 := Tryd.func106.trans (congrArg some (by kernel_rfl))
  f233 := Tryd.func96.trans (congrArg some (by kernel_rfl))
  f234 := Tryd.func107.trans (congrArg some (by kernel_rfl))
  f235 := Tryd.func97.trans (congrArg some (by kernel_rfl))
  f236 := Tryd.func108.trans (congrArg some (by kernel_rfl))
  f260 := Tryd.func120.trans (congrArg some (by kernel_rfl))
  f266 := Tryd.func115.trans (congrArg some (by kernel_rfl))
  f271 := Tryd.func117.trans (congrArg some (by kernel_rfl))
  t0 := Tryd.underlying0
  a0 := Tryd.isAgg0
  z0 := Tryd.sizeOf0
  v0 := Tryd.zeroValue0
  t3 := Tryd.underlying3
  a3 := Tryd.isAgg3
  z3 := Tryd.sizeOf3
  v3 := Tryd.zeroValue3
  t4 := Tryd.underlying4
  a4 := Tryd.isAgg4
  z4 := Tryd.sizeOf4
  v4 := Tryd.zeroValue4
  t5 := Tryd.underlying5
  a5 := Tryd.isAgg5
  z5 := Tryd.sizeOf5
  v5 := Tryd.zeroValue5
  t9 := Tryd.underlying9
  a9 := Tryd.isAgg9
  z9 := Tryd.sizeOf9
  v9 := Tryd.zeroValue9
  t21 := Tryd.underlying21
  a21 := Tryd.isAgg21
  z21 := Tryd.sizeOf21
  v21 := Tryd.zeroValue21
  t46 := Tryd.underlying126
  a46 := Tryd.isAgg126
  z46 := Tryd.sizeOf126
  v46 := Tryd.zeroValue126
  t105 := Tryd.underlying129
  a105 := Tryd.isAgg129
  z105 := Tryd.sizeOf129
  v105 := Tryd.zeroValue129
  t116 := Tryd.underlying120
  a116 := Tryd.isAgg120
  z116 := Tryd.sizeOf120
  t117 := Tryd.underlying121
  a117 := Tryd.isAgg121
  z117 := Tryd.sizeOf121
  v117 := Tryd.zeroValue121
  t119 := Tryd.underlying137
  a119 := Tryd.isAgg137
  z119 := Tryd.sizeOf137
  t124 := Tryd.underlying124
  a124 := Tryd.isAgg124
  z124 := Tryd.sizeOf124
  v124 := Tryd.zeroValue124
  t138 := Tryd.underlying139
  a138 := Tryd.isAgg139
  z138 := Tryd.sizeOf139
  v138 := Tryd.zeroValue139
  t139 := Tryd.underlying140
  a139 := Tryd.isAgg140
  z139 := Tryd.sizeOf140
  v139 := Tryd.zeroValue140
  g3 := by kernel_rfl
  g4 := by kernel_rfl }
def Tryd.lays144_ren : Go.Shelf.Ren := ⟨fun | 144 => 77 | 143 => 89 | 219 => 88 | 217 => 102 | 225 => 103 | 224 => 104 | 267 => 105 | 266 => 115 | 314 => 116 | n => n, fun | 9 => 9 | 4 => 4 | 3 => 3 | 5 => 5 | 46 => 126 | 146 => 133 | 51 => 132 | n => n, fun | 1 => 0 | n => n⟩
theorem Tryd.lays144 : Go.Proofs.Lays.n144 Tryd.prog Tryd.lays144_ren := {
  mixed := by kernel_rfl
  f143 := Tryd.func89.trans (congrArg some (by kernel_rfl))
  f144 := Tryd.func77.trans (congrArg some (by kernel_rfl))
  f217 := Tryd.func102.trans (congrArg some (by kernel_rfl))
  f219 := Tryd.func88.trans (congrArg some (by kernel_rfl))
  f224 := Tryd.func104.trans (congrArg some (by kernel_rfl))
  f225 := Tryd.func103.trans (congrArg some (by kernel_rfl))
  f266 := Tryd.func115.trans (congrArg some (by kernel_rfl))
  f267 := Tryd.func105.trans (congrArg some (by kernel_rfl))
  f314 := Tryd.func116.trans (congrArg some (by kernel_rfl))
  t3 := Tryd.underlying3
  a3 := Tryd.isAgg3
  z3 := Tryd.sizeOf3
  v3 := Tryd.zeroValue3
  t4 := Tryd.underlying4
  a4 := Tryd.isAgg4
  z4 := Tryd.sizeOf4
  v4 := Tryd.zeroValue4
  t5 := Tryd.underlying5
  a5 := Tryd.isAgg5
  z5 := Tryd.sizeOf5
  v5 := Tryd.zeroValue5
  t9 := Tryd.underlying9
  a9 := Tryd.isAgg9
  z9 := Tryd.sizeOf9
  v9 := Tryd.zeroValue9
  t46 := Tryd.underlying126
  a46 := Tryd.isAgg126
  z46 := Tryd.sizeOf126
  v46 := Tryd.zeroValue126
  t51 := Tryd.underlying132
  a51 := Tryd.isAgg132
  z51 := Tryd.sizeOf132
  v51 := Tryd.zeroValue132
  t146 := Tryd.underlying133
  a146 := Tryd.isAgg133
  z146 := Tryd.sizeOf133
  v146 := Tryd.zeroValue133
  g1 := by kernel_rfl }
open Go.RowKit Go.Lib in
theorem Tryd.strings_Contains_one (s : ByteArray) (c : UInt8) (w : World) :
    Calls Tryd.prog 77 #[.string s, .string ⟨#[c]⟩] w fun e w' => e = .returned (.bool (decide (0 ≤ Lib.indexByte s.data.toList c))) ∧ w' = w := Any.strings_Contains_one Tryd.lays144 s c w
open Go.RowKit Go.Lib in
theorem Tryd.strings_Contains (s sub : ByteArray) (m : Int) (w : World) (hs : s.size < 4294967281) (hm : w.cell? ⟨0, 0, none⟩ = some (.int .i64 m)) :
    Calls Tryd.prog 77 #[.string s, .string sub] w fun e w' => e = .returned (.bool (Lib.contains s.data.toList sub.data.toList)) ∧ w' = w := Any.strings_Contains Tryd.lays144 s sub m w hs hm
def Tryd.lays145_ren : Go.Shelf.Ren := ⟨fun | 145 => 57 | 220 => 76 | 219 => 88 | 217 => 102 | 225 => 103 | 224 => 104 | 267 => 105 | 266 => 115 | 314 => 116 | n => n, fun | 9 => 9 | 4 => 4 | 59 => 92 | 3 => 3 | 5 => 5 | 46 => 126 | 146 => 133 | 51 => 132 | n => n, fun | 1 => 0 | n => n⟩
theorem Tryd.lays145 : Go.Proofs.Lays.n145 Tryd.prog Tryd.lays145_ren := {
  mixed := by kernel_rfl
  f145 := Tryd.func57.trans (congrArg some (by kernel_rfl))
  f217 := Tryd.func102.trans (congrArg some (by kernel_rfl))
  f219 := Tryd.func88.trans (congrArg some (by kernel_rfl))
  f220 := Tryd.func76.trans (congrArg some (by kernel_rfl))
  f224 := Tryd.func104.trans (congrArg some (by kernel_rfl))
  f225 := Tryd.func103.trans (congrArg some (by kernel_rfl))
  f266 := Tryd.func115.trans (congrArg some (by kernel_rfl))
  f267 := Tryd.func105.trans (congrArg some (by kernel_rfl))
  f314 := Tryd.func116.trans (congrArg some (by kernel_rfl))
  t3 := Tryd.underlying3
  a3 := Tryd.isAgg3
  z3 := Tryd.sizeOf3
  v3 := Tryd.zeroValue3
  t4 := Tryd.underlying4
  a4 := Tryd.isAgg4
  z4 := Tryd.sizeOf4
  v4 := Tryd.zeroValue4
  t5 := Tryd.underlying5
  a5 := Tryd.isAgg5
  z5 := Tryd.sizeOf5
  v5 := Tryd.zeroValue5
  t9 := Tryd.underlying9
  a9 := Tryd.isAgg9
  z9 := Tryd.sizeOf9
  v9 := Tryd.zeroValue9
  t46 := Tryd.underlying126
  a46 := Tryd.isAgg126
  z46 := Tryd.sizeOf126
  v46 := Tryd.zeroValue126
  t51 := Tryd.underlying132
  a51 := Tryd.isAgg132
  z51 := Tryd.sizeOf132
  v51 := Tryd.zeroValue132
  t59 := Tryd.underlying92
  a59 := Tryd.isAgg92
  z59 := Tryd.sizeOf92
  v59 := Tryd.zeroValue92
  t146 := Tryd.underlying133
  a146 := Tryd.isAgg133
  z146 := Tryd.sizeOf133
  v146 := Tryd.zeroValue133
  g1 := by kernel_rfl }
open Go.RowKit Go.Lib in
theorem Tryd.strings_Cut (s sep : ByteArray) (m : Int) (w : World) (hs : s.size < 4294967281) (hm : w.cell? ⟨0, 0, none⟩ = some (.int .i64 m)) :
    Calls Tryd.prog 57 #[.string s, .string sep] w fun e w' => e = .returned (.tuple #[.string ⟨(Lib.cut s.data.toList sep.data.toList).1.toArray⟩, .string ⟨(Lib.cut s.data.toList sep.data.toList).2.1.toArray⟩, .bool (Lib.cut s.data.toList sep.data.toList).2.2]) ∧ ∃ n, w' = w.drewN n := Any.strings_Cut Tryd.lays145 s sep m w hs hm
def Tryd.laysM144_ren : Go.Shelf.Ren := ⟨fun | 144 => 77 | 143 => 89 | 219 => 88 | 217 => 102 | 225 => 103 | 224 => 104 | 267 => 105 | 266 => 115 | 314 => 116 | n => n, fun | 9 => 9 | 4 => 4 | 3 => 3 | 5 => 5 | 46 => 126 | 146 => 133 | 51 => 132 | n => n, fun | 1 => 0 | n => n⟩
theorem Tryd.laysM144 : Go.Proofs.LaysM.n144 Tryd.prog Tryd.laysM144_ren := {
  mixed := by kernel_rfl
  f143 := Tryd.func89.trans (congrArg some (by kernel_rfl))
  f144 := Tryd.func77.trans (congrArg some (by kernel_rfl))
  f217 := Tryd.func102.trans (congrArg some (by kernel_rfl))
  f219 := Tryd.func88.trans (congrArg some (by kernel_rfl))
  f224 := Tryd.func104.trans (congrArg some (by kernel_rfl))
  f225 := Tryd.func103.trans (congrArg some (by kernel_rfl))
  f266 := Tryd.func115.trans (congrArg some (by kernel_rfl))
  f267 := Tryd.func105.trans (congrArg some (by kernel_rfl))
  f314 := Tryd.func116.trans (congrArg some (by kernel_rfl))
  t3 := Tryd.underlying3
  a3 := Tryd.isAgg3
  z3 := Tryd.sizeOf3
  v3 := Tryd.zeroValue3
  t4 := Tryd.underlying4
  a4 := Tryd.isAgg4
  z4 := Tryd.sizeOf4
  v4 := Tryd.zeroValue4
  t5 := Tryd.underlying5
  a5 := Tryd.isAgg5
  z5 := Tryd.sizeOf5
  v5 := Tryd.zeroValue5
  t9 := Tryd.underlying9
  a9 := Tryd.isAgg9
  z9 := Tryd.sizeOf9
  v9 := Tryd.zeroValue9
  t46 := Tryd.underlying126
  a46 := Tryd.isAgg126
  z46 := Tryd.sizeOf126
  v46 := Tryd.zeroValue126
  t51 := Tryd.underlying132
  a51 := Tryd.isAgg132
  z51 := Tryd.sizeOf132
  v51 := Tryd.zeroValue132
  t146 := Tryd.underlying133
  a146 := Tryd.isAgg133
  z146 := Tryd.sizeOf133
  v146 := Tryd.zeroValue133
  g1 := by kernel_rfl
  i3 := by kernel_rfl
  i4 := by kernel_rfl
  i5 := by kernel_rfl
  i9 := by kernel_rfl
  i46 := by kernel_rfl
  i51 := by kernel_rfl
  i146 := by kernel_rfl
  m1 := by kernel_rfl
  s1_3 := fun w h => Go.Proofs.cell_of_shapedOpen_int (zero := #[.int .i64 0]) (t := 3) h (of_decide_eq_true (by kernel_rfl)) (by kernel_rfl) rfl (by kernel_rfl) (by kernel_rfl) Tryd.underlying3 }
def Tryd.laysM145_ren : Go.Shelf.Ren := ⟨fun | 145 => 57 | 220 => 76 | 219 => 88 | 217 => 102 | 225 => 103 | 224 => 104 | 267 => 105 | 266 => 115 | 314 => 116 | n => n, fun | 9 => 9 | 4 => 4 | 59 => 92 | 3 => 3 | 5 => 5 | 46 => 126 | 146 => 133 | 51 => 132 | n => n, fun | 1 => 0 | n => n⟩
theorem Tryd.laysM145 : Go.Proofs.LaysM.n145 Tryd.prog Tryd.laysM145_ren := {
  mixed := by kernel_rfl
  f145 := Tryd.func57.trans (congrArg some (by kernel_rfl))
  f217 := Tryd.func102.trans (congrArg some (by kernel_rfl))
  f219 := Tryd.func88.trans (congrArg some (by kernel_rfl))
  f220 := Tryd.func76.trans (congrArg some (by kernel_rfl))
  f224 := Tryd.func104.trans (congrArg some (by kernel_rfl))
  f225 := Tryd.func103.trans (congrArg some (by kernel_rfl))
  f266 := Tryd.func115.trans (congrArg some (by kernel_rfl))
  f267 := Tryd.func105.trans (congrArg some (by kernel_rfl))
  f314 := Tryd.func116.trans (congrArg some (by kernel_rfl))
  t3 := Tryd.underlying3
  a3 := Tryd.isAgg3
  z3 := Tryd.sizeOf3
  v3 := Tryd.zeroValue3
  t4 := Tryd.underlying4
  a4 := Tryd.isAgg4
  z4 := Tryd.sizeOf4
  v4 := Tryd.zeroValue4
  t5 := Tryd.underlying5
  a5 := Tryd.isAgg5
  z5 := Tryd.sizeOf5
  v5 := Tryd.zeroValue5
  t9 := Tryd.underlying9
  a9 := Tryd.isAgg9
  z9 := Tryd.sizeOf9
  v9 := Tryd.zeroValue9
  t46 := Tryd.underlying126
  a46 := Tryd.isAgg126
  z46 := Tryd.sizeOf126
  v46 := Tryd.zeroValue126
  t51 := Tryd.underlying132
  a51 := Tryd.isAgg132
  z51 := Tryd.sizeOf132
  v51 := Tryd.zeroValue132
  t59 := Tryd.underlying92
  a59 := Tryd.isAgg92
  z59 := Tryd.sizeOf92
  v59 := Tryd.zeroValue92
  t146 := Tryd.underlying133
  a146 := Tryd.isAgg133
  z146 := Tryd.sizeOf133
  v146 := Tryd.zeroValue133
  g1 := by kernel_rfl
  i3 := by kernel_rfl
  i4 := by kernel_rfl
  i5 := by kernel_rfl
  i9 := by kernel_rfl
  i46 := by kernel_rfl
  i51 := by kernel_rfl
  i59 := by kernel_rfl
  i146 := by kernel_rfl
  m1 := by kernel_rfl
  s1_3 := fun w h => Go.Proofs.cell_of_shapedOpen_int (zero := #[.int .i64 0]) (t := 3) h (of_decide_eq_true (by kernel_rfl)) (by kernel_rfl) rfl (by kernel_rfl) (by kernel_rfl) Tryd.underlying3 }
open Go.RowKit Go.Lib in
theorem Tryd.strings_Cut_shaped (s sep : ByteArray) (w : World) (h : w.ShapedOpen Tryd.prog) (hs : s.size < 4294967281) :
    Calls Tryd.prog 57 #[.string s, .string sep] w fun e w' => e = .returned (.tuple #[.string ⟨(Lib.cut s.data.toList sep.data.toList).1.toArray⟩, .string ⟨(Lib.cut s.data.toList sep.data.toList).2.1.toArray⟩, .bool (Lib.cut s.data.toList sep.data.toList).2.2]) ∧ ∃ n, w' = w.drewN n := Any.strings_Cut_shaped Tryd.laysM145 s sep w h hs
def Tryd.lays99_ren : Go.Shelf.Ren := ⟨fun | 99 => 82 | 206 => 98 | n => n, fun | 9 => 9 | 4 => 4 | 3 => 3 | n => n, fun | n => n⟩
theorem Tryd.lays99 : Go.Proofs.Lays.n99 Tryd.prog Tryd.lays99_ren := {
  mixed := by kernel_rfl
  f99 := Tryd.func82.trans (congrArg some (by kernel_rfl))
  f206 := Tryd.func98.trans (congrArg some (by kernel_rfl))
  t3 := Tryd.underlying3
  a3 := Tryd.isAgg3
  z3 := Tryd.sizeOf3
  v3 := Tryd.zeroValue3
  t4 := Tryd.underlying4
  a4 := Tryd.isAgg4
  z4 := Tryd.sizeOf4
  v4 := Tryd.zeroValue4
  t9 := Tryd.underlying9
  a9 := Tryd.isAgg9
  z9 := Tryd.sizeOf9
  v9 := Tryd.zeroValue9 }
open Go.RowKit Go.Lib in
theorem Tryd.strings_HasPrefix (s p : ByteArray) (w : World) :
    Calls Tryd.prog 82 #[.string s, .string p] w fun e w' => e = .returned (.bool (Lib.hasPrefix s.data.toList p.data.toList)) ∧ w' = w := Any.strings_HasPrefix Tryd.lays99 s p w
def Tryd.lays100_ren : Go.Shelf.Ren := ⟨fun | 100 => 83 | 207 => 99 | n => n, fun | 9 => 9 | 4 => 4 | 3 => 3 | n => n, fun | n => n⟩
theorem Tryd.lays100 : Go.Proofs.Lays.n100 Tryd.prog Tryd.lays100_ren := {
  mixed := by kernel_rfl
  f100 := Tryd.func83.trans (congrArg some (by kernel_rfl))
  f207 := Tryd.func99.trans (congrArg some (by kernel_rfl))
  t3 := Tryd.underlying3
  a3 := Tryd.isAgg3
  z3 := Tryd.sizeOf3
  v3 := Tryd.zeroValue3
  t4 := Tryd.underlying4
  a4 := Tryd.isAgg4
  z4 := Tryd.sizeOf4
  v4 := Tryd.zeroValue4
  t9 := Tryd.underlying9
  a9 := Tryd.isAgg9
  z9 := Tryd.sizeOf9
  v9 := Tryd.zeroValue9 }
open Go.RowKit Go.Lib in
theorem Tryd.strings_HasSuffix (s p : ByteArray) (w : World) (hs : s.size ≤ 9223372036854775807) :
    Calls Tryd.prog 83 #[.string s, .string p] w fun e w' => e = .returned (.bool (Lib.hasSuffix s.data.toList p.data.toList)) ∧ w' = w := Any.strings_HasSuffix Tryd.lays100 s p w hs
def Tryd.lays146_ren : Go.Shelf.Ren := ⟨fun | 146 => 79 | 221 => 91 | 268 => 109 | 138 => 110 | 143 => 89 | 195 => 118 | 197 => 113 | 218 => 119 | 219 => 88 | 260 => 120 | 217 => 102 | 225 => 103 | 224 => 104 | 267 => 105 | 266 => 115 | 314 => 116 | n => n, fun | 9 => 9 | 31 => 26 | 3 => 3 | 4 => 4 | 0 => 0 | 105 => 129 | 21 => 21 | 5 => 5 | 46 => 126 | 119 => 137 | 139 => 140 | 138 => 139 | 146 => 133 | 51 => 132 | n => n, fun | 1 => 0 | 3 => 1 | 4 => 2 | n => n⟩
theorem Tryd.lays146 : Go.Proofs.Lays.n146 Tryd.prog Tryd.lays146_ren := {
  mixed := by kernel_rfl
  f138 := Tryd.func110.trans (congrArg some (by kernel_rfl))
  f143 := Tryd.func89.trans (congrArg some (by kernel_rfl))
  f146 := Tryd.func79.trans (congrArg some (by kernel_rfl))
  f195 := Tryd.func118.trans (congrArg some (by kernel_rfl))
  f197 := Tryd.func113.trans (congrArg some (by kernel_rfl))
  f217 := Tryd.func102.trans (congrArg some (by kernel_rfl))
  f218 := Tryd.func119.trans (congrArg some (by kernel_rfl))
  f219 := Tryd.func88.trans (congrArg some (by kernel_rfl))
  f221 := Tryd.func91.trans (congrArg some (by kernel_rfl))
  f224 := Tryd.func104.trans (congrArg some (by kernel_rfl))
  f225 := Tryd.func103.trans (congrArg some (by kernel_rfl))
  f260 := Tryd.func120.trans (congrArg some (by kernel_rfl))
  f266 := Tryd.func115.trans (congrArg some (by kernel_rfl))
  f267 := Tryd.func105.trans (congrArg some (by kernel_rfl))
  f268 := Tryd.func109.trans (congrArg some (by kernel_rfl))
  f314 := Tryd.func116.trans (congrArg some (by kernel_rfl))
  t0 := Tryd.underlying0
  a0 := Tryd.isAgg0
  z0 := Tryd.sizeOf0
  v0 := Tryd.zeroValue0
  t3 := Tryd.underlying3
  a3 := Tryd.isAgg3
  z3 := Tryd.sizeOf3
  v3 := Tryd.zeroValue3
  t4 := Tryd.underlying4
  a4 := Tryd.isAgg4
  z4 := Tryd.sizeOf4
  v4 := Tryd.zeroValue4
  t5 := Tryd.underlying5
  a5 := Tryd.isAgg5
  z5 := Tryd.sizeOf5
  v5 := Tryd.zeroValue5
  t9 := Tryd.underlying9
  a9 := Tryd.isAgg9
  z9 := Tryd.sizeOf9
  v9 := Tryd.zeroValue9
  t21 := Tryd.underlying21
  a21 := Tryd.isAgg21
  z21 := Tryd.sizeOf21
  v21 := Tryd.zeroValue21
  t31 := Tryd.underlying26
  a31 := Tryd.isAgg26
  z31 := Tryd.sizeOf26
  v31 := Tryd.zeroValue26
  t46 := Tryd.underlying126
  a46 := Tryd.isAgg126
  z46 := Tryd.sizeOf126
  v46 := Tryd.zeroValue126
  t51 := Tryd.underlying132
  a51 := Tryd.isAgg132
  z51 := Tryd.sizeOf132
  v51 := Tryd.zeroValue132
  t105 := Tryd.underlying129
  a105 := Tryd.isAgg129
  z105 := Tryd.sizeOf129
  v105 := Tryd.zeroValue129
  t119 := Tryd.underlying137
  a119 := Tryd.isAgg137
  z119 := Tryd.sizeOf137
  t138 := Tryd.underlying139
  a138 := Tryd.isAgg139
  z138 := Tryd.sizeOf139
  v138 := Tryd.zeroValue139
  t139 := Tryd.underlying140
  a139 := Tryd.isAgg140
  z139 := Tryd.sizeOf140
  v139 := Tryd.zeroValue140
  t146 := Tryd.underlying133
  a146 := Tryd.isAgg133
  z146 := Tryd.sizeOf133
  v146 := Tryd.zeroValue133
  g1 := by kernel_rfl
  g3 := by kernel_rfl
  g4 := by kernel_rfl }
open Go.RowKit Go.Lib in
theorem Tryd.strings_Split (s sep : ByteArray) (m : Int) (w : World) (hs : s.size < 4294967281) (hm : w.cell? ⟨0, 0, none⟩ = some (.int .i64 m)) (h1 : 1 ≤ sep.size) :
    Calls Tryd.prog 79 #[.string s, .string sep] w fun e w' =>
      e = .returned (.slice (some ⟨w.heap.size, 0, none⟩) (Lib.countB s sep + 1) (Lib.countB s sep + 1)) ∧ w' = w.alloc (.cells ((Lib.splitB sep 0 (Lib.countB s sep) s).map Value.string).toArray 9) := Any.strings_Split Tryd.lays146 (by kernel_rfl) s sep m w hs hm h1
def Tryd.laysM146_ren : Go.Shelf.Ren := ⟨fun | 146 => 79 | 221 => 91 | 268 => 109 | 138 => 110 | 143 => 89 | 195 => 118 | 197 => 113 | 218 => 119 | 219 => 88 | 260 => 120 | 217 => 102 | 225 => 103 | 224 => 104 | 267 => 105 | 266 => 115 | 314 => 116 | n => n, fun | 9 => 9 | 31 => 26 | 3 => 3 | 4 => 4 | 0 => 0 | 105 => 129 | 21 => 21 | 5 => 5 | 46 => 126 | 119 => 137 | 139 => 140 | 138 => 139 | 146 => 133 | 51 => 132 | n => n, fun | 1 => 0 | 3 => 1 | 4 => 2 | n => n⟩
theorem Tryd.laysM146 : Go.Proofs.LaysM.n146 Tryd.prog Tryd.laysM146_ren := {
  mixed := by kernel_rfl
  f138 := Tryd.func110.trans (congrArg some (by kernel_rfl))
  f143 := Tryd.func89.trans (congrArg some (by kernel_rfl))
  f146 := Tryd.func79.trans (congrArg some (by kernel_rfl))
  f195 := Tryd.func118.trans (congrArg some (by kernel_rfl))
  f197 := Tryd.func113.trans (congrArg some (by kernel_rfl))
  f217 := Tryd.func102.trans (congrArg some (by kernel_rfl))
  f218 := Tryd.func119.trans (congrArg some (by kernel_rfl))
  f219 := Tryd.func88.trans (congrArg some (by kernel_rfl))
  f221 := Tryd.func91.trans (congrArg some (by kernel_rfl))
  f224 := Tryd.func104.trans (congrArg some (by kernel_rfl))
  f225 := Tryd.func103.trans (congrArg some (by kernel_rfl))
  f260 := Tryd.func120.trans (congrArg some (by kernel_rfl))
  f266 := Tryd.func115.trans (congrArg some (by kernel_rfl))
  f267 := Tryd.func105.trans (congrArg some (by kernel_rfl))
  f268 := Tryd.func109.trans (congrArg some (by kernel_rfl))
  f314 := Tryd.func116.trans (congrArg some (by kernel_rfl))
  t0 := Tryd.underlying0
  a0 := Tryd.isAgg0
  z0 := Tryd.sizeOf0
  v0 := Tryd.zeroValue0
  t3 := Tryd.underlying3
  a3 := Tryd.isAgg3
  z3 := Tryd.sizeOf3
  v3 := Tryd.zeroValue3
  t4 := Tryd.underlying4
  a4 := Tryd.isAgg4
  z4 := Tryd.sizeOf4
  v4 := Tryd.zeroValue4
  t5 := Tryd.underlying5
  a5 := Tryd.isAgg5
  z5 := Tryd.sizeOf5
  v5 := Tryd.zeroValue5
  t9 := Tryd.underlying9
  a9 := Tryd.isAgg9
  z9 := Tryd.sizeOf9
  v9 := Tryd.zeroValue9
  t21 := Tryd.underlying21
  a21 := Tryd.isAgg21
  z21 := Tryd.sizeOf21
  v21 := Tryd.zeroValue21
  t31 := Tryd.underlying26
  a31 := Tryd.isAgg26
  z31 := Tryd.sizeOf26
  v31 := Tryd.zeroValue26
  t46 := Tryd.underlying126
  a46 := Tryd.isAgg126
  z46 := Tryd.sizeOf126
  v46 := Tryd.zeroValue126
  t51 := Tryd.underlying132
  a51 := Tryd.isAgg132
  z51 := Tryd.sizeOf132
  v51 := Tryd.zeroValue132
  t105 := Tryd.underlying129
  a105 := Tryd.isAgg129
  z105 := Tryd.sizeOf129
  v105 := Tryd.zeroValue129
  t119 := Tryd.underlying137
  a119 := Tryd.isAgg137
  z119 := Tryd.sizeOf137
  t138 := Tryd.underlying139
  a138 := Tryd.isAgg139
  z138 := Tryd.sizeOf139
  v138 := Tryd.zeroValue139
  t139 := Tryd.underlying140
  a139 := Tryd.isAgg140
  z139 := Tryd.sizeOf140
  v139 := Tryd.zeroValue140
  t146 := Tryd.underlying133
  a146 := Tryd.isAgg133
  z146 := Tryd.sizeOf133
  v146 := Tryd.zeroValue133
  g1 := by kernel_rfl
  g3 := by kernel_rfl
  g4 := by kernel_rfl
  i0 := by kernel_rfl
  i3 := by kernel_rfl
  i4 := by kernel_rfl
  i5 := by kernel_rfl
  i9 := by kernel_rfl
  i21 := by kernel_rfl
  i31 := by kernel_rfl
  i46 := by kernel_rfl
  i51 := by kernel_rfl
  i105 := by kernel_rfl
  i138 := by kernel_rfl
  i139 := by kernel_rfl
  i146 := by kernel_rfl
  m1 := by kernel_rfl
  s1_3 := fun w h => Go.Proofs.cell_of_shapedOpen_int (zero := #[.int .i64 0]) (t := 3) h (of_decide_eq_true (by kernel_rfl)) (by kernel_rfl) rfl (by kernel_rfl) (by kernel_rfl) Tryd.underlying3
  m3 := by kernel_rfl
  m4 := by kernel_rfl }
open Go.RowKit Go.Lib in
theorem Tryd.strings_Split_shaped (s sep : ByteArray) (w : World) (h : w.ShapedOpen Tryd.prog) (hs : s.size < 4294967281) (h1 : 1 ≤ sep.size) :
    Calls Tryd.prog 79 #[.string s, .string sep] w fun e w' =>
      e = .returned (.slice (some ⟨w.heap.size, 0, none⟩) (Lib.countB s sep + 1) (Lib.countB s sep + 1)) ∧ w' = w.alloc (.cells ((Lib.splitB sep 0 (Lib.countB s sep) s).map Value.string).toArray 9) := Any.strings_Split_shaped Tryd.laysM146 s sep w h hs h1
end Go.Proofs

namespace Go.Proofs.YtbkfjopoacbdgaaDoor
open Go.RowKit
theorem signs_left (s : ByteArray) (w : World) : Calls Tryd.prog 81 #[.string s, .string ⟨#[91, 63]⟩] w fun e w' => e = .returned (.string ⟨(Lib.trimLeftS s.data.toList [91, 63]).toArray⟩) ∧ Go.RowKit.Below w.heap.size w w' :=
  Any.strings_TrimLeft_laid Tryd.lays161 (by kernel_rfl) s ⟨#[91, 63]⟩ w (by decide) (ascii_of_all (by decide))
theorem letters_off (s : ByteArray) (w : World) (hs : s.size ≤ 9223372036854775807) : Calls Tryd.prog 90 #[.string s, .string ⟨#[97, 98, 99, 100, 101, 102, 103, 104, 105, 106, 107, 108, 109, 110, 111, 112, 113, 114, 115, 116, 117, 118, 119, 120, 121, 122]⟩] w fun e w' => e = .returned (.string ⟨(Lib.trimS s.data.toList [97, 98, 99, 100, 101, 102, 103, 104, 105, 106, 107, 108, 109, 110, 111, 112, 113, 114, 115, 116, 117, 118, 119, 120, 121, 122]).toArray⟩) ∧ Go.RowKit.Below w.heap.size w w' :=
  Any.strings_Trim_laid Tryd.lays160 (by kernel_rfl) s ⟨#[97, 98, 99, 100, 101, 102, 103, 104, 105, 106, 107, 108, 109, 110, 111, 112, 113, 114, 115, 116, 117, 118, 119, 120, 121, 122]⟩ w hs (by decide) (ascii_of_all (by decide))
end Go.Proofs.YtbkfjopoacbdgaaDoor

namespace Wf
set_option linter.unusedVariables false
abbrev Bs := List UInt8
end Wf

namespace Wf
set_option linter.unusedVariables false

inductive K where
  | num | txt | flag
  | ref (name : Bs)
  | list (k : K)
  | opt (k : K)
deriving DecidableEq, Repr, Inhabited

def K.text : K → Bs
  | .num => [110]
  | .txt => [116]
  | .flag => [102]
  | .ref n => 64 :: (n ++ [59])
  | .list k => 91 :: k.text
  | .opt k => 63 :: k.text

def K.signs : K → Bs
  | .list k => 91 :: k.signs
  | .opt k => 63 :: k.signs
  | _ => []

def K.core : K → K
  | .list k => k.core
  | .opt k => k.core
  | k => k

def K.base : K → Bs
  | .num => [110]
  | .txt => [116]
  | .flag => [102]
  | .ref _ => [64]
  | .list k => k.base
  | .opt k => k.base

def K.name : K → Bs
  | .ref n => n
  | .list k => k.name
  | .opt k => k.name
  | _ => []

def isLow (c : UInt8) : Bool := 97 ≤ c.toNat && c.toNat ≤ 122
def isName (s : Bs) : Bool := decide (1 ≤ s.length) && decide (s.length ≤ 3) && s.all isLow

/-- the kind that a text tells, whatever its length -/
def kindIn : Bs → Option K
  | [] => none
  | c :: r =>
    if c = 91 then (kindIn r).map .list
    else if c = 63 then (kindIn r).map .opt
    else if c = 64 then (if r ≠ [] ∧ r.getLast? = some 59 ∧ isName r.dropLast = true then some (.ref r.dropLast) else none)
    else if c = 110 ∧ r = [] then some .num
    else if c = 116 ∧ r = [] then some .txt
    else if c = 102 ∧ r = [] then some .flag
    else none

def parseK (s : Bs) : Option K := if s.length ≤ 12 then kindIn s else none

theorem kindIn_text {s : Bs} {k : K} (h : kindIn s = some k) : k.text = s := by
  induction s generalizing k with
  | nil => simp [kindIn] at h
  | cons c r ih =>
    simp only [kindIn] at h
    split at h
    · rename_i hc
      cases hr : kindIn r with
      | none => rw [hr] at h; simp at h
      | some k' => rw [hr] at h; simp at h; subst h; simp [K.text, ih hr, hc]
    · split at h
      · rename_i hc
        cases hr : kindIn r with
        | none => rw [hr] at h; simp at h
        | some k' => rw [hr] at h; simp at h; subst h; simp [K.text, ih hr, hc]
      · split at h
        · rename_i hc
          split at h
          · rename_i hx
            simp at h; subst h
            obtain ⟨h1, h2, h3⟩ := hx
            simp only [K.text, hc]
            rw [List.getLast?_eq_some_getLast h1] at h2
            simp at h2
            rw [← h2, List.dropLast_concat_getLast h1]
          · simp at h
        · repeat (first | (split at h; · rename_i hx; simp at h; subst h; simp [K.text, hx]) | simp at h)

theorem K.text_core_base (k : K) : k.text = k.signs ++ k.core.text := by
  induction k <;> simp_all [K.text, K.signs, K.core]
theorem K.text_ne (k : K) : k.text ≠ [] := by cases k <;> simp [K.text]
end Wf

namespace Wf
set_option linter.unusedVariables false
def isSgn (c : UInt8) : Bool := c == 91 || c == 63
def wrap : Bs → K → K
  | [], k => k
  | c :: r, k => if c = 91 then .list (wrap r k) else .opt (wrap r k)
/-- the kind of a text without signs ahead -/
def coreIn (r : Bs) : Option K :=
  if r = [110] then some .num else if r = [116] then some .txt else if r = [102] then some .flag
  else if r.head? = some 64 ∧ r.getLast? = some 59 ∧ isName (r.tail.dropLast) = true then some (.ref r.tail.dropLast) else none

theorem coreIn_kindIn {c : UInt8} {r : Bs} (h1 : c ≠ 91) (h2 : c ≠ 63) : kindIn (c :: r) = coreIn (c :: r) := by
  simp only [kindIn, if_neg h1, if_neg h2, coreIn, List.cons.injEq]
  by_cases h3 : c = 64
  · subst h3
    simp only [if_true, List.head?_cons, List.tail_cons, true_and]
    by_cases hr : r = []
    · subst hr; simp
    · obtain ⟨d, q, rfl⟩ := List.exists_cons_of_ne_nil hr
      simp [List.getLast?_cons_cons]
  · simp [h3]

theorem kindIn_split (s : Bs) : kindIn s = (coreIn (s.dropWhile isSgn)).map (wrap (s.takeWhile isSgn)) := by
  induction s with
  | nil => simp [kindIn, coreIn]
  | cons c r ih =>
    by_cases h1 : c = 91
    · subst h1
      have : isSgn 91 = true := by decide
      simp [kindIn, this, ih, wrap, Option.map_map, Function.comp_def]
    · by_cases h2 : c = 63
      · subst h2
        have : isSgn 63 = true := by decide
        simp [kindIn, this, ih, wrap, Option.map_map, Function.comp_def]
      · have : isSgn c = false := by simp [isSgn, h1, h2]
        have e : wrap [] = id := funext fun _ => rfl
        simp only [List.dropWhile_cons, List.takeWhile_cons, this]
        rw [coreIn_kindIn h1 h2]
        simp [e]
theorem wrap_signs {l : Bs} (h : l.all isSgn = true) (k : K) : (wrap l k).signs = l ++ k.signs := by
  induction l with
  | nil => rfl
  | cons c r ih =>
    simp only [List.all_cons, Bool.and_eq_true] at h
    have hc := h.1
    simp only [isSgn, Bool.or_eq_true, beq_iff_eq] at hc
    simp only [wrap]
    rcases hc with rfl | rfl
    · simp [K.signs, ih h.2]
    · rw [if_neg (by decide)]; simp [K.signs, ih h.2]
theorem wrap_core (l : Bs) (k : K) : (wrap l k).core = k.core := by
  induction l with
  | nil => rfl
  | cons c r ih => simp only [wrap]; split <;> simp [K.core, ih]
theorem wrap_base (l : Bs) (k : K) : (wrap l k).base = k.base := by
  induction l with
  | nil => rfl
  | cons c r ih => simp only [wrap]; split <;> simp [K.base, ih]
theorem wrap_name (l : Bs) (k : K) : (wrap l k).name = k.name := by
  induction l with
  | nil => rfl
  | cons c r ih => simp only [wrap]; split <;> simp [K.name, ih]
end Wf

namespace Go.Proofs.YtbkfjopoacbdgaaDoor
def letters : List UInt8 := [97, 98, 99, 100, 101, 102, 103, 104, 105, 106, 107, 108, 109, 110, 111, 112, 113, 114, 115, 116, 117, 118, 119, 120, 121, 122]
theorem letters_low (c : UInt8) : letters.contains c = Wf.isLow c := by
  have h : ∀ n : Fin 256, letters.contains (UInt8.ofNat n.val) = Wf.isLow (UInt8.ofNat n.val) := by decide +kernel
  have := h ⟨c.toNat, c.toNat_lt⟩
  simpa using this
theorem drop_nil {α : Type} (p : α → Bool) (l : List α) : l.dropWhile p = [] ↔ l.all p = true := by
  induction l with
  | nil => simp
  | cons a l ih => by_cases h : p a = true <;> simp [h, ih]
theorem trim_nil (l : List UInt8) : Lib.trimS l letters = [] ↔ l.all Wf.isLow = true := by
  have hp : (fun x => letters.contains x) = Wf.isLow := funext letters_low
  unfold Lib.trimS Lib.trimLeftS Lib.trimRightS
  rw [hp, drop_nil]
  constructor
  · intro h
    have h2 : l.reverse.all Wf.isLow = true := by
      rw [← List.takeWhile_append_dropWhile (p := Wf.isLow) (l := l.reverse), List.all_append, List.all_takeWhile, Bool.true_and]
      simpa using h
    simpa using h2
  · intro h
    have : l.reverse.dropWhile Wf.isLow = [] := (drop_nil _ _).2 (by simpa using h)
    rw [this]; rfl
end Go.Proofs.YtbkfjopoacbdgaaDoor

namespace Go
open Go.RowKit
variable {P : Program}

/-- what lies below, as a rule of the walk -/
theorem bcell {B : Nat} {W w1 : World} (hb : Below B W w1) : (∀ b o, b < B → w1.cell? ⟨b, o, none⟩ = W.cell? ⟨b, o, none⟩) ∧ (∀ b o, b < B → w1.frozen? ⟨b, o, none⟩ = W.frozen? ⟨b, o, none⟩) :=
  ⟨fun b o h => hb.cell (p := ⟨b, o, none⟩) h, fun b o h => hb.frozen (p := ⟨b, o, none⟩) h⟩

/-- 'string(b)', b a row of bytes that the call itself made -/
theorem run_convert_owned (w : World) (src dst e : TypeId) {base et : Nat} {v : Value} {l : List UInt8} (hs : P.underlying src = some (.slice e)) (he : P.underlying e = some (.int .u8)) (hd : P.underlying dst = some .string)
    (h : w.ownsRow base et 1 v l.length (Lib.byteCells l)) : (convert src dst v).run P w = .ok (.string ⟨l.toArray⟩) w := by
  obtain ⟨h1, h2⟩ := h
  rcases h2 with ⟨rfl, h0⟩ | ⟨g, cap, cur, rfl, hg, hh, hn, hc, hsz, ht⟩
  · have : l = [] := List.eq_nil_of_length_eq_zero h0
    subst this
    rw [run_convert_bytes_string w src dst e none 0 0 hs he hd]
    simp [Conv.bytesToString, Sem.run_pure]
    rfl
  · refine run_convert_bytes_back w src dst e ⟨g, 0, none⟩ cap l hs he hd fun j hj => ?_
    have ha : (Addr.add ⟨g, 0, none⟩ j) = ⟨g, j, none⟩ := by simp [Addr.add]; intro h; exact h.symm
    rw [ha]
    simp only [World.cell?, hh]
    have hx : (cur.toList.take (l.length * 1))[j]? = (Lib.byteCells l)[j]? := by rw [ht]
    rw [List.getElem?_take, if_pos (by omega)] at hx
    simp only [Lib.byteCells, List.getElem?_map, List.getElem?_eq_getElem hj, Option.map_some] at hx
    simpa using hx

/-- 'string([]byte{x})' -/
theorem run_convert_one (src dst e : TypeId) (hs : P.underlying src = some (.slice e)) (he : P.underlying e = some (.int .u8)) (hd : P.underlying dst = some .string) (W : World) (a : Addr) (c : Nat) (m : Int)
    (h : W.cell? a = some (.int .u8 m)) : (convert src dst (.slice (some a) 1 c)).run P W = .ok (.string ⟨#[UInt8.ofNat m.toNat]⟩) W := by
  rw [run_convert_bytes_string W src dst e (some a) 1 c hs he hd]
  have hl := run_loadCells_list (P := P) W a ([m].map (Value.int .u8)) (fun j v hj => by
    match j, hj with
    | 0, hj => simp at hj; subst hj; simpa [Addr.add] using h)
  simp only [List.length_map, List.length_cons, List.length_nil] at hl
  rw [run_bytesToString W a 1 c [m] hl]
  rfl
theorem run_convert_lit (src dst e : TypeId) (hs : P.underlying src = some (.slice e)) (he : P.underlying e = some (.int .u8)) (hd : P.underlying dst = some .string) (W : World) (m : Int) (et : TypeId) :
    (convert src dst (.slice (some ⟨W.heap.size, 0, none⟩) 1 1)).run P (W.alloc (.cells #[.int .u8 m] et)) = .ok (.string ⟨#[UInt8.ofNat m.toNat]⟩) (W.alloc (.cells #[.int .u8 m] et)) :=
  run_convert_one src dst e hs he hd _ _ 1 m (by simp)
theorem run_convert_lit_drew (src dst e : TypeId) (hs : P.underlying src = some (.slice e)) (he : P.underlying e = some (.int .u8)) (hd : P.underlying dst = some .string) (W : World) (m : Int) (et : TypeId) :
    (convert src dst (.slice (some ⟨W.heap.size, 0, none⟩) 1 1)).run P (W.alloc (.cells #[.int .u8 m] et)).drew = .ok (.string ⟨#[UInt8.ofNat m.toNat]⟩) (W.alloc (.cells #[.int .u8 m] et)).drew :=
  run_convert_one src dst e hs he hd _ _ 1 m (by simp)

/-- '+' on strings, as lists of bytes -/
theorem run_add_bytes (x y z : List UInt8) (h : x.length + y.length ≤ 9223372036854775807) (hz : z = x ++ y) (W : World) :
    (Op.stringOp .add ⟨x.toArray⟩ ⟨y.toArray⟩).run P W = .ok (.string ⟨z.toArray⟩) W := by
  subst hz
  refine (run_string_add_sum (P := P) (w := W) _ _ (by simpa [ByteArray.size] using h)).trans ?_
  rw [ByteArray.mk_append_mk]

theorem below_grown {base : Nat} {w w' : World} {e n : Nat} {size : Nat} {v : Value} {xs : List Value} (hown : w.ownsRow base e size v n xs) (hg : w.grownBy w' v.ownBlock) (hb : base ≤ w.heap.size) : Below base w w' := by
  refine (Below.refl base w).grown hg hb fun k hk => ?_
  obtain ⟨_, h2⟩ := hown
  rcases h2 with ⟨rfl, _⟩ | ⟨g, cap, cur, rfl, hg, _⟩
  · simp [Value.ownBlock] at hk
  · simp [Value.ownBlock] at hk; omega

/-- 'out = append(out, x)', out nil or the call's own: ONE element of whatever cells -/
theorem wpList_append_one (w : World) {ops : Array Oper} {rest : List Oper} {o : Oper} {a : Act} {Q : Exit → Act → World → Prop} (hgd : o.guard = none) (s x : Operand) (t : TypeId)
    (ho : o.op = .call { callee := .builtin .append, args := #[s, x], argTypes := #[t, t] })
    (base : Nat) (e : TypeId) (i : TypeInfo) (z : Value) (size bytes : Nat) (ht : P.underlying t = some (.slice e)) (hi : P.info? e = some i) (hz : i.zero = some z)
    (hsize : i.size = size) (hby : i.bytes = bytes) (hzs : z.cells.size = size) (hsz : 0 < size)
    (v : Value) (n : Nat) (xs : List Value) (hs : a.eval s = v) (hown : w.ownsRow base e size v n xs)
    (ad : Addr) (news : List Value) (hx : a.eval x = .slice (some ad) 1 1) (hl : news.length = size) (hnews : ∀ j u, news[j]? = some u → w.cell? (ad.add j) = some u) (h1 : ∀ u ∈ news, u.oneCell' = true)
    (hbytes : (n + 1) * bytes ≤ 140737488355328) (h63 : n + 1 ≤ 140737488355328) (hbase : base ≤ w.heap.size)
    (h : ∀ v' w', w'.ownsRow base e size v' (n + 1) (xs ++ news) → Below base w w' → wpList P ops Q rest (a.put o.dst v') w') : wpList P ops Q (o :: rest) a w :=
  wpList_append_own w hgd s x t ho base e i z size bytes ht hi hz hsize hby hzs hsz v n xs hs hown ad 1 1 news hx (by omega) hnews h1 (by unfold maxLen; omega) hbytes hbase
    fun v' w' g1 g2 _ => h v' w' g1 (below_grown hown g2 hbase)

/-- 'out = append(out, c)' for bytes: out holds l; behind it l ++ [c] -/
theorem wpList_append_byte (w : World) {ops : Array Oper} {rest : List Oper} {o : Oper} {a : Act} {Q : Exit → Act → World → Prop} (hgd : o.guard = none) (s x : Operand) (t : TypeId)
    (ho : o.op = .call { callee := .builtin .append, args := #[s, x], argTypes := #[t, t] })
    (base : Nat) (e : TypeId) (ht : P.underlying t = some (.slice e)) (hi : (P.info? e).map (fun i => (i.zero, i.size, i.bytes)) = some (some (.int .u8 0), 1, 1))
    (v : Value) (l : List UInt8) (hs : a.eval s = v) (hown : w.ownsRow base e 1 v l.length (Lib.byteCells l))
    (ad : Addr) (m : Int) (hx : a.eval x = .slice (some ad) 1 1) (hc : w.cell? ad = some (.int .u8 m)) (c : UInt8) (hm : m = c.toNat)
    (hn : l.length + 1 ≤ 140737488355328) (hbase : base ≤ w.heap.size)
    (h : ∀ v' w', w'.ownsRow base e 1 v' (l ++ [c]).length (Lib.byteCells (l ++ [c])) → Below base w w' → wpList P ops Q rest (a.put o.dst v') w') : wpList P ops Q (o :: rest) a w := by
  obtain ⟨i0, hi0, hz0, hz1, hz2⟩ := info_parts hi
  refine wpList_append_one w hgd s x t ho base e i0 (.int .u8 0) 1 1 ht hi0 hz0 hz1 hz2 rfl (by decide) v l.length _ hs hown ad [.int .u8 m] hx rfl ?_ ?_ (by omega) hn hbase ?_
  · intro j u hj
    match j, hj with
    | 0, hj => simp at hj; subst hj; simpa [Addr.add] using hc
  · intro u hu; simp at hu; subst hu; rfl
  · intro v' w' g1 g2
    refine h v' w' ?_ g2
    have e1 : (l ++ [c]).length = l.length + 1 := by simp
    have e2 : Lib.byteCells (l ++ [c]) = Lib.byteCells l ++ [.int .u8 m] := by simp [Lib.byteCells, hm]
    rw [e1, e2]
    exact g1
end Go

namespace Go.Proofs.YtbkfjopoacbdgaaDoor
open Go.ChangeShapes Go.WideShapes Go.ChangeAt Go.RowKit Go.Lib
set_option linter.unusedVariables false
theorem l6In_yes (n a b : Int) (w : World) (h1 : a ≤ n) (h2 : n ≤ b) : Calls Tryd.prog 85 #[.int .i64 n, .int .i64 a, .int .i64 b] w fun e w' => e = .returned (.bool true) ∧ w = w' := by
  go_enter Tryd.func85, Tryd.ntmps85
  go_wp2
  go_ret
  exact ⟨rfl, rfl⟩
theorem ret_b {x y : Bool} (h2 : x = y) : Ending.returned (.bool x) = .returned (.bool y) := by rw [h2]
theorem l6In_no (n a b : Int) (w : World) (h : n < a ∨ b < n) : Calls Tryd.prog 85 #[.int .i64 n, .int .i64 a, .int .i64 b] w fun e w' => e = .returned (.bool false) ∧ w = w' := by
  by_cases h1 : a ≤ n
  · have h2 : b < n := by omega
    clear h
    go_enter Tryd.func85, Tryd.ntmps85
    go_wp2
    go_ret
    exact ⟨ret_b (decide_eq_false (by omega)), rfl⟩
  · have h2 : n < a := by omega
    clear h
    go_enter Tryd.func85, Tryd.ntmps85
    go_wp2
    go_ret
    exact ⟨ret_b rfl, rfl⟩
theorem byte_at (s : ByteArray) (i : Nat) (h : i < s.size) : ∃ c : UInt8, s.data.toList[i]? = some c ∧ ∀ h, (s[i]'h).toNat = c.toNat := by
  refine ⟨s[i]'h, ?_, fun _ => rfl⟩
  rw [Array.getElem?_toList, Array.getElem?_eq_getElem (by exact h)]; rfl
theorem size_list (s : ByteArray) : s.data.toList.length = s.size := by rw [Array.length_toList]; rfl
theorem name_no {s : ByteArray} {i : Nat} {c : UInt8} (h : s.data.toList[i]? = some c) (hc : Wf.isLow c = false) : Wf.isName s.data.toList = false := by
  unfold Wf.isName
  have hm : c ∈ s.data.toList := List.mem_of_getElem? h
  have : s.data.toList.all Wf.isLow = false := by
    rw [List.all_eq_false]; exact ⟨c, hm, by rw [hc]; decide⟩
  rw [this, Bool.and_false]
theorem all_take {l : List UInt8} {i : Nat} {c : UInt8} (h : (l.take i).all Wf.isLow = true) (hc : l[i]? = some c) (hl : Wf.isLow c = true) : (l.take (i + 1)).all Wf.isLow = true := by
  rw [List.take_add_one, hc, List.all_append, h]; simp [hl]
theorem low_no {c : UInt8} (h : c.toNat < 97 ∨ 122 < c.toNat) : Wf.isLow c = false := by
  unfold Wf.isLow
  rcases h with h | h
  · rw [decide_eq_false (by omega), Bool.false_and]
  · rw [decide_eq_false (p := c.toNat ≤ 122) (by omega), Bool.and_false]
theorem low_yes {c : UInt8} (h : 97 ≤ c.toNat) (h2 : c.toNat ≤ 122) : Wf.isLow c = true := by simp [Wf.isLow]; omega
theorem name_end {s : ByteArray} {i : Int} {b : Bool} (hi : i = s.size) (h : (s.data.toList.take i.toNat).all Wf.isLow = true) (hb : decide (1 ≤ s.size ∧ s.size ≤ 3) = b) : b = Wf.isName s.data.toList := by
  have hl := size_list s
  rw [List.take_of_length_le (by omega)] at h
  unfold Wf.isName
  rw [h, Bool.and_true, hl, ← hb]
  by_cases h1 : 1 ≤ s.size <;> by_cases h2 : s.size ≤ 3 <;> simp [h1, h2]
set_option maxRecDepth 20000 in
theorem l2Name (s : ByteArray) (w : World) (hs : s.size ≤ 9223372036854775807) : Calls Tryd.prog 73 #[.string s] w fun e w' => e = .returned (.bool (Wf.isName s.data.toList)) ∧ w = w' := by
  go_enter Tryd.func73, Tryd.ntmps73
  go_wp2
  go_loopw [3] (fun v wr => ∃ i : Int, 0 ≤ i ∧ i ≤ s.size ∧ v = .int .i64 i ∧ Hid ((s.data.toList.take i.toNat).all Wf.isLow = true) ∧ w = wr)
    (fun v _ => s.size - (RowKit.intOf v).toNat)
  case atStart => exact ⟨0, Int.le_refl _, by omega, rfl, hid (show _ = true by simp), rfl⟩
  case round =>
    obtain ⟨i, hi0, hi1, rfl, hall, rfl⟩ := hrel
    by_cases hlt : i < s.size
    · obtain ⟨c, hc, e0⟩ := byte_at s i.toNat (by omega)
      have HC := hid hc
      clear hc
      obtain ⟨a, ha⟩ : ∃ a, c.toNat = a := ⟨_, rfl⟩
      have HA := hid ha
      rw [ha] at e0
      clear ha
      by_cases h1 : a < 97
      · go_wp2
        go_ret
        exact ⟨ret_b (name_no HC.out (low_no (by rw [HA.out]; omega))).symm, rfl⟩
      · by_cases h2 : 122 < a
        · go_wp2
          go_ret
          exact ⟨ret_b (name_no HC.out (low_no (by rw [HA.out]; omega))).symm, rfl⟩
        · go_wp2
          go_roundw
          case rel => exact ⟨_, by omega, by omega, rfl, hid (show _ = true by rw [show (i + 1).toNat = i.toNat + 1 by omega]; exact all_take hall.out HC.out (low_yes (by rw [HA.out]; omega) (by rw [HA.out]; omega))), trivial⟩
          case measure => simp [RowKit.intOf]; omega
    · have hi : i = s.size := by omega
      by_cases h3 : 1 ≤ s.size
      · by_cases h4 : s.size ≤ 3
        · go_wp2_with (go_at_call 85; refine (l6In_yes _ _ _ _ (by omega) (by omega)).mono ?_; rintro e w1 ⟨rfl, rfl⟩)
          go_ret
          exact ⟨ret_b (name_end hi hall.out (decide_eq_true ⟨h3, h4⟩)), rfl⟩
        · go_wp2_with (go_at_call 85; refine (l6In_no _ _ _ _ (by omega)).mono ?_; rintro e w1 ⟨rfl, rfl⟩)
          go_ret
          exact ⟨ret_b (name_end hi hall.out (decide_eq_false (by omega))), rfl⟩
      · go_wp2_with (go_at_call 85; refine (l6In_no _ _ _ _ (by omega)).mono ?_; rintro e w1 ⟨rfl, rfl⟩)
        go_ret
        exact ⟨ret_b (name_end hi hall.out (decide_eq_false (by omega))), rfl⟩

theorem not_empty {s : ByteArray} (h : 1 ≤ s.size) : s.toList.isEmpty = false := by
  rw [ByteArray.toList_eq]
  have := size_list s
  cases h' : s.data.toList with
  | nil => rw [h'] at this; simp at this; omega
  | cons a l => rfl
set_option maxRecDepth 20000 in
theorem ok_sgn (s : ByteArray) (w : World) (hs : s.size ≤ 12) (h1 : 1 ≤ s.size) (a : Nat) (e0 : ∀ h, (s[0]'h).toNat = a) (ha : a = 91) (b : Bool) (hr : Calls Tryd.prog 62 #[.string (s.extract 1 s.size)] w fun e w' => e = .returned (.bool b) ∧ w = w') : Calls Tryd.prog 62 #[.string s] w fun e w' => e = .returned (.bool b) ∧ w = w' := by
  subst ha
  have HR := hid hr
  clear hr
  have t0 : s.toList.isEmpty = false := not_empty h1
  go_enter Tryd.func62, Tryd.ntmps62
  go_wp2_with (go_at_call 62; refine HR.out.mono ?_; rintro e w1 ⟨rfl, rfl⟩)
  go_ret
  exact ⟨rfl, rfl⟩
set_option maxRecDepth 20000 in
theorem ok_at (s : ByteArray) (w : World) (hs : s.size ≤ 12) (h1 : 1 ≤ s.size) (h2 : 2 ≤ s.size) (a z : Nat) (e0 : ∀ h, (s[0]'h).toNat = a) (ha : a = 64) (el : ∀ h, (s[s.size - 1]'h).toNat = z) (hz : z = 59) : Calls Tryd.prog 62 #[.string s] w fun e w' => e = .returned (.bool (Wf.isName (s.extract 1 (s.size - 1)).data.toList)) ∧ w = w' := by
  subst ha hz
  obtain ⟨b, hb⟩ : ∃ b, Wf.isName (s.extract 1 (s.size - 1)).data.toList = b := ⟨_, rfl⟩
  have HL := hid (l2Name (s.extract 1 (s.size - 1)) w (by rw [ByteArray.size_extract]; omega))
  rw [hb] at HL ⊢
  clear hb
  have t0 : s.toList.isEmpty = false := not_empty h1
  go_enter Tryd.func62, Tryd.ntmps62
  go_wp2_with (go_at_call 73; refine HL.out.mono ?_; rintro e w1 ⟨rfl, rfl⟩)
  go_ret
  exact ⟨rfl, rfl⟩
theorem eq_list (s : ByteArray) (l : List UInt8) : (s = ⟨l.toArray⟩) ↔ s.data.toList = l := by
  constructor
  · rintro rfl; rfl
  · intro h; rw [← h]
set_option maxRecDepth 20000 in
theorem ok_at_no (s : ByteArray) (w : World) (hs : s.size ≤ 12) (h1 : 1 ≤ s.size) (a z : Nat) (e0 : ∀ h, (s[0]'h).toNat = a) (ha : a = 64) (el : ∀ h, (s[s.size - 1]'h).toNat = z) (hz : z ≠ 59) : Calls Tryd.prog 62 #[.string s] w fun e w' => e = .returned (.bool false) ∧ w = w' := by
  subst ha
  have t0 : s.toList.isEmpty = false := not_empty h1
  have t1 : ((z : Int) == 59) = false := by rw [beq_eq_false_iff_ne]; omega
  go_enter Tryd.func62, Tryd.ntmps62
  go_wp2
  go_ret
  exact ⟨rfl, rfl⟩
set_option maxRecDepth 20000 in
theorem ok_else (s : ByteArray) (w : World) (hs : s.size ≤ 12) (h1 : 1 ≤ s.size) (a : Nat) (e0 : ∀ h, (s[0]'h).toNat = a) (ha : a ≠ 64) (ha2 : a ≠ 91) (ha3 : a ≠ 63) : Calls Tryd.prog 62 #[.string s] w fun e w' => e = .returned (.bool (s.toList == [110] || s.toList == [116] || s.toList == [102])) ∧ w = w' := by
  have t0 : s.toList.isEmpty = false := not_empty h1
  have t1 : ((a : Int) == 64) = false := by rw [beq_eq_false_iff_ne]; omega
  have t2 : ((a : Int) == 91) = false := by rw [beq_eq_false_iff_ne]; omega
  have t3 : ((a : Int) == 63) = false := by rw [beq_eq_false_iff_ne]; omega
  cases g1 : (s.toList == [110]) <;> cases g2 : (s.toList == [116]) <;> cases g3 : (s.toList == [102])
  all_goals (go_enter Tryd.func62, Tryd.ntmps62; go_wp2)
  all_goals go_ret
  all_goals exact ⟨rfl, rfl⟩

set_option maxRecDepth 20000 in
theorem ok_63 (s : ByteArray) (w : World) (hs : s.size ≤ 12) (h1 : 1 ≤ s.size) (a : Nat) (e0 : ∀ h, (s[0]'h).toNat = a) (ha : a = 63) (b : Bool) (hr : Calls Tryd.prog 62 #[.string (s.extract 1 s.size)] w fun e w' => e = .returned (.bool b) ∧ w = w') : Calls Tryd.prog 62 #[.string s] w fun e w' => e = .returned (.bool b) ∧ w = w' := by
  subst ha
  have HR := hid hr
  clear hr
  have t0 : s.toList.isEmpty = false := not_empty h1
  go_enter Tryd.func62, Tryd.ntmps62
  go_wp2_with (go_at_call 62; refine HR.out.mono ?_; rintro e w1 ⟨rfl, rfl⟩)
  go_ret
  exact ⟨rfl, rfl⟩
set_option maxRecDepth 20000 in
theorem ok_long (s : ByteArray) (w : World) (hs : 12 < s.size) : Calls Tryd.prog 62 #[.string s] w fun e w' => e = .returned (.bool false) ∧ w = w' := by
  go_enter Tryd.func62, Tryd.ntmps62
  go_wp2
  go_ret
  exact ⟨rfl, rfl⟩
set_option maxRecDepth 20000 in
theorem ok_empty (s : ByteArray) (w : World) (hs : s.size ≤ 12) (t0 : s.toList.isEmpty = true) : Calls Tryd.prog 62 #[.string s] w fun e w' => e = .returned (.bool false) ∧ w = w' := by
  go_enter Tryd.func62, Tryd.ntmps62
  go_wp2
  go_ret
  exact ⟨rfl, rfl⟩
theorem ext_list (s : ByteArray) (i j : Nat) : (s.extract i j).data.toList = (s.data.toList.drop i).take (j - i) := by
  rw [ByteArray.data_extract, Array.toList_extract, List.extract_eq_take_drop]
/-- whether a text is a kind -/
def okB (l : List UInt8) : Bool := (Wf.parseK l).isSome
theorem kindOk_spec (n : Nat) : ∀ (s : ByteArray) (w : World), s.size ≤ n → Calls Tryd.prog 62 #[.string s] w fun e w' => e = .returned (.bool (okB s.data.toList)) ∧ w = w' := by
  induction n with
  | zero =>
    intro s w hn
    have hl := size_list s
    have h0 : s.data.toList = [] := List.eq_nil_of_length_eq_zero (by omega)
    have := ok_empty s w (by omega) (by rw [ByteArray.toList_eq, h0]; rfl)
    rw [h0]; exact this
  | succ n ih =>
    intro s w hn
    have hl := size_list s
    by_cases hs : s.size ≤ 12
    · cases hd : s.data.toList with
      | nil => exact ok_empty s w hs (by rw [ByteArray.toList_eq, hd]; rfl)
      | cons c r =>
        have hlr : r.length + 1 = s.size := by rw [← hl, hd]; rfl
        obtain ⟨c', hc', e0⟩ := byte_at s 0 (by omega)
        have hcc : c' = c := by rw [hd] at hc'; simpa using hc'.symm
        subst hcc
        have hpk : okB (c' :: r) = (Wf.kindIn (c' :: r)).isSome := by
          unfold okB Wf.parseK; rw [if_pos (by rw [List.length_cons]; omega)]
        have hpr : okB r = (Wf.kindIn r).isSome := by
          unfold okB Wf.parseK; rw [if_pos (by omega)]
        have hx : (s.extract 1 s.size).data.toList = r := by
          rw [ext_list, hd, List.drop_one, List.tail_cons, List.take_of_length_le (by omega)]
        have hrec := ih (s.extract 1 s.size) w (by rw [ByteArray.size_extract]; omega)
        rw [hx, hpr] at hrec
        rw [hpk]
        by_cases h1 : c' = 91
        · subst h1
          have := ok_sgn s w hs (by omega) _ e0 rfl _ hrec
          simpa [Wf.kindIn] using this
        · by_cases h2 : c' = 63
          · subst h2
            have := ok_63 s w hs (by omega) _ e0 rfl _ hrec
            simpa [Wf.kindIn] using this
          · have hne : ∀ x : UInt8, c' ≠ x → c'.toNat ≠ x.toNat := fun x hx h => hx (UInt8.toNat_inj.1 h)
            by_cases h3 : c' = 64
            · subst h3
              obtain ⟨z, hz, el⟩ := byte_at s (s.size - 1) (by omega)
              rcases List.eq_nil_or_concat r with hr | ⟨q, y, hr⟩
              · subst hr
                have h1s : s.size = 1 := by rw [← hlr]; rfl
                have hz' : z = 64 := by rw [hd, h1s] at hz; simpa using hz.symm
                subst hz'
                have := ok_at_no s w hs (by omega) _ _ e0 rfl el (by decide)
                simpa [Wf.kindIn] using this
              · have hq : r = q ++ [y] := by rw [hr]; simp
                subst hq
                have hlq : q.length + 2 = s.size := by rw [← hlr]; simp
                have hzy : z = y := by
                  rw [hd] at hz
                  rw [show s.size - 1 = (64 :: q).length by simp; omega, ← List.cons_append, List.getElem?_append_right (Nat.le_refl _)] at hz
                  simpa using hz.symm
                subst hzy
                have hx2 : (s.extract 1 (s.size - 1)).data.toList = q := by
                  rw [ext_list, hd, List.drop_one, List.tail_cons, show s.size - 1 - 1 = q.length by omega, List.take_left']
                  rfl
                by_cases h59 : z = 59
                · subst h59
                  have := ok_at s w hs (by omega) (by omega) _ _ e0 rfl el rfl
                  rw [hx2] at this
                  cases hn2 : Wf.isName q <;> simpa [Wf.kindIn, hn2] using this
                · have := ok_at_no s w hs (by omega) _ _ e0 rfl el (fun h => h59 (UInt8.toNat_inj.1 (by rw [h]; rfl)))
                  simpa [Wf.kindIn, h59] using this
            · have := ok_else s w hs (by omega) _ e0 (hne 64 h3) (hne 91 h1) (hne 63 h2)
              rw [ByteArray.toList_eq, hd] at this
              have hb : (Wf.kindIn (c' :: r)).isSome = ((c' :: r) == [110] || (c' :: r) == [116] || (c' :: r) == [102]) := by
                simp only [Wf.kindIn, if_neg h1, if_neg h2, if_neg h3]
                by_cases i1 : c' = 110 ∧ r = []
                · obtain ⟨rfl, rfl⟩ := i1; rfl
                · rw [if_neg i1]
                  by_cases i2 : c' = 116 ∧ r = []
                  · obtain ⟨rfl, rfl⟩ := i2; rfl
                  · rw [if_neg i2]
                    by_cases i3 : c' = 102 ∧ r = []
                    · obtain ⟨rfl, rfl⟩ := i3; rfl
                    · rw [if_neg i3]
                      have e1 : ((c' :: r) == [110]) = false := by rw [beq_eq_false_iff_ne]; simpa using i1
                      have e2 : ((c' :: r) == [116]) = false := by rw [beq_eq_false_iff_ne]; simpa using i2
                      have e3 : ((c' :: r) == [102]) = false := by rw [beq_eq_false_iff_ne]; simpa using i3
                      rw [e1, e2, e3]; rfl
              rw [hb]; exact this
    · have : okB s.data.toList = false := by unfold okB Wf.parseK; rw [if_neg (by omega)]; rfl
      rw [this]; exact ok_long s w (by omega)
end Go.Proofs.YtbkfjopoacbdgaaDoor

namespace Go.Proofs.YtbkfjopoacbdgaaDoor
open Go.ChangeShapes Go.WideShapes Go.ChangeAt Go.RowKit Go.Lib
set_option linter.unusedVariables false
theorem name_trim (s : ByteArray) (h1 : 1 ≤ s.size) (h3 : s.size ≤ 3) : (Lib.trimS s.data.toList letters).isEmpty = Wf.isName s.data.toList := by
  have hl := size_list s
  have h := trim_nil s.data.toList
  unfold Wf.isName
  rw [hl, decide_eq_true h1, decide_eq_true h3, Bool.true_and, Bool.true_and, Bool.eq_iff_iff, List.isEmpty_iff]
  exact h
theorem name_off (s : ByteArray) (h : s.size < 1 ∨ 3 < s.size) : false = Wf.isName s.data.toList := by
  have hl := size_list s
  unfold Wf.isName
  rw [hl]
  rcases h with h | h
  · rw [decide_eq_false (by omega), Bool.false_and, Bool.false_and]
  · rw [decide_eq_false (p := s.size ≤ 3) (by omega), Bool.and_false, Bool.false_and]
set_option maxRecDepth 20000 in
theorem isName_impl (s : ByteArray) (w : World) (hs : s.size ≤ 1048576) : Calls Tryd.prog 78 #[.string s] w fun e w' => e = .returned (.bool (Wf.isName s.data.toList)) ∧ Below w.heap.size w w' := by
  have HT := hid (letters_off s w (by omega))
  by_cases h1 : 1 ≤ s.size
  · by_cases h3 : s.size ≤ 3
    · have HN := hid (name_trim s h1 h3)
      go_enter Tryd.func78, Tryd.ntmps78
      go_wp2_with (go_at_call 90; refine HT.out.mono ?_; rintro e w1 ⟨rfl, hb⟩)
      go_ret
      exact ⟨ret_b HN.out, hb⟩
    · have HN := hid (name_off s (by omega))
      go_enter Tryd.func78, Tryd.ntmps78
      go_wp2
      go_ret
      exact ⟨ret_b HN.out, Below.refl _ _⟩
  · have HN := hid (name_off s (by omega))
    go_enter Tryd.func78, Tryd.ntmps78
    go_wp2
    go_ret
    exact ⟨ret_b HN.out, Below.refl _ _⟩
end Go.Proofs.YtbkfjopoacbdgaaDoor
