import Derived.Test.YtnmdaljieohkiaaDoorShelf
import Derived.Shelf.Strings.SlTrimAscii
import Derived.KernelRfl
import Derived.Below
namespace Go.Proofs.YtnmdaljieohkiaaDoor
open Go.RowKit
theorem signs_left (s : ByteArray) (w : World) : Calls Tryd.prog 40 #[.string s, .string ⟨#[91, 63]⟩] w fun e w' => e = .returned (.string ⟨(Lib.trimLeftS s.data.toList [91, 63]).toArray⟩) ∧ Go.RowKit.Below w.heap.size w w' :=
  Any.strings_TrimLeft_laid Tryd.lays161 (by kernel_rfl) s ⟨#[91, 63]⟩ w (by decide) (ascii_of_all (by decide))
theorem letters_off (s : ByteArray) (w : World) (hs : s.size ≤ 9223372036854775807) : Calls Tryd.prog 51 #[.string s, .string ⟨#[97, 98, 99, 100, 101, 102, 103, 104, 105, 106, 107, 108, 109, 110, 111, 112, 113, 114, 115, 116, 117, 118, 119, 120, 121, 122]⟩] w fun e w' => e = .returned (.string ⟨(Lib.trimS s.data.toList [97, 98, 99, 100, 101, 102, 103, 104, 105, 106, 107, 108, 109, 110, 111, 112, 113, 114, 115, 116, 117, 118, 119, 120, 121, 122]).toArray⟩) ∧ Go.RowKit.Below w.heap.size w w' :=
  Any.strings_Trim_laid Tryd.lays160 (by kernel_rfl) s ⟨#[97, 98, 99, 100, 101, 102, 103, 104, 105, 106, 107, 108, 109, 110, 111, 112, 113, 114, 115, 116, 117, 118, 119, 120, 121, 122]⟩ w hs (by decide) (ascii_of_all (by decide))
end Go.Proofs.YtnmdaljieohkiaaDoor
