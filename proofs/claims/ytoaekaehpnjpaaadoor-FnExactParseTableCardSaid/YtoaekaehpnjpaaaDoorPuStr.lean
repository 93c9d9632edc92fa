/- Plain lemmas: texts made of numbers, put together; a piece of one sign. No program in sight. No condition. -/
import Derived.Test.YtoaekaehpnjpaaaDoorPl
namespace Go.Proofs.YtoaekaehpnjpaaaDoor.Pure
open Go.RowKit Go.Proofs.YtoaekaehpnjpaaaDoor Go.Proofs.YtoaekaehpnjpaaaDoorW.PrintWords
set_option linter.unusedVariables false

theorem sDrop {s : ByteArray} {i : Int} (h0 : 0 ≤ i) (h : i < s.size) : (bytesOf s).drop i.toNat = bt s i :: (bytesOf s).drop (i + 1).toNat := by
  have hi : i.toNat < (bytesOf s).length := by rw [bytesOf_length]; omega
  rw [List.drop_eq_getElem_cons hi, Pl.bt_rd, Pl.rd_get hi, show (i + 1).toNat = i.toNat + 1 by omega]
theorem sPiece {s : ByteArray} {i : Int} (h0 : 0 ≤ i) (h1 : i < s.size) : s.extract i.toNat (i + 1).toNat = strOfNums [bt s i] := by
  have hb := bt_range s i
  apply Pl.bytesOf_inj.1
  rw [Pl.bytesOf_strOf (by simpa using hb), Pl.bytesOf_extract, List.drop_take, sDrop h0 h1, show (i + 1).toNat - i.toNat = 1 by omega]
  rfl
theorem sApp (a b : List Int) : strOfNums a ++ strOfNums b = strOfNums (a ++ b) := by
  apply Pl.ba_ext
  rw [ByteArray.toList_data_append, strOfNums_data, strOfNums_data, strOfNums_data, List.map_append]
theorem sSize (a : List Int) : (strOfNums a).size = a.length := by
  rw [← data_length, strOfNums_data, List.length_map]

end Go.Proofs.YtoaekaehpnjpaaaDoor.Pure
