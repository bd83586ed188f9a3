/-
 PlainA: Txt.
-/
import Derived.Lib.SplitLaws
namespace Go.Proofs.YtaphcmcimoloiaaGreatDoor.Txt
open Go
def nameL (l:List UInt8):Bool:=decide (1≤l.length) && decide (l.length≤13) && !(l == [46]) && !(l == [46,46]) && !l.contains 47 && !l.contains 0
def nameB (s:ByteArray):Bool:=nameL s.data.toList
def ofL (l:List UInt8):ByteArray:=⟨l.toArray⟩
theorem ofL_data (l:List UInt8):(ofL l).data.toList=l:=by simp [ofL]
theorem data_ofL (s:ByteArray):ofL s.data.toList=s:=by cases s; simp [ofL]
theorem ext {a b:ByteArray} (h:a.data.toList=b.data.toList):a=b:=by rw [←data_ofL a,h,data_ofL]
end Go.Proofs.YtaphcmcimoloiaaGreatDoor.Txt
