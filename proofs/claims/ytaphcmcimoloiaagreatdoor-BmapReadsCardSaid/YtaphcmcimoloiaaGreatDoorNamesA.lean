/-
 NamesA: World,RefName,May,Same,Cut,Own,Split.
-/
import Derived.Test.YtaphcmcimoloiaaGreatDoorProg
import Derived.Test.YtaphcmcimoloiaaGreatDoorPlainA
import Derived.WalkKit
import Derived.WalkSpells
import Derived.WalkLawsBesides
import Derived.Lib.Hide
import Derived.Outline
import Derived.Deep.QuietTactic
import Derived.BigQuiet
import Derived.Deep.DeepFit
import Derived.Test.YtaphcmcimoloiaaGreatDoorShelf
namespace Go.Proofs.YtaphcmcimoloiaaGreatDoor
open Go.RowKit
def Texts (w:World) (v:Value) (l:List ByteArray):Prop:=
 ∃(ad:Option Addr) (cap:Nat),v = .slice ad l.length cap∧l.length≤cap∧cap≤maxLen ∧
  (0<l.length→∃b off,ad=some ⟨b,off,none⟩∧b<w.heap.size∧∀j x,l[j]? = some x→w.cell? ⟨b,off+j,none⟩=some (.string x))
theorem Texts.void (w:World):Texts w (.slice Option.none 0 0) []:=⟨Option.none,0,rfl,Nat.le_refl _,Nat.zero_le _,fun h=>absurd h (by simp)⟩
def MaxOk (w:World):Prop:=∃m,w.cell? ⟨0,0,Option.none⟩=some (.int .i64 m)
theorem ret_bool {a b:Bool} (h:a=b):Ending.returned (.bool a) = .returned (.bool b):=by rw [h]
end Go.Proofs.YtaphcmcimoloiaaGreatDoor
namespace Go.Proofs.YtaphcmcimoloiaaGreatDoor
open Go.RowKit Txt
end Go.Proofs.YtaphcmcimoloiaaGreatDoor
namespace Go.Proofs.YtaphcmcimoloiaaGreatDoor
open Go.RowKit Txt
end Go.Proofs.YtaphcmcimoloiaaGreatDoor
namespace Go.Proofs.YtaphcmcimoloiaaGreatDoor
open Go.RowKit Txt
theorem text_eq (x y:ByteArray):(x.toList == y.toList)=decide (x=y):=by
 rw [Bool.eq_iff_iff,beq_iff_eq,decide_eq_true_iff,Lib.toList_data,Lib.toList_data]
 exact ⟨fun h=>Txt.ext h,fun h=>by rw [h]⟩
end Go.Proofs.YtaphcmcimoloiaaGreatDoor
namespace Go.Proofs.YtaphcmcimoloiaaGreatDoor
open Go.RowKit Txt
theorem Texts.own {w:World} {base:Nat} {e:TypeId} {v:Value} {l:List ByteArray} (h:w.ownsRow base e 1 v l.length (l.map Value.string)):Texts w v l:=by
 rcases h.2 with ⟨rfl,h0⟩ | ⟨g,cap,cur,rfl,hb,hh,hle,hm,hsz,hcur⟩
 ·rw [List.length_eq_zero_iff.1 h0]
  exact Texts.void w
 ·refine ⟨_,cap,rfl,hle,hm,fun hp=>⟨g,0,rfl,?_,fun j x hx=>?_⟩⟩
  ·exact (Array.getElem?_eq_some_iff.1 hh).1
  ·rw [Nat.zero_add,h.cellAt j (by have:=(List.getElem?_eq_some_iff.1 hx).1; omega),List.getElem?_map,hx]
   rfl
theorem Tryz.infoText:(Tryz.prog.info? 9).map (fun i=>(i.zero,i.size,i.bytes))=some (some (.string ByteArray.empty),1,16):=by kernel_rfl
end Go.Proofs.YtaphcmcimoloiaaGreatDoor
namespace Go.Proofs.YtaphcmcimoloiaaGreatDoor
open Go Go.RowKit
def OwnTexts (n:Nat) (w:World) (v:Value) (l:List ByteArray):Prop:=∃e,w.ownsRow n e 1 v l.length (l.map Value.string)
theorem OwnTexts.void (n:Nat) (w:World):OwnTexts n w (.slice none 0 0) []:=⟨0,rfl,Or.inl ⟨rfl,rfl⟩⟩
theorem OwnTexts.texts {n:Nat} {w:World} {v:Value} {l:List ByteArray} (h:OwnTexts n w v l):Texts w v l:=let ⟨_,h⟩:=h; Texts.own h
end Go.Proofs.YtaphcmcimoloiaaGreatDoor
namespace Go.Proofs.YtaphcmcimoloiaaGreatDoor
open Go.RowKit Txt
end Go.Proofs.YtaphcmcimoloiaaGreatDoor
