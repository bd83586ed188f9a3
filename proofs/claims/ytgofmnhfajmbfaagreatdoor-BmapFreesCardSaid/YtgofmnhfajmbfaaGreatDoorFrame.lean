/-
 PlainA: Txt.
-/
import Derived.WalkSpells
import Derived.WalkLawsBesides
import Derived.Test.YtgofmnhfajmbfaaGreatDoorShelf
import Derived.Test.YtgofmnhfajmbfaaGreatDoorCards
import Derived.Test.YtgofmnhfajmbfaaGreatDoorTie
import Derived.ProofKit
import Derived.OpenShut
import Derived.Deep.DeepHandedRow
namespace Go.Proofs.YtgofmnhfajmbfaaGreatDoor.Txt
open Go
def nameL (l:List UInt8):Bool:=decide (1≤l.length) && decide (l.length≤13) && !(l == [46]) && !(l == [46,46]) && !l.contains 47 && !l.contains 0
def nameB (s:ByteArray):Bool:=nameL s.data.toList
def ofL (l:List UInt8):ByteArray:=⟨l.toArray⟩
theorem q7z (l:List UInt8):(ofL l).data.toList=l:=by simp[ofL]
theorem q131z (s:ByteArray):ofL s.data.toList=s:=by cases s; simp[ofL]
theorem ext {a b:ByteArray} (h:a.data.toList=b.data.toList):a=b:=by rw[←q131z a,h,q131z]
end Go.Proofs.YtgofmnhfajmbfaaGreatDoor.Txt
namespace Go.Proofs.YtgofmnhfajmbfaaGreatDoor
open Go.RowKit
def Texts (w:World) (v:Value) (l:List ByteArray):Prop:=
 ∃(ad:Option Addr) (cap:Nat),v = .slice ad l.length cap∧l.length≤cap∧cap≤maxLen ∧
  (0<l.length→∃b off,ad=some ⟨b,off,none⟩∧b<w.heap.size∧∀j x,l[j]? = some x→w.cell? ⟨b,off+j,none⟩=some (.string x))
theorem Texts.void (w:World):Texts w (.slice Option.none 0 0) []:=⟨Option.none,0,rfl,Nat.le_refl _,Nat.zero_le _,fun h=>absurd h (by simp)⟩
def MaxOk (w:World):Prop:=∃m,w.cell? ⟨0,0,Option.none⟩=some (.int .i64 m)
theorem ret_bool {a b:Bool} (h:a=b):Ending.returned (.bool a) = .returned (.bool b):=by rw[h]
end Go.Proofs.YtgofmnhfajmbfaaGreatDoor
namespace Go.Proofs.YtgofmnhfajmbfaaGreatDoor
open Go.RowKit Txt
theorem text_eq (x y:ByteArray):(x.toList == y.toList)=decide (x=y):=by
 rw[Bool.eq_iff_iff,beq_iff_eq,decide_eq_true_iff,Lib.toList_data,Lib.toList_data]
 exact⟨fun h=>Txt.ext h,fun h=>by rw[h]⟩
theorem Texts.own {w:World} {base:Nat} {e:TypeId} {v:Value} {l:List ByteArray} (h:w.ownsRow base e 1 v l.length (l.map Value.string)):Texts w v l:=by
 rcases h.2 with ⟨rfl,h0⟩ | ⟨g,cap,cur,rfl,hb,hh,hle,hm,hsz,hcur⟩
 ·rw[List.length_eq_zero_iff.1 h0]
  exact Texts.void w
 ·refine⟨_,cap,rfl,hle,hm,fun hp=>⟨g,0,rfl,?_,fun j x hx=>?_⟩⟩
  ·exact(Array.getElem?_eq_some_iff.1 hh).1
  ·rw[Nat.zero_add,h.cellAt j (by have:=(List.getElem?_eq_some_iff.1 hx).1; omega),List.getElem?_map,hx]
   rfl
theorem Tryz.infoText:(Tryz.prog.info? 9).map (fun i=>(i.zero,i.size,i.bytes))=some (some (.string ByteArray.empty),1,16):=by kernel_rfl
end Go.Proofs.YtgofmnhfajmbfaaGreatDoor
namespace Go.Proofs.YtgofmnhfajmbfaaGreatDoor
open Go Go.RowKit
def q47z (n:Nat) (w:World) (v:Value) (l:List ByteArray):Prop:=∃e,w.ownsRow n e 1 v l.length (l.map Value.string)
theorem q47z.void (n:Nat) (w:World):q47z n w (.slice none 0 0) []:=⟨0,rfl,Or.inl ⟨rfl,rfl⟩⟩
theorem q47z.texts {n:Nat} {w:World} {v:Value} {l:List ByteArray} (h:q47z n w v l):Texts w v l:=let ⟨_,h⟩:=h; Texts.own h
end Go.Proofs.YtgofmnhfajmbfaaGreatDoor
namespace Go.Proofs.YtgofmnhfajmbfaaGreatDoor
open Go.RowKit Txt
end Go.Proofs.YtgofmnhfajmbfaaGreatDoor
namespace Go.Proofs.YtgofmnhfajmbfaaGreatDoor.frame
open Go.ChangeShapes Go.WideShapes Go.ChangeAt Go.RowKit
theorem own:ownKnob Tryz.prog.godebug=none:=by kernel_rfl
theorem laidOut:laidOutB Tryz.prog=true:=by kernel_rfl
noncomputable def readsB (P:Program) (ts:List TypeId):Bool:=ts.all fun t=>P.readableRec t && decide (t<P.types.size)
section
variable {P:Program} {H:Type} {enc:TypeId×Value→H}
theorem trodAll_stays (hl:laidOutB P=true) {W W':World} (hb:Below W.heap.size W W'):∀{ts:List TypeId} {vs:List Value} {ds:List (DataW H)} {ps:List MemPlace},readsB P ts=true →
 DataW.TrodAll enc P W 0 (fun _=>true) true ts vs ds ps→(∀x∈ps,x.block<W.heap.size)→DataW.TrodAll enc P W' 0 (fun b=>decide (b<W.heap.size)) true ts vs ds ps
 | [],_,_,_,_,h,_=>by
   obtain⟨rfl,rfl,rfl⟩:=trodAll_nil h
   exact trodAll_mk0
 | t :: ts,_,_,_,hr,h,hlt=>by
   obtain⟨v,vs,d,ds,p,q,rfl,rfl,rfl,h0,r0⟩:=trodAll_cons h
   unfold readsB at hr
   rw[List.all_cons,Bool.and_eq_true,Bool.and_eq_true,decide_eq_true_eq] at hr
   exact trodAll_cons_mk (Below.trod hl hr.1.1 hr.1.2 h0 hb (fun x hx=>hlt x (List.mem_append_left _ hx))) (trodAll_stays hl hb hr.2 r0 (fun x hx=>hlt x (List.mem_append_right _ hx)))
theorem post_true (hl:laidOutB P=true) {tb:TypeId} (htb:P.underlying tb=some .bool) {f:Func} {s:ChangeSpec} {W W':World} {args:Array Value} {ds gs:List (DataW H)} {before:List MemPlace} (hts:readsB P f.params.toList=true) (hres:f.resultTypes=#[tb])
 (hv:s.vars=[]) (hW:DataW.Whole enc P f.params.toList s.vars false W args.toList ds gs before) (hfn:s.fn H (ds ++ gs) = { results:=[.lit (.bool true)],args:=ds }) (hb:Below W.heap.size W W') :
 s.post enc P f false true false false W args (.bool true) W':=by
 have hW':=hW
 obtain⟨p,q,hA,hV,rfl,hfz,hnd⟩:=hW
 rw[hv] at hV
 obtain⟨rfl,rfl⟩:=trodVars_none hV
 have hlt:∀x∈p,x.block<W.heap.size:=fun x hx=>by simpa using hW'.lt x (List.mem_append_left _ hx)
 refine⟨_,_,_,[],p,[],hW',?_,?_,?_,hb.frame _,fun h=>by cases h⟩
 ·rw[hfn,hres]
  exact trodAll_mk1 (shut_bool htb _)
 ·rw[hfn]
  exact trodAll_stays hl hb hts hA hlt
 ·rw[hv,hfn]
  rfl
end
def flatCells:Nat→DataW Unit→List Value
 | 0,_=>[]
 | _+1,.lit (.int k z)=>[.int k z]
 | _+1,.lit (.bool b)=>[.bool b]
 | n+1,.agg parts=>parts.flatMap (flatCells n)
 | _,_=>[]
def layTable (h:Array Obj) (x:Nat×DataW Unit):Array Obj:=
 h.modify x.1 fun
  | .cells _ t frozen=>.cells (flatCells 5 x.2).toArray t frozen
  | o=>o
noncomputable def laidWorld (tabs:List (Nat×DataW Unit)) (os:Os):World:=
 { World.holding Tryz.prog os ⟨#[],#[],[]⟩ with heap:=tabs.foldl layTable (World.holding Tryz.prog os ⟨#[],#[],[]⟩).heap }
end Go.Proofs.YtgofmnhfajmbfaaGreatDoor.frame
