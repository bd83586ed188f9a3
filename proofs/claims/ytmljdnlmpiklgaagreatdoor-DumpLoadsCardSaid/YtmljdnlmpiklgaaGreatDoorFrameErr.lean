import Derived.Test.YtmljdnlmpiklgaaGreatDoorCards
import Derived.Test.YtmljdnlmpiklgaaGreatDoorNamesA
import Derived.Test.YtmljdnlmpiklgaaGreatDoorTie
import Derived.ProofKit
import Derived.OpenShut
import Derived.Deep.DeepHandedRow
namespace Go.Proofs.YtmljdnlmpiklgaaGreatDoor.frame
open Go.ChangeShapes Go.WideShapes Go.ChangeAt Go.RowKit
theorem own:ownKnob Tryz.prog.godebug=none:=by kernel_rfl
theorem laidOut:laidOutB Tryz.prog=true:=by kernel_rfl
noncomputable def readsB (P:Program) (ts:List TypeId):Bool:=ts.all fun t=>P.readableRec t && decide (t<P.types.size)
section
variable {P:Program} {H:Type} {enc:TypeId×Value→H}
theorem trodAll_stays (hl:laidOutB P=true) {W W':World} (hb:Below W.heap.size W W'):∀{ts:List TypeId} {vs:List Value} {ds:List (DataW H)} {ps:List MemPlace},readsB P ts=true →
 DataW.TrodAll enc P W 0 (fun _=>true) true ts vs ds ps→(∀x∈ps,x.block<W.heap.size)→DataW.TrodAll enc P W' 0 (fun b=>decide (b<W.heap.size)) true ts vs ds ps
 | [],_,_,_,_,h,_=>by
   obtain⟨rfl,rfl,rfl⟩:=trodAll_nil h
   exact trodAll_mk0
 | t :: ts,_,_,_,hr,h,hlt=>by
   obtain⟨v,vs,d,ds,p,q,rfl,rfl,rfl,h0,r0⟩:=trodAll_cons h
   unfold readsB at hr
   rw[List.all_cons,Bool.and_eq_true,Bool.and_eq_true,decide_eq_true_eq] at hr
   exact trodAll_cons_mk (Below.trod hl hr.1.1 hr.1.2 h0 hb (fun x hx=>hlt x (List.mem_append_left _ hx))) (trodAll_stays hl hb hr.2 r0 (fun x hx=>hlt x (List.mem_append_right _ hx)))
theorem post_true (hl:laidOutB P=true) {tb:TypeId} (htb:P.underlying tb=some .bool) {f:Func} {s:ChangeSpec} {W W':World} {args:Array Value} {ds gs:List (DataW H)} {before:List MemPlace} (hts:readsB P f.params.toList=true) (hres:f.resultTypes=#[tb])
 (hv:s.vars=[]) (hW:DataW.Whole enc P f.params.toList s.vars false W args.toList ds gs before) (hfn:s.fn H (ds ++ gs) = { results:=[.lit (.bool true)],args:=ds }) (hb:Below W.heap.size W W') :
 s.post enc P f false true false false W args (.bool true) W':=by
 have hW':=hW
 obtain⟨p,q,hA,hV,rfl,hfz,hnd⟩:=hW
 rw[hv] at hV
 obtain⟨rfl,rfl⟩:=trodVars_none hV
 have hlt:∀x∈p,x.block<W.heap.size:=fun x hx=>by simpa using hW'.lt x (List.mem_append_left _ hx)
 refine⟨_,_,_,[],p,[],hW',?_,?_,?_,hb.frame _,fun h=>by cases h⟩
 ·rw[hfn,hres]
  exact trodAll_mk1 (shut_bool htb _)
 ·rw[hfn]
  exact trodAll_stays hl hb hts hA hlt
 ·rw[hv,hfn]
  rfl
end
def flatCells:Nat→DataW Unit→List Value
 | 0,_=>[]
 | _+1,.lit (.int k z)=>[.int k z]
 | _+1,.lit (.bool b)=>[.bool b]
 | n+1,.agg parts=>parts.flatMap (flatCells n)
 | _,_=>[]
def layTable (h:Array Obj) (x:Nat×DataW Unit):Array Obj:=
 h.modify x.1 fun
  | .cells _ t frozen=>.cells (flatCells 5 x.2).toArray t frozen
  | o=>o
end Go.Proofs.YtmljdnlmpiklgaaGreatDoor.frame
namespace Go.Proofs.YtmljdnlmpiklgaaGreatDoor.frame
open Go Go.RowKit
noncomputable def lowBlock:Nat:=(World.holding Tryz.prog default ⟨#[],#[],[]⟩).heap.size
def layError (h:Array Obj) (x:Nat×Nat):Array Obj:=
 h.modify x.1 fun
  | .cells _ t frozen=>.cells #[.iface 215 (.pointer (some ⟨x.2,0,none⟩))] t frozen
  | o=>o
noncomputable def laidWorldE (tabs:List (Nat×DataW Unit)) (g0 g1:Nat) (s0 s1:List UInt8) (os:Os):World:=
 { World.holding Tryz.prog os ⟨#[.cells #[.string ⟨s0.toArray⟩] 217,.cells #[.string ⟨s1.toArray⟩] 217],#[],[]⟩ with
  heap:=layError (layError (tabs.foldl layTable (World.holding Tryz.prog os ⟨#[.cells #[.string ⟨s0.toArray⟩] 217,.cells #[.string ⟨s1.toArray⟩] 217],#[],[]⟩).heap) (g0,lowBlock)) (g1,lowBlock+1) }
