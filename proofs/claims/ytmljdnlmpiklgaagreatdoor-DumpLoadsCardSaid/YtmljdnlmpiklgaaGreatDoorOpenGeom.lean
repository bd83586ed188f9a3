import Derived.Test.YtmljdnlmpiklgaaGreatDoorFrameErr
import Derived.Test.YtmljdnlmpiklgaaGreatDoorDumpAA
import Derived.Deep.Fields
set_option maxRecDepth 100000
namespace Go.Proofs.YtmljdnlmpiklgaaGreatDoor
open Go Go.ChangeShapes Go.WideShapes Go.RowKit Go.Deep
section
variable {H:Type} {enc:TypeId×Value→H} {P:Program} {w:World} {base:Nat} {spare:Nat→Bool} {held:Bool}
theorem open_agg3 {r:Reach} {b0:Nat} {t:TypeId} {f0 f1 f2:Field} {v:Value} {d:DataW H} {p:List MemPlace} (hs:P.underlying t=some (.struct #[f0,f1,f2])) (hone:oneCellFields P #[f0,f1,f2]=true) (hC:P.cellsOf t=3)
 (hv:Value.okWide P w r b0 t v) (h:DataW.Trod enc P w base spare held t v d p) :
 ∃(v0 v1 v2:Value) (y0 y1 y2:DataW H×List MemPlace) (n:Nat),v = .agg #[v0,v1,v2]∧d = .agg [y0.1,y1.1,y2.1]∧p=y0.2 ++ (y1.2 ++ y2.2) ∧
  DataW.trod enc P w base spare held n f0.type [v0]=some y0∧DataW.trod enc P w base spare held n f1.type [v1]=some y1∧DataW.trod enc P w base spare held n f2.type [v2]=some y2:=by
 obtain⟨cs,rfl,hsz⟩:=okWide_struct hs hv
 obtain⟨l⟩:=cs
 match l,hsz.trans hC with
 | [c0,c1,c2],_=>
   obtain⟨fuel,hf⟩:=h
   obtain⟨xs,n,_,hx,_,hlen,hg⟩:=DataW.trod_struct hs hf
   obtain⟨o0,k0⟩:=hone_of hone 0 f0 rfl
   obtain⟨o1,k1⟩:=hone_of hone 1 f1 rfl
   obtain⟨o2,k2⟩:=hone_of hone 2 f2 rfl
   match xs,hlen with
   | [y0,y1,y2],_=>
     simp only[Prod.mk.injEq] at hx
     exact⟨c0,c1,c2,y0,y1,y2,n,rfl,by simpa using hx.1,by simpa using hx.2,by simpa [Value.cells,o0,k0] using hg 0 f0 rfl,by simpa [Value.cells,o1,k1] using hg 1 f1 rfl,by simpa [Value.cells,o2,k2] using hg 2 f2 rfl⟩
end
def geomD {H:Type} (g:Sp.Geom):DataW H:=.agg [.lit (.int .i64 g.groups),.lit (.int .i64 g.inodes),.lit (.int .i64 g.blocks)]
theorem open_geom {H:Type} {enc:TypeId×Value→H} {W:World} {base:Nat} {v:Value} {d:DataW H} {ps:List MemPlace} (hval:Value.okWide Tryz.prog W .any base 23 v)
 (h:DataW.Trod enc Tryz.prog W 0 (fun _=>true) true 23 v d ps):∃g:Sp.Geom,v=gV g∧d=geomD g∧ps=[]:=by
 obtain⟨v0,v1,v2,y0,y1,y2,n,rfl,rfl,rfl,t0,t1,t2⟩:=open_agg3 Tryz.underlying23 (by kernel_rfl) (by kernel_rfl) hval h
 obtain⟨n0,e0,rfl,f0⟩:=DataW.trod_int Tryz.underlying3 t0
 obtain⟨n1,e1,rfl,f1⟩:=DataW.trod_int Tryz.underlying3 t1
 obtain⟨n2,e2,rfl,f2⟩:=DataW.trod_int Tryz.underlying3 t2
 cases e0
 cases e1
 cases e2
 exact⟨⟨n0,n1,n2⟩,rfl,rfl,rfl⟩
theorem laidVars_mem {P:Program} {w:World}:∀{laid:List (String×DataW Unit)} {ps:List MemPlace},DataW.LaidVars P w laid ps→∀n d,(n,d)∈laid →
 ∃g t cs fuel p,P.globalNamed n=some g∧(P.globals[g]?).map (·.type)=some t∧w.var? P n=some cs∧DataW.trod (fun _=>()) P w 0 (fun _=>true) false fuel t cs.toList=some (d,p)
 | [],_,_,n,d,hm=>by cases hm
 | (n',d') :: r,ps,h,n,d,hm=>by
   obtain⟨g,t,cs,fuel,p,q,h1,h2,h3,h4,h5,_⟩:=h
   rcases List.mem_cons.1 hm with he | hm
   ·cases he
    exact⟨g,t,cs,fuel,p,h1,h2,h3,h4⟩
   ·exact laidVars_mem h5 n d hm
theorem tabOk_of_laid {laid : List (String × DataW Unit)} {W : World} (hf : (laid.filter fun x => x.2.handleName?.isSome) = []) (hm : ("internal/strconv.uint64pow10", Lib.tabData .u64 Lib.pow10Tab) ∈ laid) (h : laidMetH Tryz.prog laid W) : TabOk W := by
 unfold laidMetH at h
 rw[hf] at h
 obtain⟨ps,hl,_⟩:=h
 obtain⟨g,t,cs,fuel,p,hg,ht,hvar,hd⟩:=laidVars_mem hl _ _ hm
 have hg' : Tryz.prog.globalNamed "internal/strconv.uint64pow10" = some 3 := by kernel_rfl
 obtain rfl:=Option.some.inj (hg'.symm.trans hg)
 have ht':(Tryz.prog.globals[3]?).map (·.type)=some 192:=by kernel_rfl
 obtain rfl:=Option.some.inj (ht'.symm.trans ht)
 unfold TabOk Lib.TabIs
 rw[hvar,←Lib.cells_of_tab Tryz.underlying192 Tryz.underlying164 (by kernel_rfl) (by kernel_rfl) hd]
