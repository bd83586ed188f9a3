/-
 A slice of calls among the arguments: what it holds.
-/
import Derived.Test.YtaphcmcimoloiaaGreatDoorFrame
import Derived.Test.YtaphcmcimoloiaaGreatDoorMapsA
import Derived.Deep.Slices
import Derived.Deep.Fields
import Derived.ChangeSame
import Derived.ChangeSlices
import Derived.Lib.SmallJoins
import Derived.OpenShut
namespace Go.Proofs.YtaphcmcimoloiaaGreatDoor
open Go Go.Joins Go.ChangeShapes Go.WideShapes Go.RowKit Go.Deep
section
variable {H:Type} {enc:TypeId×Value→H} {W:World}
set_option maxRecDepth 100000 in
theorem ints_read {fuel:Nat} {cs:List Value} {d:DataW H} {ps:List MemPlace} (h:DataW.trod enc Tryz.prog W 0 (fun _=>true) true fuel 48 cs=some (d,ps)) (hlt:∀x∈ps,x.block<W.heap.size) :
 ∃(l:List Int) (v:Value),cs=[v]∧Ints W v l:=by
 rcases ChangeShapes.open_ints Tryz.underlying48 Tryz.underlying3 (show Tryz.prog.cellsOf 3=1 by kernel_rfl) h with ⟨hcs,hx⟩ | ⟨a,len,cap,ss,hcs,_,hl,hm,hz,hx,hcell,hsz⟩
 ·exact ⟨[],_,hcs,RowAt.void W 1⟩
 ·simp only [Prod.mk.injEq] at hx
  obtain ⟨rfl,rfl⟩:=hx
  simp only [if_true] at hz
  have hlen:(ss.take len).length=len:=by rw [List.length_take]; omega
  refine ⟨ss.take len,.slice (some a) (ss.take len).length cap,by rw [hlen]; exact hcs,some a,cap,by rw [List.length_map],by rw [List.length_map]; omega,hm,fun hp=>?_⟩
  rw [List.length_map] at hp
  have hpos:0<ss.length:=by omega
  obtain ⟨b,off,spot⟩:=a
  have hspot:spot=none:=by simpa [Addr.add] using World.cell?_spot (hcell 0 hpos)
  subst hspot
  refine ⟨b,off,rfl,hlt (.cell b off) (MemPlace.mem_row.2 ⟨0,by omega,by simp⟩),fun j x hx i y hy=>?_⟩
  rw [List.getElem?_map,Option.map_eq_some_iff] at hx
  obtain ⟨n,hn,rfl⟩:=hx
  rw [List.getElem?_take] at hn
  split at hn
  ·have hj:=(List.getElem?_eq_some_iff.1 hn).1
   have hi:i=0:=by have:=(List.getElem?_eq_some_iff.1 hy).1; simpa using this
   subst hi
   have hv:Value.int .i64 n=y:=by simpa using hy
   rw [←hv]
   have:=hcell j hj
   rw [add_plain] at this
   rw [Nat.mul_one,Nat.add_zero,this]
   simp [List.getD,hn]
  ·cases hn
end
end Go.Proofs.YtaphcmcimoloiaaGreatDoor
namespace Go.Proofs.YtaphcmcimoloiaaGreatDoor
open Go Go.Joins Go.ChangeShapes Go.WideShapes Go.RowKit Go.Deep
/-- A write or a cut: which file, where, its bytes, its picks. -/
structure Do4 where
 second:Bool
 off:Int
 data:ByteArray
 picks:Value
instance:Inhabited Do4:=⟨⟨false,0,⟨#[]⟩,.slice none 0 0⟩⟩
def doC (x:Do4):List Value:=[.bool x.second,.int .i64 x.off,.string x.data,x.picks]
structure Do4.In (W:World) (x:Do4):Prop where
 off:(Lit.int .i64 x.off).wf=true
 data:x.data.size≤maxLen
 picks:∃P,Ints W x.picks P
def DosAt (w:World) (v:Value) (l:List Do4):Prop:=RowAt w v 4 (l.map doC)∧∀x∈l,x.In w
section
variable {H:Type} {enc:TypeId×Value→H} {W:World}
set_option maxRecDepth 100000 in
theorem do_read {fuel:Nat} {cs:List Value} {d:DataW H} {ps:List MemPlace} (h:DataW.trod enc Tryz.prog W 0 (fun _=>true) true fuel 83 cs=some (d,ps)) (hlt:∀x∈ps,x.block<W.heap.size) :
 ∃x:Do4,cs=doC x∧x.In W:=by
 obtain ⟨xs,n,rfl,hx,hcl,hxl,hf⟩:=DataW.trod_struct Tryz.underlying83 h
 rw [show Tryz.prog.cellsOf 83=4 by kernel_rfl] at hcl
 match xs,hxl,cs,hcl with
 | [x0,x1,x2,x3],_,[c0,c1,c2,c3],_=>
   have e0:Tryz.prog.cellsOf 4=1:=by kernel_rfl
   have e1:Tryz.prog.cellsOf 3=1:=by kernel_rfl
   have e2:Tryz.prog.cellsOf 9=1:=by kernel_rfl
   have e3:Tryz.prog.cellsOf 48=1:=by kernel_rfl
   have t0:DataW.trod enc Tryz.prog W 0 (fun _=>true) true n 4 (List.take (Tryz.prog.cellsOf 4) (List.drop 0 [c0,c1,c2,c3]))=some x0:=hf 0 _ rfl
   have t1:DataW.trod enc Tryz.prog W 0 (fun _=>true) true n 3 (List.take (Tryz.prog.cellsOf 3) (List.drop 1 [c0,c1,c2,c3]))=some x1:=hf 1 _ rfl
   have t2:DataW.trod enc Tryz.prog W 0 (fun _=>true) true n 9 (List.take (Tryz.prog.cellsOf 9) (List.drop 2 [c0,c1,c2,c3]))=some x2:=hf 2 _ rfl
   have t3:DataW.trod enc Tryz.prog W 0 (fun _=>true) true n 48 (List.take (Tryz.prog.cellsOf 48) (List.drop 3 [c0,c1,c2,c3]))=some x3:=hf 3 _ rfl
   rw [e0] at t0
   rw [e1] at t1
   rw [e2] at t2
   rw [e3] at t3
   obtain ⟨b0,h0,rfl⟩:=DataW.trod_bool Tryz.underlying4 t0
   obtain ⟨n1,h1,rfl,f1⟩:=DataW.trod_int Tryz.underlying3 t1
   obtain ⟨s2,h2,rfl,f2⟩:=DataW.trod_string Tryz.underlying9 t2
   obtain ⟨d3,p3⟩:=x3
   simp only [Prod.mk.injEq] at hx
   obtain ⟨rfl,rfl⟩:=hx
   obtain ⟨P,v3,h3,hP⟩:=ints_read t3 (fun x hx=>hlt x (by simp [hx]))
   cases h0; cases h1; cases h2; cases h3
   exact ⟨⟨b0,n1,s2,c3⟩,rfl,f1,f2,P,hP⟩
set_option maxRecDepth 100000 in
theorem open_dos {base:Nat} {v:Value} {d:DataW H} {ps:List MemPlace} (hval:Value.okWide Tryz.prog W .any base 78 v)
 (h:DataW.Trod enc Tryz.prog W 0 (fun _=>true) true 78 v d ps) (hlt:∀x∈ps,x.block<W.heap.size):∃l,DosAt W v l:=by
 obtain ⟨a0,len,cap,rfl⟩:=okWide_slice Tryz.underlying78 hval
 obtain ⟨fuel,hf⟩:=h
 rcases open_slice Tryz.underlying78 hf with ⟨hcs,hx⟩ | ⟨a,len',cap',m,n,D,Pl,hcs,_,hl,hm,hmm,hx,hi⟩
 ·simp [Value.cells] at hcs
  obtain ⟨rfl,rfl,rfl⟩:=hcs
  exact ⟨[],RowAt.void W 4,by simp⟩
 ·simp [Value.cells] at hcs
  obtain ⟨rfl,rfl,rfl⟩:=hcs
  simp only [Prod.mk.injEq] at hx
  obtain ⟨rfl,rfl⟩:=hx
  simp only [if_true] at hmm
  have e4:Tryz.prog.cellsOf 83=4:=by kernel_rfl
  rw [e4] at hi hlt
  have hspot:0<m→a.spot=none:=fun h0=>by
   obtain ⟨cs',hc,_⟩:=hi 0 h0
   obtain ⟨_,hcl,hat⟩:=World.cells?_some hc
   have h1:=hat 0 (by omega)
   simpa [Addr.add] using World.cell?_spot (h1.trans (List.getElem?_eq_getElem (by rw [hcl]; omega)))
  obtain ⟨b,off,spot⟩:=a
  obtain ⟨X,hX⟩:=choose_lt (α:=Do4) (n:=len) (p:=fun i x=>spot=none∧(∀(k:Nat) (y:Value),(doC x)[k]? = some y→W.cell? ⟨b,off+i*4+k,none⟩=some y)∧x.In W) (fun i hil=>by
   obtain ⟨cs',hc,ht⟩:=hi i (by omega)
   obtain ⟨x,rfl,hG⟩:=do_read ht (fun p hp=>hlt p (List.mem_append_right _ (List.mem_flatMap.2 ⟨i,List.mem_range.2 (by omega),hp⟩)))
   obtain ⟨_,hcl,hat⟩:=World.cells?_some hc
   have hspot:spot=none:=hspot (by omega)
   subst hspot
   refine ⟨x,rfl,fun k y hy=>?_,hG⟩
   have hk:k<4:=(List.getElem?_eq_some_iff.1 hy).1
   have h2:=hat k hk
   rw [add_plain,add_plain] at h2
   rw [h2]
   exact hy)
  refine ⟨(List.range len).map X,⟨some ⟨b,off,spot⟩,cap,by simp,by simpa using hl,hm,fun hp=>?_⟩,fun x hx=>?_⟩
  ·have hpos:0<len:=by simpa using hp
   obtain ⟨rfl,_⟩:=hX 0 hpos
   refine ⟨b,off,rfl,hlt (.cell b off) (List.mem_append_left _ (MemPlace.mem_row.2 ⟨0,by show 0<m*4; omega,by simp⟩)),fun k x hx i y hy=>?_⟩
   rw [List.getElem?_map,Option.map_eq_some_iff] at hx
   obtain ⟨z,hz,rfl⟩:=hx
   rw [List.getElem?_map,Option.map_eq_some_iff] at hz
   obtain ⟨j,hj,rfl⟩:=hz
   have hjj:=List.getElem?_eq_some_iff.1 hj
   have hkl:k<len:=by simpa using hjj.1
   have:j=k:=by simpa using hjj.2.symm
   subst this
   exact (hX j hkl).2.1 i y hy
  ·obtain ⟨i,hi',rfl⟩:=List.mem_map.1 hx
   exact (hX i (List.mem_range.1 hi')).2.2
end
end Go.Proofs.YtaphcmcimoloiaaGreatDoor
