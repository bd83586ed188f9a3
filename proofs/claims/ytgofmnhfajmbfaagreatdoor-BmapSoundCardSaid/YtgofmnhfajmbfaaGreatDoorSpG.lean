/-
 SpG: SpBmDo,SpBmWrite,SpBmCut,SpBmFile.
-/
import Derived.Test.YtgofmnhfajmbfaaGreatDoorSpF
namespace Go.Proofs.YtgofmnhfajmbfaaGreatDoor.Sp
open Go Txt
/-- A file that is open: its side, what it is, the changes that were made. -/
structure BSt where
 S:Side
 F:File
 made:List Int
def BSt.chg (t:BSt) (j off:Int) (x:ByteArray) (ahead:List Int):BSt:=⟨t.S.change j off x ahead,t.F,t.made ++ [t.S.changeN j off x ahead]⟩
def BSt.took (t:BSt) (g:Geom) (ks:List Int):BSt:=⟨(t.S.block g ks).1,t.F,t.made ++ [(t.S.block g ks).2.2.1]⟩
def BSt.newN (t:BSt) (g:Geom) (ks:List Int):Int:=(t.S.block g ks).2.1
def BSt.fresh (t:BSt) (g:Geom) (ks:List Int) (x:ByteArray):BSt:=(t.took g ks).chg (t.newN g ks) 0 x [(t.S.block g ks).2.2.1]
def BSt.newA (t:BSt) (g:Geom) (ks:List Int) (x:ByteArray):List Int:=[(t.S.block g ks).2.2.1,(t.took g ks).S.changeN (t.newN g ks) 0 x [(t.S.block g ks).2.2.1]]
def BSt.name (t:BSt) (g:Geom) (i:Int) (q:Nat) (b:Int) (ahead:List Int):BSt:={ (t.chg (q7z g i t.F q) (q9z q) (putB 2 b) ahead) with F:={ t.F with blocks:=t.F.blocks.set q b } }
def BSt.more (t:BSt) (g:Geom) (i:Int) (m:Int) (ahead:List Int):BSt:={ (t.chg (q1z g i) 24 (putB 2 m) ahead) with F:={ t.F with more:=m } }
def BSt.listed (t:BSt) (g:Geom) (i:Int) (ks:List Int) (q:Nat):BSt:=if 8≤q∧t.F.more=0 then(t.fresh g ks blank).more g i (t.newN g ks) (t.newA g ks blank) else t
def allB (off:Nat) (x:ByteArray):ByteArray:=ofL (q5z (zeros 64) off x.data.toList)
def BSt.named (t:BSt) (g:Geom) (i:Int) (ks:List Int) (q off:Nat) (x:ByteArray):BSt:=(t.fresh g ks (allB off x)).name g i q (t.newN g ks) (t.newA g ks (allB off x))
def BSt.put (t:BSt) (g:Geom) (i:Int) (ks:List Int) (q off:Nat) (x:ByteArray):BSt:=
 if t.F.blocks.getD q 0≠0 then t.chg (t.F.blocks.getD q 0) off x [] else(t.listed g i ks q).named g i ks q off x
theorem q144z {S:Side} {g:Geom} {b:Bool} {no:Int→Int→Int} {X:List Int} (hT:Taken S g b no X) (hn:NoInj g b no) {ks:List Int} (hk:∀k∈ks,0≤k∧k<g.groups) (hd:ks.Nodup)
 (h:X.length<ks.length*(manyG g b).toNat):∃k∈ks,∃p:Nat,(p:Int)<manyG g b∧no k p∉X:=by
 refine Classical.byContradiction fun hno=>?_
 have h1:=filter_mem_count hT.nodup (numsK g b no ks) (numsK_nodup hn hk hd) (fun x hx=>by
  obtain⟨k,hkk,hx⟩:=List.mem_flatMap.1 hx
  obtain⟨p,hp,rfl⟩:=List.mem_map.1 hx
  have hp:=List.mem_range.1 hp
  exact Classical.byContradiction fun hn=>hno ⟨k,hkk,p,by omega,hn⟩)
 rw[numsK_length] at h1
 have:=List.length_filter_le (fun x=>decide (x∈numsK g b no ks)) X
 omega
def q63z (F F':File):Prop:=F'.kind=F.kind∧F'.links=F.links∧F'.size=F.size∧F'.parent=F.parent∧F'.gen=F.gen
theorem q95z {off:Nat} {x:ByteArray} (h:off+x.size≤64):(allB off x).size=64:=by
 unfold allB
 have hx:x.data.toList.length=x.size:=rfl
 rw[Lib.size_eq,q8z,q50z (by rw[zeros_length,hx]; exact h),zeros_length]
section
variable {g:Geom} {i:Int} {X Y:List Int} {r:Nat} {t:BSt}
theorem bm_list (h:Bm g i t.S t.F X Y r) (hg:g.ok) (h1:1≤i) (h2:i≤g.groups*g.inodes) (hr:r+4<1024) {ks:List Int} (hk:∀k∈ks,0≤k∧k<g.groups) (hd:ks.Nodup) (hroom:Y.length<ks.length*g.blocks.toNat) (q:Nat) :
 ∃Y',Bm g i (t.listed g i ks q).S (t.listed g i ks q).F X Y' (r+3)∧(t.listed g i ks q).F.img (t.listed g i ks q).S.read=t.F.img t.S.read∧(t.listed g i ks q).F.blocks=t.F.blocks∧(8≤q→(t.listed g i ks q).F.more≠0) ∧
  Y'.length≤Y.length+1∧q63z t.F (t.listed g i ks q).F∧(∀b∈Y,b∈Y')∧((t.listed g i ks q).F.more=0↔t.F.more=0∧¬8≤q):=by
 by_cases hq:8≤q∧t.F.more=0
 ·obtain⟨N,S1,e1,k1,l1,n1,n0,c1,cn1,b1,i1,r1,l2⟩:=h.fresh hg (by omega) hk (q144z h.held.tb (q48z hg) hk hd hroom) (x:=blank) (by unfold blank; rw[Lib.size_eq,q8z,zeros_length])
  have hnb:N∉t.F.blocks:=fun hm=>n1 (h.own N (q6z.2 ⟨Or.inr hm,n0⟩))
  have hset:=b1.setMore hg h1 h2 (by omega) (m:=N) (fun e=>absurd e n0) (fun _=>⟨List.mem_append_right _ (List.mem_singleton.2 rfl),hnb,by rw[r1,h.file.none hq.2,q130z]⟩) (ahead:=[(t.S.deps.last:Int)+1,(t.S.deps.last:Int)+2]) (fun n hn=>by
   rw[l2]
   simp only[List.mem_cons,List.not_mem_nil,or_false] at hn
   omega)
  have et:t.listed g i ks q=⟨(S1.change N 0 blank [(t.S.deps.last:Int)+1]).change (q1z g i) 24 (putB 2 N) [(t.S.deps.last:Int)+1,(t.S.deps.last:Int)+2],{ t.F with more:=N },(t.listed g i ks q).made⟩:=by
   unfold BSt.listed
   rw[if_pos hq]
   unfold BSt.more BSt.chg BSt.fresh BSt.newA BSt.newN BSt.took BSt.chg
   dsimp only
   rw[e1]
   dsimp only
   rw[cn1]
  have eS:=congrArg BSt.S et
  have eF:=congrArg BSt.F et
  dsimp only at eS eF
  rw[eS,eF]
  exact⟨Y ++ [N],hset.2.1,hset.2.2.trans i1,rfl,fun _=>n0,by rw[List.length_append]; simp,⟨rfl,rfl,rfl,rfl,rfl⟩,fun b hb=>List.mem_append_left _ hb,⟨fun e=>absurd e n0,fun e=>absurd hq.1 e.2⟩⟩
 ·have et:t.listed g i ks q=t:=if_neg hq
  rw[et]
  exact⟨Y,⟨⟨h.held.ok,h.held.ti,h.held.tb,by have:=h.held.few; omega,by have:=h.held.last; omega⟩,h.file,h.own,h.dlen⟩,rfl,rfl,fun h8 e=>hq ⟨h8,e⟩,by omega,⟨rfl,rfl,rfl,rfl,rfl⟩,fun _ hb=>hb,⟨fun e=>⟨e,fun h8=>hq ⟨h8,e⟩⟩,fun e=>e.1⟩⟩
theorem bm_named (h:Bm g i t.S t.F X Y r) (hg:g.ok) (h1:1≤i) (h2:i≤g.groups*g.inodes) (hr:r+4<1024) {ks:List Int} (hk:∀k∈ks,0≤k∧k<g.groups) (hd:ks.Nodup) (hroom:Y.length<ks.length*g.blocks.toNat) {q off:Nat} (hq:q<40) (hm:8≤q→t.F.more≠0) (h0:t.F.blocks.getD q 0=0) {x:ByteArray} (hx:off+x.size≤64) :
 ∃N,N≠0∧Bm g i (t.named g i ks q off x).S { t.F with blocks:=t.F.blocks.set q N } X (Y ++ [N]) (r+3)∧(t.named g i ks q off x).F = { t.F with blocks:=t.F.blocks.set q N } ∧
  ({ t.F with blocks:=t.F.blocks.set q N }:File).img (t.named g i ks q off x).S.read=q5z (t.F.img t.S.read) (64*q+off) x.data.toList:=by
 obtain⟨N,S1,e1,k1,l1,n1,n0,c1,cn1,b1,i1,r1,l2⟩:=h.fresh hg (by omega) hk (q144z h.held.tb (q48z hg) hk hd hroom) (q95z hx)
 have hp:=b1.point hg h1 h2 (by omega) hq (b:=N) (Or.inr ⟨List.mem_append_right _ (List.mem_singleton.2 rfl),fun hm=>n1 (h.own N hm)⟩) hm (ahead:=[(t.S.deps.last:Int)+1,(t.S.deps.last:Int)+2]) (fun n hn=>by
  rw[l2]
  simp only[List.mem_cons,List.not_mem_nil,or_false] at hn
  omega)
 have et:(t.named g i ks q off x).S=(S1.change N 0 (allB off x) [(t.S.deps.last:Int)+1]).change (q7z g i t.F q) (q9z q) (putB 2 N) [(t.S.deps.last:Int)+1,(t.S.deps.last:Int)+2]∧(t.named g i ks q off x).F = { t.F with blocks:=t.F.blocks.set q N }:=by
  unfold BSt.named BSt.name BSt.chg BSt.fresh BSt.newA BSt.newN BSt.took BSt.chg
  dsimp only
  rw[e1]
  dsimp only
  rw[cn1]
  exact⟨rfl,rfl⟩
 rw[et.1,et.2]
 have hq2:q<t.F.blocks.length:=by rw[h.file.len]; exact hq
 have hb0:t.F.blocks[q]=0:=by
  rw[List.getD_eq_getElem?_getD,List.getElem?_eq_getElem hq2] at h0
  exact h0
 refine⟨N,n0,hp.2.1,rfl,?_⟩
 rw[hp.2.2]
 have hs:secL (S1.change N 0 (allB off x) [(t.S.deps.last:Int)+1]).read N=q5z (zeros 64) off x.data.toList:=by
  unfold secL
  rw[if_neg n0,r1]
  unfold allB
  rw[q8z]
 rw[hs,i1]
 exact img_new h.file (h.sized hg) hq hb0 hx
theorem bm_put (h:Bm g i t.S t.F X Y r) (hg:g.ok) (h1:1≤i) (h2:i≤g.groups*g.inodes) (hr:r+8<1024) {ks:List Int} (hk:∀k∈ks,0≤k∧k<g.groups) (hd:ks.Nodup) (hroom:Y.length+1<ks.length*g.blocks.toNat) {q off:Nat} (hq:q<40) {x:ByteArray} (hx:off+x.size≤64) (hx1:1≤x.size) :
 ∃Y' r',r'≤r+6∧Y'.length≤Y.length+2∧Bm g i (t.put g i ks q off x).S (t.put g i ks q off x).F X Y' r'∧(t.put g i ks q off x).F.img (t.put g i ks q off x).S.read=q5z (t.F.img t.S.read) (64*q+off) x.data.toList∧q63z t.F (t.put g i ks q off x).F ∧
  ∀k,k<40→((t.put g i ks q off x).F.blocks.getD k 0≠0↔t.F.blocks.getD k 0≠0∨k=q):=by
 have hq2:q<t.F.blocks.length:=by rw[h.file.len]; exact hq
 have hgd:t.F.blocks.getD q 0=t.F.blocks[q]:=by rw[List.getD_eq_getElem?_getD,List.getElem?_eq_getElem hq2]; rfl
 by_cases h0:t.F.blocks.getD q 0≠0
 ·have et:t.put g i ks q off x=t.chg (t.F.blocks.getD q 0) off x []:=if_pos h0
  have hdt:=h.data hg (by omega) hq (by rw[←hgd]; exact h0) hx hx1 (ahead:=[]) (by simp)
  rw[et]
  unfold BSt.chg
  dsimp only
  rw[hgd]
  refine⟨Y,r+1,by omega,by omega,hdt.2.1,hdt.2.2,⟨rfl,rfl,rfl,rfl,rfl⟩,fun k _=>⟨Or.inl,?_⟩⟩
  rintro(hh | rfl)
  ·exact hh
  ·exact h0
 ·have h00:t.F.blocks.getD q 0=0:=Classical.byContradiction h0
  have et:t.put g i ks q off x=(t.listed g i ks q).named g i ks q off x:=if_neg h0
  obtain⟨Y1,b1,i1,bl1,m1,y1,s1,_,_⟩:=bm_list h hg h1 h2 (by omega) hk hd (by omega) q
  obtain⟨N,n0,b2,f2,i2⟩:=bm_named b1 hg h1 h2 (by omega) hk hd (by omega) hq m1 (by rw[bl1]; exact h00) hx
  rw[et,f2]
  refine⟨Y1 ++ [N],r+3+3,by omega,by rw[List.length_append,List.length_singleton]; omega,b2,by rw[i2,i1],s1,fun k hk40=>?_⟩
  dsimp only
  rw[bl1,List.getD_eq_getElem?_getD,List.getElem?_set,List.getD_eq_getElem?_getD]
  by_cases e:q=k
  ·subst e
   rw[if_pos rfl,if_pos hq2]
   simp[n0]
  ·rw[if_neg e]
   exact⟨Or.inl,fun hh=>hh.elim id (fun e2=>absurd e2.symm e)⟩
end
def q15z (t:BSt):Prop:=∀n∈t.made,1≤n∧n≤(t.S.deps.last:Int)
theorem q62z {t:BSt} (h:q15z t) {j off:Int} {x:ByteArray} {ahead:List Int} (hc:t.S.changeC j off x ahead=0):q15z (t.chg j off x ahead):=fun n hn=>by
 have hl:=Side.change_last hc
 have hn:n∈t.made ++ [t.S.changeN j off x ahead]:=hn
 show 1≤n∧n≤((t.S.change j off x ahead).deps.last:Int)
 rw[hl.1]
 rcases List.mem_append.1 hn with hn | hn
 ·have:=h n hn; omega
 ·rw[List.mem_singleton,hl.2] at hn
  omega
theorem q86z {t:BSt} (h:q15z t) (F:File):q15z { t with F:=F }:=h
section
variable {g:Geom} {i:Int} {X Y:List Int} {r:Nat} {t:BSt}
theorem made_fresh (h:Bm g i t.S t.F X Y r) (hm:q15z t) (hg:g.ok) (hr:r+1<1024) {ks:List Int} (hk:∀k∈ks,0≤k∧k<g.groups) (hroom:∃k∈ks,∃p:Nat,(p:Int)<g.blocks∧q2z g k p∉Y) {x:ByteArray} (hx:x.size=64):q15z (t.fresh g ks x):=by
 obtain⟨N,S1,e1,k1,l1,n1,n0,c1,cn1,b1,i1,r1,l2⟩:=h.fresh hg hr hk hroom hx
 have e2:t.took g ks=⟨S1,t.F,t.made ++ [(t.S.deps.last:Int)+1]⟩:=by unfold BSt.took; rw[e1]
 have e3:t.newN g ks=N:=by unfold BSt.newN; rw[e1]
 unfold BSt.fresh
 rw[e1,e2,e3]
 refine q62z (t:=⟨S1,t.F,t.made ++ [(t.S.deps.last:Int)+1]⟩) (fun n hn=>?_) c1
 have hn:n∈t.made ++ [(t.S.deps.last:Int)+1]:=hn
 show 1≤n∧n≤(S1.deps.last:Int)
 rw[l1]
 rcases List.mem_append.1 hn with hn | hn
 ·have:=hm n hn; omega
 ·rw[List.mem_singleton] at hn
  omega
theorem made_listed (h:Bm g i t.S t.F X Y r) (hm:q15z t) (hg:g.ok) (h1:1≤i) (h2:i≤g.groups*g.inodes) (hr:r+4<1024) {ks:List Int} (hk:∀k∈ks,0≤k∧k<g.groups) (hd:ks.Nodup) (hroom:Y.length<ks.length*g.blocks.toNat) (q:Nat):q15z (t.listed g i ks q):=by
 unfold BSt.listed
 split
 ·rename_i hq
  have hrm:=q144z h.held.tb (q48z hg) hk hd hroom
  have hz:(blank:ByteArray).size=64:=by unfold blank; rw[Lib.size_eq,q8z,zeros_length]
  have hf:=made_fresh h hm hg (by omega) hk hrm hz
  obtain⟨N,S1,e1,k1,l1,n1,n0,c1,cn1,b1,i1,r1,l2⟩:=h.fresh hg (by omega) hk hrm hz
  have hnb:N∉t.F.blocks:=fun hm=>n1 (h.own N (q6z.2 ⟨Or.inr hm,n0⟩))
  have hset:=b1.setMore hg h1 h2 (by omega) (m:=N) (fun e=>absurd e n0) (fun _=>⟨List.mem_append_right _ (List.mem_singleton.2 rfl),hnb,by rw[r1,h.file.none hq.2,q130z]⟩) (ahead:=[(t.S.deps.last:Int)+1,(t.S.deps.last:Int)+2]) (fun n hn=>by
   rw[l2]
   simp only[List.mem_cons,List.not_mem_nil,or_false] at hn
   omega)
  have eS:(t.fresh g ks blank).S=S1.change N 0 blank [(t.S.deps.last:Int)+1]:=by unfold BSt.fresh BSt.chg BSt.newN BSt.took; dsimp only; rw[e1]
  have eN:t.newN g ks=N:=by unfold BSt.newN; rw[e1]
  have eA:t.newA g ks blank=[(t.S.deps.last:Int)+1,(t.S.deps.last:Int)+2]:=by unfold BSt.newA BSt.newN BSt.took; dsimp only; rw[e1]; dsimp only; rw[cn1]
  unfold BSt.more
  exact q86z (q62z hf (by rw[eS,eN,eA]; exact hset.1)) _
 ·exact hm
theorem made_named (h:Bm g i t.S t.F X Y r) (hm:q15z t) (hg:g.ok) (h1:1≤i) (h2:i≤g.groups*g.inodes) (hr:r+4<1024) {ks:List Int} (hk:∀k∈ks,0≤k∧k<g.groups) (hd:ks.Nodup) (hroom:Y.length<ks.length*g.blocks.toNat) {q off:Nat} (hq:q<40) (hmo:8≤q→t.F.more≠0) {x:ByteArray} (hx:off+x.size≤64):q15z (t.named g i ks q off x):=by
 have hrm:=q144z h.held.tb (q48z hg) hk hd hroom
 have hf:=made_fresh h hm hg (by omega) hk hrm (q95z hx)
 obtain⟨N,S1,e1,k1,l1,n1,n0,c1,cn1,b1,i1,r1,l2⟩:=h.fresh hg (by omega) hk hrm (q95z hx)
 have hp:=b1.point hg h1 h2 (by omega) hq (b:=N) (Or.inr ⟨List.mem_append_right _ (List.mem_singleton.2 rfl),fun hm=>n1 (h.own N hm)⟩) hmo (ahead:=[(t.S.deps.last:Int)+1,(t.S.deps.last:Int)+2]) (fun n hn=>by
  rw[l2]
  simp only[List.mem_cons,List.not_mem_nil,or_false] at hn
  omega)
 have eS:(t.fresh g ks (allB off x)).S=S1.change N 0 (allB off x) [(t.S.deps.last:Int)+1]:=by unfold BSt.fresh BSt.chg BSt.newN BSt.took; dsimp only; rw[e1]
 have eF:(t.fresh g ks (allB off x)).F=t.F:=rfl
 have eN:t.newN g ks=N:=by unfold BSt.newN; rw[e1]
 have eA:t.newA g ks (allB off x)=[(t.S.deps.last:Int)+1,(t.S.deps.last:Int)+2]:=by unfold BSt.newA BSt.newN BSt.took; dsimp only; rw[e1]; dsimp only; rw[cn1]
 unfold BSt.named BSt.name
 exact q86z (q62z hf (by rw[eS,eF,eN,eA]; exact hp.1)) _
theorem made_put (h:Bm g i t.S t.F X Y r) (hm:q15z t) (hg:g.ok) (h1:1≤i) (h2:i≤g.groups*g.inodes) (hr:r+8<1024) {ks:List Int} (hk:∀k∈ks,0≤k∧k<g.groups) (hd:ks.Nodup) (hroom:Y.length+1<ks.length*g.blocks.toNat) {q off:Nat} (hq:q<40) {x:ByteArray} (hx:off+x.size≤64) (hx1:1≤x.size):q15z (t.put g i ks q off x):=by
 have hq2:q<t.F.blocks.length:=by rw[h.file.len]; exact hq
 have hgd:t.F.blocks.getD q 0=t.F.blocks[q]:=by rw[List.getD_eq_getElem?_getD,List.getElem?_eq_getElem hq2]; rfl
 unfold BSt.put
 split
 ·rename_i h0
  have hdt:=h.data hg (by omega) hq (by rw[←hgd]; exact h0) hx hx1 (ahead:=[]) (by simp)
  exact q62z hm (by rw[hgd]; exact hdt.1)
 ·obtain⟨Y1,b1,i1,bl1,m1,y1,s1,_,_⟩:=bm_list h hg h1 h2 (by omega) hk hd (by omega) q
  exact made_named b1 (made_listed h hm hg h1 h2 (by omega) hk hd (by omega) q) hg h1 h2 (by omega) hk hd (by omega) hq m1 hx
def BSt.puts (g:Geom) (i:Int) (ks:List Int):Nat→BSt→Nat→List UInt8→BSt
 | 0,t,_,_=>t
 | f+1,t,at_,d=>if d=[] then t else BSt.puts g i ks f (t.put g i ks (at_ / 64) (at_ % 64) (ofL (d.take (64-at_ % 64)))) (at_+min d.length (64-at_ % 64)) (d.drop (64-at_ % 64))
def touches (at_ n k:Nat):Prop:=at_<64*(k+1)∧64*k<at_+n
theorem bm_puts (hg:g.ok) (h1:1≤i) (h2:i≤g.groups*g.inodes) {ks:List Int} (hk:∀k∈ks,0≤k∧k<g.groups) (hd:ks.Nodup) :
 ∀(f:Nat) (t:BSt) (Y:List Int) (r:Nat) (at_:Nat) (d:List UInt8),Bm g i t.S t.F X Y r→q15z t→r+6*f+2<1024→Y.length+2*f≤ks.length*g.blocks.toNat→at_+d.length≤2560→(d=[]∨at_ % 64+d.length≤64*f) →
 ∃Y' r',r'≤r+6*f∧Y'.length≤Y.length+2*f∧Bm g i (BSt.puts g i ks f t at_ d).S (BSt.puts g i ks f t at_ d).F X Y' r'∧q15z (BSt.puts g i ks f t at_ d) ∧
  (BSt.puts g i ks f t at_ d).F.img (BSt.puts g i ks f t at_ d).S.read=q5z (t.F.img t.S.read) at_ d∧q63z t.F (BSt.puts g i ks f t at_ d).F ∧
  ∀k,k<40→((BSt.puts g i ks f t at_ d).F.blocks.getD k 0≠0↔t.F.blocks.getD k 0≠0∨(d≠[]∧touches at_ d.length k))
 | 0,t,Y,r,at_,d,h,hm,hr,hroom,hat,hf=>by
   have hd0:d=[]:=hf.elim id (fun hf=>List.length_eq_zero_iff.1 (by omega))
   subst hd0
   refine⟨Y,r,by omega,by omega,h,hm,?_,⟨rfl,rfl,rfl,rfl,rfl⟩,fun k _=>⟨Or.inl,fun hh=>hh.elim id (fun e=>absurd rfl e.1)⟩⟩
   show t.F.img t.S.read=_
   unfold q5z
   simp
 | f+1,t,Y,r,at_,d,h,hm,hr,hroom,hat,hf=>by
   unfold BSt.puts
   by_cases hd0:d=[]
   ·subst hd0
    rw[if_pos rfl]
    refine⟨Y,r,by omega,by omega,h,hm,?_,⟨rfl,rfl,rfl,rfl,rfl⟩,fun k _=>⟨Or.inl,fun hh=>hh.elim id (fun e=>absurd rfl e.1)⟩⟩
    unfold q5z
    simp
   ·rw[if_neg hd0]
    have hpos:0<d.length:=List.length_pos_iff.2 hd0
    have hmod:=Nat.mod_lt at_ (show 0<64 by decide)
    have hx:(ofL (d.take (64-at_ % 64))).size=min d.length (64-at_ % 64):=by rw[Lib.size_eq,q8z,List.length_take,Nat.min_comm]
    have hq:at_ / 64<40:=by omega
    obtain⟨Y1,r1,e1,e2,b1,i1,s1,p1⟩:=bm_put h hg h1 h2 (by omega) hk hd (by omega) hq (off:=at_ % 64) (x:=ofL (d.take (64-at_ % 64))) (by rw[hx]; omega) (by rw[hx]; omega)
    have m1:=made_put h hm hg h1 h2 (by omega) hk hd (by omega) hq (off:=at_ % 64) (x:=ofL (d.take (64-at_ % 64))) (by rw[hx]; omega) (by rw[hx]; omega)
    have hdl:(d.drop (64-at_ % 64)).length=d.length-(64-at_ % 64):=List.length_drop
    obtain⟨Y2,r2,e3,e4,b2,m2,i2,s2,p2⟩:=bm_puts hg h1 h2 hk hd f _ Y1 r1 (at_+min d.length (64-at_ % 64)) (d.drop (64-at_ % 64)) b1 m1 (by omega) (by omega) (by rw[hdl]; omega) (by
     have hf:=hf.resolve_left hd0
     rw[hdl]
     by_cases hle:d.length≤64-at_ % 64
     ·exact Or.inl (List.length_eq_zero_iff.1 (by rw[hdl]; omega))
     ·right
      have e:min d.length (64-at_ % 64)=64-at_ % 64:=by omega
      rw[e]
      have e2:(at_+(64-at_ % 64)) % 64=0:=by omega
      omega)
    refine⟨Y2,r2,by omega,by omega,b2,m2,?_,⟨s2.1.trans s1.1,s2.2.1.trans s1.2.1,s2.2.2.1.trans s1.2.2.1,s2.2.2.2.1.trans s1.2.2.2.1,s2.2.2.2.2.trans s1.2.2.2.2⟩,fun k hk40=>?_⟩
    ·rw[i2,i1,q8z,show 64*(at_ / 64)+at_ % 64=at_ from Nat.div_add_mod at_ 64]
     have ht:(d.take (64-at_ % 64)).length=min d.length (64-at_ % 64):=by rw[List.length_take,Nat.min_comm]
     rw[←ht,patch_two (by rw[ht,hdl,q124z h.file (h.sized hg)]; omega),List.take_append_drop]
    ·rw[p2 k hk40,p1 k hk40,hdl]
     unfold touches
     have hne:(d.drop (64-at_ % 64)≠[])↔64-at_ % 64<d.length:=by
      rw[ne_eq,←List.length_eq_zero_iff,hdl]
      omega
     rw[hne]
     constructor
     ·rintro((hh | rfl) | ⟨h3,h4,h5⟩)
      ·exact Or.inl hh
      ·exact Or.inr ⟨hd0,by omega,by omega⟩
      ·exact Or.inr ⟨hd0,by omega,by omega⟩
     ·rintro(hh | ⟨_,h4,h5⟩)
      ·exact Or.inl (Or.inl hh)
      ·by_cases e:k=at_ / 64
       ·exact Or.inl (Or.inr e)
       ·exact Or.inr ⟨by omega,by omega,by omega⟩
end
def BSt.gone (t:BSt) (g:Geom) (b:Int) (ahead:List Int):BSt:=⟨(t.S.freeBlock g b ahead).1,t.F,t.made ++ [(t.S.freeBlock g b ahead).2.1]⟩
def BSt.wipe (t:BSt) (g:Geom) (i:Int) (first:Int) (q:Nat):BSt:=
 if t.F.blocks.getD q 0≠0 then(t.name g i q 0 [first]).gone g (t.F.blocks.getD q 0) [t.S.changeN (q7z g i t.F q) (q9z q) (putB 2 0) [first]] else t
def BSt.wipes (g:Geom) (i:Int) (first:Int):List Nat→BSt→BSt
 | [],t=>t
 | q :: r,t=>BSt.wipes g i first r (t.wipe g i first q)
def BSt.unlist (t:BSt) (g:Geom) (i:Int) (first:Int):BSt:=
 if t.F.more≠0∧t.F.blocks.drop 8=List.replicate 32 0 then(t.more g i 0 [first]).gone g t.F.more [t.S.changeN (q1z g i) 24 (putB 2 0) [first]] else t
section
variable {V:Int→ByteArray} {j:Int} {F:File}
theorem all_wiped (h:FileOk V j F) {q:Nat} (hq:q<40) (h0:F.blocks[q]'(by rw[h.len]; exact hq)≠0):F.blocks[q]'(by rw[h.len]; exact hq)∉({ F with blocks:=F.blocks.set q 0 }:File).all:=fun hm=>by
 have hq2:q<F.blocks.length:=by rw[h.len]; exact hq
 obtain⟨hm,_⟩:=q6z.1 hm
 rcases hm with e | hm
 ·have e:F.blocks[q]=F.more:=e
  exact h.more_apart (e ▸ h0) (e ▸ List.getElem_mem hq2)
 ·have hm:F.blocks[q]∈F.blocks.set q 0:=hm
  obtain⟨k,hk,e⟩:=List.mem_iff_getElem.1 hm
  rw[List.length_set] at hk
  rw[List.getElem_set] at e
  split at e
  ·exact h0 e.symm
  ·rename_i hne
   exact hne (h.once (i:=q) (i':=k) hq2 hk h0 e.symm)
end
section
variable {g:Geom} {i:Int} {X Y:List Int} {r:Nat} {t:BSt} {first:Int}
theorem bm_wipe (h:Bm g i t.S t.F X Y r) (hm:q15z t) (hg:g.ok) (h1:1≤i) (h2:i≤g.groups*g.inodes) (hr:r+2<1024) (hf:1≤first∧first≤(t.S.deps.last:Int)) {q:Nat} (hq:q<40) :
 ∃Y' r',r'≤r+2∧Bm g i (t.wipe g i first q).S (t.wipe g i first q).F X Y' r'∧q15z (t.wipe g i first q)∧(t.wipe g i first q).F = { t.F with blocks:=t.F.blocks.set q 0 } ∧
  (t.wipe g i first q).F.img (t.wipe g i first q).S.read=q5z (t.F.img t.S.read) (64*q) (zeros 64)∧t.S.deps.last≤(t.wipe g i first q).S.deps.last∧Y'.length≤Y.length∧(∀x∈Y',x∈Y):=by
 have hq2:q<t.F.blocks.length:=by rw[h.file.len]; exact hq
 have hgd:t.F.blocks.getD q 0=t.F.blocks[q]:=by rw[List.getD_eq_getElem?_getD,List.getElem?_eq_getElem hq2]; rfl
 have hs0:secL t.S.read 0=zeros 64:=if_pos rfl
 by_cases h0:t.F.blocks.getD q 0≠0
 ·have hb0:t.F.blocks[q]≠0:=by rw[←hgd]; exact h0
  have hmo:8≤q→t.F.more≠0:=fun h8 e=>hb0 (by
   have hz:=h.file.none e
   have:(t.F.blocks.drop 8)[q-8]? = some 0:=by rw[hz,List.getElem?_replicate,if_pos (by omega)]
   rw[List.getElem?_drop,show 8+(q-8)=q by omega,List.getElem?_eq_getElem hq2] at this
   exact Option.some.inj this)
  have hp:=h.point hg h1 h2 (by omega) hq (b:=0) (Or.inl rfl) hmo (ahead:=[first]) (fun n hn=>by rw[List.mem_singleton] at hn; omega)
  have hl:=Side.change_last hp.1
  have hY:t.F.blocks[q]∈Y:=h.own _ (q6z.2 ⟨Or.inr (List.getElem_mem hq2),hb0⟩)
  obtain⟨S',e1,b1,i1,l1⟩:=hp.2.1.free hg (by omega) hY (all_wiped h.file hq hb0) (ahead:=[(t.S.deps.last:Int)+1]) (fun n hn=>by rw[List.mem_singleton] at hn; rw[hl.1]; omega)
  have et:t.wipe g i first q=⟨S',{ t.F with blocks:=t.F.blocks.set q 0 },(t.name g i q 0 [first]).made ++ [(t.S.deps.last:Int)+2]⟩:=by
   unfold BSt.wipe
   rw[if_pos h0]
   unfold BSt.gone BSt.name BSt.chg
   dsimp only
   rw[hgd,hl.2,e1,hl.1]
   dsimp only
   congr 2
  have mn:=q86z (q62z hm hp.1) { t.F with blocks:=t.F.blocks.set q 0 }
  refine⟨Y.filter (fun x=>decide (x≠t.F.blocks[q])),r+1+1,by omega,by rw[et]; exact b1,?_,by rw[et],?_,by rw[et]; show _≤S'.deps.last; rw[l1,hl.1]; omega,List.length_filter_le _ _,fun x hx=>(List.mem_filter.1 hx).1⟩
  ·rw[et]
   intro n hn
   show 1≤n∧n≤(S'.deps.last:Int)
   rw[l1]
   have hn:n∈(t.name g i q 0 [first]).made ++ [(t.S.deps.last:Int)+2]:=hn
   rcases List.mem_append.1 hn with hn | hn
   ·have hn2:=mn n hn
    have hn2:1≤n∧n≤((t.S.change (q7z g i t.F q) (q9z q) (putB 2 0) [first]).deps.last:Int):=hn2
    omega
   ·rw[List.mem_singleton] at hn
    rw[hl.1]
    omega
  ·rw[et]
   show File.img _ S'.read=_
   rw[i1,hp.2.2,hs0]
 ·have h00:t.F.blocks.getD q 0=0:=Classical.byContradiction h0
  have hb0:t.F.blocks[q]=0:=by rw[←hgd]; exact h00
  have et:t.wipe g i first q=t:=if_neg h0
  have hset:t.F.blocks.set q 0=t.F.blocks:=by
   have:=List.set_getElem_self hq2
   rw[hb0] at this
   exact this
  rw[et]
  refine⟨Y,r,by omega,h,hm,by rw[hset],?_,Nat.le_refl _,Nat.le_refl _,fun _ hx=>hx⟩
  have hsec:=img_sec h.file (h.sized hg) hq
  rw[hb0,hs0] at hsec
  have hself:q5z (t.F.img t.S.read) (64*q) (((t.F.img t.S.read).drop (64*q)).take 64)=t.F.img t.S.read:=by
   unfold q5z
   have ht:(((t.F.img t.S.read).drop (64*q)).take 64).length=64:=by rw[hsec]; exact zeros_length 64
   rw[ht,←List.drop_drop,List.append_assoc,List.take_append_drop,List.take_append_drop]
  rw[hsec] at hself
  exact hself.symm
theorem patch_next {l:List UInt8} {a n m:Nat} (h:a+n+m≤l.length):q5z (q5z l a (zeros n)) (a+n) (zeros m)=q5z l a (zeros (n+m)):=by
 have:=patch_two (l:=l) (x:=zeros n) (y:=zeros m) (a:=a) (by rw[zeros_length,zeros_length]; exact h)
 rw[zeros_length] at this
 rw[this]
 congr 1
 unfold zeros
 rw[List.replicate_append_replicate]
theorem bm_wipes (hg:g.ok) (h1:1≤i) (h2:i≤g.groups*g.inodes):∀(n q:Nat) (t:BSt) (Y:List Int) (r:Nat),q+n≤40→Bm g i t.S t.F X Y r→q15z t→r+2*n<1024→(1≤first∧first≤(t.S.deps.last:Int)) →
 ∃Y' r',r'≤r+2*n∧Bm g i (BSt.wipes g i first (List.range' q n) t).S (BSt.wipes g i first (List.range' q n) t).F X Y' r'∧q15z (BSt.wipes g i first (List.range' q n) t)∧q63z t.F (BSt.wipes g i first (List.range' q n) t).F∧(BSt.wipes g i first (List.range' q n) t).F.more=t.F.more ∧
  (BSt.wipes g i first (List.range' q n) t).F.img (BSt.wipes g i first (List.range' q n) t).S.read=q5z (t.F.img t.S.read) (64*q) (zeros (64*n))∧t.S.deps.last≤(BSt.wipes g i first (List.range' q n) t).S.deps.last∧Y'.length≤Y.length ∧
  ∀k,k<40→(BSt.wipes g i first (List.range' q n) t).F.blocks.getD k 0=if q≤k∧k<q+n then 0 else t.F.blocks.getD k 0
 | 0,q,t,Y,r,hq,h,hm,hr,hf=>by
   refine⟨Y,r,by omega,h,hm,⟨rfl,rfl,rfl,rfl,rfl⟩,rfl,?_,Nat.le_refl _,Nat.le_refl _,fun k _=>?_⟩
   ·show t.F.img t.S.read=_
    unfold q5z zeros
    simp
   ·rw[if_neg (by omega)]
    rfl
 | n+1,q,t,Y,r,hq,h,hm,hr,hf=>by
   obtain⟨Y1,r1,e1,b1,m1,f1,i1,l1,y1,_⟩:=bm_wipe h hm hg h1 h2 (by omega) hf (q:=q) (by omega)
   obtain⟨Y2,r2,e2,b2,m2,s2,mo2,i2,l2,y2,g2⟩:=bm_wipes hg h1 h2 n (q+1) (t.wipe g i first q) Y1 r1 (by omega) b1 m1 (by omega) ⟨hf.1,by omega⟩
   have ew:BSt.wipes g i first (List.range' q (n+1)) t=BSt.wipes g i first (List.range' (q+1) n) (t.wipe g i first q):=by rw[List.range'_succ]; rfl
   have hq2:q<t.F.blocks.length:=by rw[h.file.len]; omega
   rw[ew]
   rw[f1] at s2 mo2
   refine⟨Y2,r2,by omega,b2,m2,s2,mo2,?_,by omega,by omega,fun k hk=>?_⟩
   ·rw[i2,i1,show 64*(q+1)=64*q+64 by omega,patch_next (by rw[q124z h.file (h.sized hg)]; omega)]
    congr 2
    omega
   ·rw[g2 k hk,f1]
    dsimp only
    by_cases e:k=q
    ·subst e
     rw[if_neg (by omega),if_pos (by omega),List.getD_eq_getElem?_getD,List.getElem?_set,if_pos rfl,if_pos hq2]
     rfl
    ·have hs:(t.F.blocks.set q 0).getD k 0=t.F.blocks.getD k 0:=by
      rw[List.getD_eq_getElem?_getD,List.getElem?_set,if_neg (fun e2=>e e2.symm),List.getD_eq_getElem?_getD]
     rw[hs]
     by_cases hin:q+1≤k∧k<q+1+n
     ·rw[if_pos hin,if_pos (by omega)]
     ·rw[if_neg hin,if_neg (by omega)]
end
def BSt.sized (t:BSt) (g:Geom) (i:Int) (z:Int) (ahead:List Int):BSt:={ (t.chg (q1z g i) 2 (putB 2 z) ahead) with F:={ t.F with size:=z } }
def BSt.write (t:BSt) (g:Geom) (i:Int) (ks:List Int) (f off:Nat) (d:List UInt8):BSt:=
 if t.F.size<((off+d.length:Nat):Int) then(BSt.puts g i ks f t off d).sized g i ((off+d.length:Nat):Int) (BSt.puts g i ks f t off d).made else BSt.puts g i ks f t off d
def BSt.rest (t:BSt) (first:Int) (z:Nat):BSt:=if z % 64≠0∧t.F.blocks.getD (z / 64) 0≠0 then t.chg (t.F.blocks.getD (z / 64) 0) ((z % 64:Nat):Int) (ofL (zeros (64-z % 64))) [first] else t
def upB (z:Nat):Nat:=if z % 64≠0 then z / 64+1 else z / 64
def BSt.shrunk (t:BSt) (g:Geom) (i:Int) (first:Int) (z:Nat):BSt:=(BSt.wipes g i first (List.range' (upB z) (40-upB z)) (t.rest first z)).unlist g i first
def BSt.cut (t:BSt) (g:Geom) (i:Int) (z:Nat):BSt:=
 if(z:Int)=t.F.size then t else if(z:Int)<t.F.size then(t.sized g i z []).shrunk g i ((t.S.deps.last:Int)+1) z else t.sized g i z []
section
variable {g:Geom} {i:Int} {X Y:List Int} {r:Nat} {t:BSt} {first:Int}
theorem bm_sized (h:Bm g i t.S t.F X Y r) (hm:q15z t) (hg:g.ok) (h1:1≤i) (h2:i≤g.groups*g.inodes) (hr:r<1024) (z:Int) {ahead:List Int} (ha:∀n∈ahead,1≤n∧n≤(t.S.deps.last:Int)) :
 Bm g i (t.sized g i z ahead).S (t.sized g i z ahead).F X Y (r+1)∧q15z (t.sized g i z ahead)∧(t.sized g i z ahead).F.img (t.sized g i z ahead).S.read=t.F.img t.S.read∧(t.sized g i z ahead).S.deps.last=t.S.deps.last+1∧t.S.changeC (q1z g i) 2 (putB 2 z) ahead=0:=by
 have hs:=h.setSize hg h1 h2 hr z ha
 have hl:=Side.change_last hs.1
 exact⟨hs.2.1,q86z (q62z hm hs.1) _,hs.2.2,hl.1,hs.1⟩
theorem bm_write (h:Bm g i t.S t.F X Y r) (hm:q15z t) (hg:g.ok) (h1:1≤i) (h2:i≤g.groups*g.inodes) {ks:List Int} (hk:∀k∈ks,0≤k∧k<g.groups) (hd:ks.Nodup) {f off:Nat} {d:List UInt8}
 (hr:r+6*f+2<1024) (hroom:Y.length+2*f≤ks.length*g.blocks.toNat) (hat:off+d.length≤2560) (hf:d=[]∨off % 64+d.length≤64*f) :
 ∃Y' r',r'≤r+6*f+1∧Y'.length≤Y.length+2*f∧Bm g i (t.write g i ks f off d).S (t.write g i ks f off d).F X Y' r'∧q15z (t.write g i ks f off d) ∧
  (t.write g i ks f off d).F.img (t.write g i ks f off d).S.read=q5z (t.F.img t.S.read) off d∧(t.write g i ks f off d).F.size=max t.F.size ((off+d.length:Nat):Int) ∧
  ∀k,k<40→((t.write g i ks f off d).F.blocks.getD k 0≠0↔t.F.blocks.getD k 0≠0∨(d≠[]∧touches off d.length k)):=by
 obtain⟨Y1,r1,e1,e2,b1,m1,i1,s1,p1⟩:=bm_puts hg h1 h2 hk hd f t Y r off d h hm hr hroom hat hf
 unfold BSt.write
 by_cases hz:t.F.size<((off+d.length:Nat):Int)
 ·rw[if_pos hz]
  obtain⟨b2,m2,i2,l2,_⟩:=bm_sized b1 m1 hg h1 h2 (by omega) ((off+d.length:Nat):Int) (ahead:=(BSt.puts g i ks f t off d).made) m1
  refine⟨Y1,r1+1,by omega,e2,b2,m2,i2.trans i1,?_,p1⟩
  show((off+d.length:Nat):Int)=_
  omega
 ·rw[if_neg hz]
  refine⟨Y1,r1,by omega,e2,b1,m1,i1,?_,p1⟩
  rw[s1.2.2.1]
  omega
theorem bm_rest (h:Bm g i t.S t.F X Y r) (hm:q15z t) (hg:g.ok) (hr:r<1024) (hf:1≤first∧first≤(t.S.deps.last:Int)) {z:Nat} (hz:z≤2560) :
 ∃r',r'≤r+1∧Bm g i (t.rest first z).S (t.rest first z).F X Y r'∧q15z (t.rest first z)∧(t.rest first z).F=t.F∧t.S.deps.last≤(t.rest first z).S.deps.last ∧
  (t.rest first z).F.img (t.rest first z).S.read=q5z (t.F.img t.S.read) z (zeros (64*upB z-z)):=by
 by_cases h0:z % 64≠0∧t.F.blocks.getD (z / 64) 0≠0
 ·have hq:z / 64<40:=by omega
  have hq2:z / 64<t.F.blocks.length:=by rw[h.file.len]; exact hq
  have hgd:t.F.blocks.getD (z / 64) 0=t.F.blocks[z / 64]:=by rw[List.getD_eq_getElem?_getD,List.getElem?_eq_getElem hq2]; rfl
  have hx:(ofL (zeros (64-z % 64))).size=64-z % 64:=by rw[Lib.size_eq,q8z,zeros_length]
  have hdt:=h.data hg hr hq (by rw[←hgd]; exact h0.2) (off:=z % 64) (x:=ofL (zeros (64-z % 64))) (by rw[hx]; omega) (by rw[hx]; omega) (ahead:=[first]) (fun n hn=>by rw[List.mem_singleton] at hn; omega)
  have hl:=Side.change_last hdt.1
  have et:t.rest first z=t.chg (t.F.blocks.getD (z / 64) 0) ((z % 64:Nat):Int) (ofL (zeros (64-z % 64))) [first]:=if_pos h0
  rw[et,hgd]
  refine⟨r+1,by omega,hdt.2.1,q62z hm hdt.1,rfl,by show _≤(t.S.change _ _ _ _).deps.last; rw[hl.1]; omega,?_⟩
  refine hdt.2.2.trans ?_
  rw[q8z]
  unfold upB
  rw[if_pos h0.1,show 64*(z / 64)+z % 64=z by omega,show 64*(z / 64+1)-z=64-z % 64 by omega]
 ·have et:t.rest first z=t:=if_neg h0
  rw[et]
  refine⟨r,by omega,h,hm,rfl,Nat.le_refl _,?_⟩
  by_cases hm0:z % 64=0
  ·unfold upB
   rw[if_neg (by simp[hm0]),show 64*(z / 64)-z=0 by omega]
   unfold q5z zeros
   simp
  ·have hq:z / 64<40:=by omega
   have hq2:z / 64<t.F.blocks.length:=by rw[h.file.len]; exact hq
   have hgd:t.F.blocks.getD (z / 64) 0=t.F.blocks[z / 64]:=by rw[List.getD_eq_getElem?_getD,List.getElem?_eq_getElem hq2]; rfl
   have hb0:t.F.blocks[z / 64]=0:=by
    rw[←hgd]
    exact Classical.byContradiction fun e=>h0 ⟨hm0,e⟩
   have hn:=img_new h.file (h.sized hg) hq hb0 (off:=z % 64) (x:=zeros (64-z % 64)) (by rw[zeros_length]; omega)
   have hzz:q5z (zeros 64) (z % 64) (zeros (64-z % 64))=zeros 64:=by
    unfold q5z zeros
    rw[List.length_replicate,List.take_replicate,List.drop_replicate,List.replicate_append_replicate,List.replicate_append_replicate]
    congr 1
    omega
   have hsec:=img_sec h.file (h.sized hg) hq
   rw[hb0,show secL t.S.read 0=zeros 64 from if_pos rfl] at hsec
   have hself:q5z (t.F.img t.S.read) (64*(z / 64)) (zeros 64)=t.F.img t.S.read:=by
    rw[←hsec]
    unfold q5z
    have ht:(((t.F.img t.S.read).drop (64*(z / 64))).take 64).length=64:=by rw[hsec]; exact zeros_length 64
    rw[ht,←List.drop_drop,List.append_assoc,List.take_append_drop,List.take_append_drop]
   rw[hzz,hself,show 64*(z / 64)+z % 64=z by omega] at hn
   unfold upB
   rw[if_pos hm0,show 64*(z / 64+1)-z=64-z % 64 by omega]
   exact hn
end
