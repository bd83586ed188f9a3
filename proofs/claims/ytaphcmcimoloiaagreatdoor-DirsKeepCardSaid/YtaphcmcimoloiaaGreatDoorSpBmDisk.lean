/-
 SpG: SpBmDo,SpBmWrite,SpBmCut,SpBmFile.
-/
import Derived.Test.YtaphcmcimoloiaaGreatDoorSpF
namespace Go.Proofs.YtaphcmcimoloiaaGreatDoor.Sp
open Go Txt
/-- A file that is open: its side, what it is, the changes that were made. -/
structure BSt where
 S:Side
 F:File
 made:List Int
def BSt.chg (t:BSt) (j off:Int) (x:ByteArray) (ahead:List Int):BSt:=⟨t.S.change j off x ahead,t.F,t.made ++ [t.S.changeN j off x ahead]⟩
def BSt.took (t:BSt) (g:Geom) (ks:List Int):BSt:=⟨(t.S.block g ks).1,t.F,t.made ++ [(t.S.block g ks).2.2.1]⟩
def BSt.newN (t:BSt) (g:Geom) (ks:List Int):Int:=(t.S.block g ks).2.1
def BSt.fresh (t:BSt) (g:Geom) (ks:List Int) (x:ByteArray):BSt:=(t.took g ks).chg (t.newN g ks) 0 x [(t.S.block g ks).2.2.1]
def BSt.newA (t:BSt) (g:Geom) (ks:List Int) (x:ByteArray):List Int:=[(t.S.block g ks).2.2.1,(t.took g ks).S.changeN (t.newN g ks) 0 x [(t.S.block g ks).2.2.1]]
def BSt.name (t:BSt) (g:Geom) (i:Int) (q:Nat) (b:Int) (ahead:List Int):BSt:={ (t.chg (q25z g i t.F q) (q27z q) (putB 2 b) ahead) with F:={ t.F with blocks:=t.F.blocks.set q b } }
def BSt.more (t:BSt) (g:Geom) (i:Int) (m:Int) (ahead:List Int):BSt:={ (t.chg (q5z g i) 24 (putB 2 m) ahead) with F:={ t.F with more:=m } }
def BSt.listed (t:BSt) (g:Geom) (i:Int) (ks:List Int) (q:Nat):BSt:=if 8≤q∧t.F.more=0 then(t.fresh g ks blank).more g i (t.newN g ks) (t.newA g ks blank) else t
def allB (off:Nat) (x:ByteArray):ByteArray:=ofL (q7z (zeros 64) off x.data.toList)
def BSt.named (t:BSt) (g:Geom) (i:Int) (ks:List Int) (q off:Nat) (x:ByteArray):BSt:=(t.fresh g ks (allB off x)).name g i q (t.newN g ks) (t.newA g ks (allB off x))
def BSt.put (t:BSt) (g:Geom) (i:Int) (ks:List Int) (q off:Nat) (x:ByteArray):BSt:=
 if t.F.blocks.getD q 0≠0 then t.chg (t.F.blocks.getD q 0) off x [] else(t.listed g i ks q).named g i ks q off x
theorem nums_room {S:Side} {g:Geom} {b:Bool} {no:Int→Int→Int} {X:List Int} (hT:Taken S g b no X) (hn:NoInj g b no) {ks:List Int} (hk:∀k∈ks,0≤k∧k<g.groups) (hd:ks.Nodup)
 (h:X.length<ks.length*(manyG g b).toNat):∃k∈ks,∃p:Nat,(p:Int)<manyG g b∧no k p∉X:=by
 refine Classical.byContradiction fun hno=>?_
 have h1:=filter_mem_count hT.nodup (numsK g b no ks) (numsK_nodup hn hk hd) (fun x hx=>by
  obtain⟨k,hkk,hx⟩:=List.mem_flatMap.1 hx
  obtain⟨p,hp,rfl⟩:=List.mem_map.1 hx
  have hp:=List.mem_range.1 hp
  exact Classical.byContradiction fun hn=>hno ⟨k,hkk,p,by omega,hn⟩)
 rw[numsK_length] at h1
 have:=List.length_filter_le (fun x=>decide (x∈numsK g b no ks)) X
 omega
def sameFile (F F':File):Prop:=F'.kind=F.kind∧F'.links=F.links∧F'.size=F.size∧F'.parent=F.parent∧F'.gen=F.gen
theorem q148z {off:Nat} {x:ByteArray} (h:off+x.size≤64):(allB off x).size=64:=by
 unfold allB
 have hx:x.data.toList.length=x.size:=rfl
 rw[Lib.size_eq,q11z,q51z (by rw[zeros_length,hx]; exact h),zeros_length]
section
variable {g:Geom} {i:Int} {X Y:List Int} {r:Nat} {t:BSt}
theorem bm_named (h:Bm g i t.S t.F X Y r) (hg:g.ok) (h1:1≤i) (h2:i≤g.groups*g.inodes) (hr:r+4<1024) {ks:List Int} (hk:∀k∈ks,0≤k∧k<g.groups) (hd:ks.Nodup) (hroom:Y.length<ks.length*g.blocks.toNat) {q off:Nat} (hq:q<40) (hm:8≤q→t.F.more≠0) (h0:t.F.blocks.getD q 0=0) {x:ByteArray} (hx:off+x.size≤64) :
 ∃N,N≠0∧Bm g i (t.named g i ks q off x).S { t.F with blocks:=t.F.blocks.set q N } X (Y ++ [N]) (r+3)∧(t.named g i ks q off x).F = { t.F with blocks:=t.F.blocks.set q N } ∧
  ({ t.F with blocks:=t.F.blocks.set q N }:File).img (t.named g i ks q off x).S.read=q7z (t.F.img t.S.read) (64*q+off) x.data.toList:=by
 obtain⟨N,S1,e1,k1,l1,n1,n0,c1,cn1,b1,i1,r1,l2⟩:=h.fresh hg (by omega) hk (nums_room h.held.tb (q102z hg) hk hd hroom) (q148z hx)
 have hp:=b1.point hg h1 h2 (by omega) hq (b:=N) (Or.inr ⟨List.mem_append_right _ (List.mem_singleton.2 rfl),fun hm=>n1 (h.own N hm)⟩) hm (ahead:=[(t.S.deps.last:Int)+1,(t.S.deps.last:Int)+2]) (fun n hn=>by
  rw[l2]
  simp only[List.mem_cons,List.not_mem_nil,or_false] at hn
  omega)
 have et:(t.named g i ks q off x).S=(S1.change N 0 (allB off x) [(t.S.deps.last:Int)+1]).change (q25z g i t.F q) (q27z q) (putB 2 N) [(t.S.deps.last:Int)+1,(t.S.deps.last:Int)+2]∧(t.named g i ks q off x).F = { t.F with blocks:=t.F.blocks.set q N }:=by
  unfold BSt.named BSt.name BSt.chg BSt.fresh BSt.newA BSt.newN BSt.took BSt.chg
  dsimp only
  rw[e1]
  dsimp only
  rw[cn1]
  exact⟨rfl,rfl⟩
 rw[et.1,et.2]
 have hq2:q<t.F.blocks.length:=by rw[h.file.len]; exact hq
 have hb0:t.F.blocks[q]=0:=by
  rw[List.getD_eq_getElem?_getD,List.getElem?_eq_getElem hq2] at h0
  exact h0
 refine⟨N,n0,hp.2.1,rfl,?_⟩
 rw[hp.2.2]
 have hs:secL (S1.change N 0 (allB off x) [(t.S.deps.last:Int)+1]).read N=q7z (zeros 64) off x.data.toList:=by
  unfold secL
  rw[if_neg n0,r1]
  unfold allB
  rw[q11z]
 rw[hs,i1]
 exact img_new h.file (h.sized hg) hq hb0 hx
end
def q97z (t:BSt):Prop:=∀n∈t.made,1≤n∧n≤(t.S.deps.last:Int)
theorem made_chg {t:BSt} (h:q97z t) {j off:Int} {x:ByteArray} {ahead:List Int} (hc:t.S.changeC j off x ahead=0):q97z (t.chg j off x ahead):=fun n hn=>by
 have hl:=Side.change_last hc
 have hn:n∈t.made ++ [t.S.changeN j off x ahead]:=hn
 show 1≤n∧n≤((t.S.change j off x ahead).deps.last:Int)
 rw[hl.1]
 rcases List.mem_append.1 hn with hn | hn
 ·have:=h n hn; omega
 ·rw[List.mem_singleton,hl.2] at hn
  omega
theorem made_file {t:BSt} (h:q97z t) (F:File):q97z { t with F:=F }:=h
section
variable {g:Geom} {i:Int} {X Y:List Int} {r:Nat} {t:BSt}
theorem made_fresh (h:Bm g i t.S t.F X Y r) (hm:q97z t) (hg:g.ok) (hr:r+1<1024) {ks:List Int} (hk:∀k∈ks,0≤k∧k<g.groups) (hroom:∃k∈ks,∃p:Nat,(p:Int)<g.blocks∧q22z g k p∉Y) {x:ByteArray} (hx:x.size=64):q97z (t.fresh g ks x):=by
 obtain⟨N,S1,e1,k1,l1,n1,n0,c1,cn1,b1,i1,r1,l2⟩:=h.fresh hg hr hk hroom hx
 have e2:t.took g ks=⟨S1,t.F,t.made ++ [(t.S.deps.last:Int)+1]⟩:=by unfold BSt.took; rw[e1]
 have e3:t.newN g ks=N:=by unfold BSt.newN; rw[e1]
 unfold BSt.fresh
 rw[e1,e2,e3]
 refine made_chg (t:=⟨S1,t.F,t.made ++ [(t.S.deps.last:Int)+1]⟩) (fun n hn=>?_) c1
 have hn:n∈t.made ++ [(t.S.deps.last:Int)+1]:=hn
 show 1≤n∧n≤(S1.deps.last:Int)
 rw[l1]
 rcases List.mem_append.1 hn with hn | hn
 ·have:=hm n hn; omega
 ·rw[List.mem_singleton] at hn
  omega
theorem made_named (h:Bm g i t.S t.F X Y r) (hm:q97z t) (hg:g.ok) (h1:1≤i) (h2:i≤g.groups*g.inodes) (hr:r+4<1024) {ks:List Int} (hk:∀k∈ks,0≤k∧k<g.groups) (hd:ks.Nodup) (hroom:Y.length<ks.length*g.blocks.toNat) {q off:Nat} (hq:q<40) (hmo:8≤q→t.F.more≠0) {x:ByteArray} (hx:off+x.size≤64):q97z (t.named g i ks q off x):=by
 have hrm:=nums_room h.held.tb (q102z hg) hk hd hroom
 have hf:=made_fresh h hm hg (by omega) hk hrm (q148z hx)
 obtain⟨N,S1,e1,k1,l1,n1,n0,c1,cn1,b1,i1,r1,l2⟩:=h.fresh hg (by omega) hk hrm (q148z hx)
 have hp:=b1.point hg h1 h2 (by omega) hq (b:=N) (Or.inr ⟨List.mem_append_right _ (List.mem_singleton.2 rfl),fun hm=>n1 (h.own N hm)⟩) hmo (ahead:=[(t.S.deps.last:Int)+1,(t.S.deps.last:Int)+2]) (fun n hn=>by
  rw[l2]
  simp only[List.mem_cons,List.not_mem_nil,or_false] at hn
  omega)
 have eS:(t.fresh g ks (allB off x)).S=S1.change N 0 (allB off x) [(t.S.deps.last:Int)+1]:=by unfold BSt.fresh BSt.chg BSt.newN BSt.took; dsimp only; rw[e1]
 have eF:(t.fresh g ks (allB off x)).F=t.F:=rfl
 have eN:t.newN g ks=N:=by unfold BSt.newN; rw[e1]
 have eA:t.newA g ks (allB off x)=[(t.S.deps.last:Int)+1,(t.S.deps.last:Int)+2]:=by unfold BSt.newA BSt.newN BSt.took; dsimp only; rw[e1]; dsimp only; rw[cn1]
 unfold BSt.named BSt.name
 exact made_file (made_chg hf (by rw[eS,eF,eN,eA]; exact hp.1)) _
def BSt.puts (g:Geom) (i:Int) (ks:List Int):Nat→BSt→Nat→List UInt8→BSt
 | 0,t,_,_=>t
 | f+1,t,at_,d=>if d=[] then t else BSt.puts g i ks f (t.put g i ks (at_ / 64) (at_ % 64) (ofL (d.take (64-at_ % 64)))) (at_+min d.length (64-at_ % 64)) (d.drop (64-at_ % 64))
end
section
variable {V:Int→ByteArray} {j:Int} {F:File}
end
section
variable {g:Geom} {i:Int} {X Y:List Int} {r:Nat} {t:BSt} {first:Int}
end
def BSt.sized (t:BSt) (g:Geom) (i:Int) (z:Int) (ahead:List Int):BSt:={ (t.chg (q5z g i) 2 (putB 2 z) ahead) with F:={ t.F with size:=z } }
def BSt.write (t:BSt) (g:Geom) (i:Int) (ks:List Int) (f off:Nat) (d:List UInt8):BSt:=
 if t.F.size<((off+d.length:Nat):Int) then(BSt.puts g i ks f t off d).sized g i ((off+d.length:Nat):Int) (BSt.puts g i ks f t off d).made else BSt.puts g i ks f t off d
section
variable {g:Geom} {i:Int} {X Y:List Int} {r:Nat} {t:BSt} {first:Int}
theorem bm_sized (h:Bm g i t.S t.F X Y r) (hm:q97z t) (hg:g.ok) (h1:1≤i) (h2:i≤g.groups*g.inodes) (hr:r<1024) (z:Int) {ahead:List Int} (ha:∀n∈ahead,1≤n∧n≤(t.S.deps.last:Int)) :
 Bm g i (t.sized g i z ahead).S (t.sized g i z ahead).F X Y (r+1)∧q97z (t.sized g i z ahead)∧(t.sized g i z ahead).F.img (t.sized g i z ahead).S.read=t.F.img t.S.read∧(t.sized g i z ahead).S.deps.last=t.S.deps.last+1∧t.S.changeC (q5z g i) 2 (putB 2 z) ahead=0:=by
 have hs:=h.setSize hg h1 h2 hr z ha
 have hl:=Side.change_last hs.1
 exact⟨hs.2.1,made_file (made_chg hm hs.1) _,hs.2.2,hl.1,hs.1⟩
end
def One (S S':Side):Prop:=S' = S∨∃i off x ahead,S' = S.change i off x ahead
theorem One.ok {S S':Side} (h:One S S') (hS:S.Ok) (hl:S.deps.last<1000000000):S'.Ok∧S.deps.last≤S'.deps.last∧S'.deps.last≤S.deps.last+1:=by
 rcases h with rfl | ⟨i,off,x,ahead,rfl⟩
 ·exact⟨hS,Nat.le_refl _,Nat.le_succ _⟩
 ·by_cases h0:S.changeC i off x ahead=0
  ·have:=(Side.change_last h0).1
   exact⟨Side.change_ok hS hl,by omega,by omega⟩
  ·have e:S.change i off x ahead=S:=if_neg h0
   rw[e]
   exact⟨hS,Nat.le_refl _,Nat.le_succ _⟩
theorem takeL_one (S:Side) (g:Geom) (b:Bool):∀ks:List Int,One S (S.takeL g b ks).1
 | []=>Or.inl rfl
 | k :: r=>by
   unfold Side.takeL
   split
   ·exact Or.inl rfl
   ·split
    ·exact takeL_one S g b r
    ·exact Or.inr ⟨_,_,_,_,rfl⟩
theorem take_one (S:Side) (g:Geom) (b:Bool) (ks:List Int):One S (S.take g b ks).1:=by
 unfold Side.take
 split
 ·exact takeL_one S g b ks
 ·exact Or.inl rfl
theorem block_one (S:Side) (g:Geom) (ks:List Int):One S (S.block g ks).1:=by
 unfold Side.block
 have h:=take_one S g true ks
 split <;> exact h
theorem change_one (S:Side) (i off:Int) (x:ByteArray) (ahead:List Int):One S (S.change i off x ahead):=Or.inr ⟨_,_,_,_,rfl⟩
def thenC (a b:Int):Int:=if a=0 then b else a
theorem q33z {a b:Int} (h:a=0):thenC a b=b:=if_pos h
theorem q106z {a b:Int} (h:a≠0):thenC a b=a:=if_neg h
section
variable (t:BSt) (g:Geom) (i:Int) (ks:List Int)
def BSt.freshC (x:ByteArray):Int:=thenC (t.S.block g ks).2.2.2 ((t.took g ks).S.changeC (t.newN g ks) 0 x [(t.S.block g ks).2.2.1])
def BSt.nameC (q:Nat) (b:Int) (ahead:List Int):Int:=t.S.changeC (q25z g i t.F q) (q27z q) (putB 2 b) ahead
def BSt.moreC (m:Int) (ahead:List Int):Int:=t.S.changeC (q5z g i) 24 (putB 2 m) ahead
def BSt.listedC (q:Nat):Int:=if 8≤q∧t.F.more=0 then thenC (t.freshC g ks blank) ((t.fresh g ks blank).moreC g i (t.newN g ks) (t.newA g ks blank)) else 0
def BSt.namedC (q off:Nat) (x:ByteArray):Int:=thenC (t.freshC g ks (allB off x)) ((t.fresh g ks (allB off x)).nameC g i q (t.newN g ks) (t.newA g ks (allB off x)))
def BSt.putC (q off:Nat) (x:ByteArray):Int:=
 if t.F.blocks.getD q 0≠0 then t.S.changeC (t.F.blocks.getD q 0) off x [] else thenC (t.listedC g i ks q) ((t.listed g i ks q).namedC g i ks q off x)
def BSt.sizedC (z:Int) (ahead:List Int):Int:=t.S.changeC (q5z g i) 2 (putB 2 z) ahead
end
def BSt.putsC (g:Geom) (i:Int) (ks:List Int):Nat→BSt→Nat→List UInt8→Int
 | 0,_,_,_=>0
 | f+1,t,at_,d=>if d=[] then 0 else thenC (t.putC g i ks (at_ / 64) (at_ % 64) (ofL (d.take (64-at_ % 64))))
    (BSt.putsC g i ks f (t.put g i ks (at_ / 64) (at_ % 64) (ofL (d.take (64-at_ % 64)))) (at_+min d.length (64-at_ % 64)) (d.drop (64-at_ % 64)))
def BSt.writeC (t:BSt) (g:Geom) (i:Int) (ks:List Int) (f off:Nat) (d:List UInt8):Int:=
 thenC (BSt.putsC g i ks f t off d) (if t.F.size<((off+d.length:Nat):Int) then(BSt.puts g i ks f t off d).sizedC g i ((off+d.length:Nat):Int) (BSt.puts g i ks f t off d).made else 0)
section
variable (t:BSt) (g:Geom) (i first:Int)
end
section
variable {g:Geom} {i:Int} {X Y:List Int} {r:Nat} {t:BSt}
theorem Bm.freshC (h:Bm g i t.S t.F X Y r) (hg:g.ok) (hr:r+1<1024) {ks:List Int} (hk:∀k∈ks,0≤k∧k<g.groups) (hroom:∃k∈ks,∃p:Nat,(p:Int)<g.blocks∧q22z g k p∉Y) {x:ByteArray} (hx:x.size=64):t.freshC g ks x=0:=by
 obtain⟨N,S1,e1,k1,l1,n1,n0,c1,cn1,b1,i1,r1,l2⟩:=h.fresh hg hr hk hroom hx
 unfold BSt.freshC BSt.took BSt.newN
 rw[e1]
 dsimp only
 rw[q33z rfl,c1]
theorem bm_namedC (h:Bm g i t.S t.F X Y r) (hg:g.ok) (h1:1≤i) (h2:i≤g.groups*g.inodes) (hr:r+4<1024) {ks:List Int} (hk:∀k∈ks,0≤k∧k<g.groups) (hd:ks.Nodup) (hroom:Y.length<ks.length*g.blocks.toNat) {q off:Nat} (hq:q<40) (hmo:8≤q→t.F.more≠0) {x:ByteArray} (hx:off+x.size≤64):t.namedC g i ks q off x=0:=by
 have hrm:=nums_room h.held.tb (q102z hg) hk hd hroom
 unfold BSt.namedC
 rw[q33z (h.freshC hg (by omega) hk hrm (q148z hx))]
 obtain⟨N,S1,e1,k1,l1,n1,n0,c1,cn1,b1,i1,r1,l2⟩:=h.fresh hg (by omega) hk hrm (q148z hx)
 have hp:=b1.point hg h1 h2 (by omega) hq (b:=N) (Or.inr ⟨List.mem_append_right _ (List.mem_singleton.2 rfl),fun hm=>n1 (h.own N hm)⟩) hmo (ahead:=[(t.S.deps.last:Int)+1,(t.S.deps.last:Int)+2]) (fun n hn=>by
  rw[l2]
  simp only[List.mem_cons,List.not_mem_nil,or_false] at hn
  omega)
 have eS:(t.fresh g ks (allB off x)).S=S1.change N 0 (allB off x) [(t.S.deps.last:Int)+1]:=by unfold BSt.fresh BSt.chg BSt.newN BSt.took; dsimp only; rw[e1]
 have eF:(t.fresh g ks (allB off x)).F=t.F:=rfl
 have eN:t.newN g ks=N:=by unfold BSt.newN; rw[e1]
 have eA:t.newA g ks (allB off x)=[(t.S.deps.last:Int)+1,(t.S.deps.last:Int)+2]:=by unfold BSt.newA BSt.newN BSt.took; dsimp only; rw[e1]; dsimp only; rw[cn1]
 unfold BSt.nameC
 rw[eS,eF,eN,eA]
 exact hp.1
variable {first:Int}
end
theorem chg_len (t:BSt) (j off:Int) (x:ByteArray) (ahead:List Int):(t.chg j off x ahead).made.length=t.made.length+1:=by
 show(t.made ++ [_]).length=_
 rw[List.length_append,List.length_singleton]
theorem q83z (t:BSt) (g:Geom) (ks:List Int) (x:ByteArray):(t.fresh g ks x).made.length=t.made.length+2:=by
 show((t.made ++ [_]) ++ [_]).length=_
 simp only[List.length_append,List.length_singleton]
theorem listed_len (t:BSt) (g:Geom) (i:Int) (ks:List Int) (q:Nat):(t.listed g i ks q).made.length≤t.made.length+3:=by
 unfold BSt.listed
 split
 ·show((t.fresh g ks blank).made ++ [_]).length≤_
  rw[List.length_append,q83z,List.length_singleton]
  omega
 ·omega
theorem named_len (t:BSt) (g:Geom) (i:Int) (ks:List Int) (q off:Nat) (x:ByteArray):(t.named g i ks q off x).made.length=t.made.length+3:=by
 show((t.fresh g ks (allB off x)).made ++ [_]).length=_
 rw[List.length_append,q83z,List.length_singleton]
theorem put_len (t:BSt) (g:Geom) (i:Int) (ks:List Int) (q off:Nat) (x:ByteArray):(t.put g i ks q off x).made.length≤t.made.length+6:=by
 unfold BSt.put
 split
 ·rw[chg_len]; omega
 ·rw[named_len]
  have:=listed_len t g i ks q
  omega
def BlkOk (t:BSt):Prop:=t.F.blocks.length=40∧∀b∈t.F.blocks,0≤b
theorem BlkOk.getD {t:BSt} (h:BlkOk t) (q:Nat):0≤t.F.blocks.getD q 0:=by
 rw[List.getD_eq_getElem?_getD]
 cases hq:t.F.blocks[q]? with
 | none=>exact Int.le_refl _
 | some b=>exact h.2 b (List.mem_of_getElem? hq)
theorem BlkOk.set {t:BSt} (h:BlkOk t) {q:Nat} {b:Int} (hb:0≤b) {F':File} (hF:F'.blocks=t.F.blocks.set q b) (S':Side) (md:List Int):BlkOk ⟨S',F',md⟩:=by
 refine⟨by show F'.blocks.length=40; rw[hF,List.length_set]; exact h.1,fun x hx=>?_⟩
 have hx:x∈F'.blocks:=hx
 rw[hF] at hx
 rcases List.mem_or_eq_of_mem_set hx with hx | rfl
 ·exact h.2 x hx
 ·exact hb
theorem listed_blocks (t:BSt) (g:Geom) (i:Int) (ks:List Int) (q:Nat):(t.listed g i ks q).F.blocks=t.F.blocks:=by
 unfold BSt.listed
 split <;> rfl
theorem listed_same (t:BSt) (g:Geom) (i:Int) (ks:List Int) (q:Nat):sameFile t.F (t.listed g i ks q).F:=by
 unfold BSt.listed
 split <;> exact⟨rfl,rfl,rfl,rfl,rfl⟩
theorem put_same (t:BSt) (g:Geom) (i:Int) (ks:List Int) (q off:Nat) (x:ByteArray):sameFile t.F (t.put g i ks q off x).F:=by
 unfold BSt.put
 split
 ·exact⟨rfl,rfl,rfl,rfl,rfl⟩
 ·exact listed_same t g i ks q
theorem thenC_eq {a b:Int} (h:thenC a b=0):a=0∧b=0:=by
 unfold thenC at h
 split at h
 ·exact⟨by assumption,h⟩
 ·exact absurd h (by assumption)
theorem put_blk {t:BSt} {g:Geom} {i:Int} {ks:List Int} {q off:Nat} {x:ByteArray} (h:BlkOk t) (hn:∀t:BSt,∀x,t.freshC g ks x=0→0≤t.newN g ks) (hc:t.putC g i ks q off x=0):BlkOk (t.put g i ks q off x):=by
 unfold BSt.putC at hc
 unfold BSt.put
 split
 ·exact h
 ·rename_i h0
  rw[if_neg h0] at hc
  have hc2:=(thenC_eq hc).2
  unfold BSt.namedC at hc2
  have hN:=hn _ _ (thenC_eq hc2).1
  refine BlkOk.set h (q:=q) hN ?_ _ _
  show(t.listed g i ks q).F.blocks.set q _=_
  rw[listed_blocks]
theorem puts_step {g:Geom} {i:Int} {ks:List Int} {f:Nat} {t:BSt} {a:Nat} {d:List UInt8} (hd:d≠[]) :
 BSt.puts g i ks (f+1) t a d=BSt.puts g i ks f (t.put g i ks (a / 64) (a % 64) (ofL (d.take (64-a % 64)))) (a+min d.length (64-a % 64)) (d.drop (64-a % 64)) ∧
 BSt.putsC g i ks (f+1) t a d=thenC (t.putC g i ks (a / 64) (a % 64) (ofL (d.take (64-a % 64)))) (BSt.putsC g i ks f (t.put g i ks (a / 64) (a % 64) (ofL (d.take (64-a % 64)))) (a+min d.length (64-a % 64)) (d.drop (64-a % 64))):=
 ⟨if_neg hd,if_neg hd⟩
theorem puts_nil (g:Geom) (i:Int) (ks:List Int) (f:Nat) (t:BSt) (a:Nat):BSt.puts g i ks f t a []=t∧BSt.putsC g i ks f t a []=0:=by
 cases f <;> exact⟨rfl,rfl⟩
/-- Where a Write stands: so much is left, from a state on; what it comes to is what it was to come to. -/
structure PutsAt (g:Geom) (i:Int) (ks:List Int) (f0:Nat) (t0:BSt) (off:Nat) (d0:List UInt8) (f:Nat) (t:BSt) (a:Nat) (d:List UInt8):Prop where
 eq:BSt.puts g i ks f0 t0 off d0=BSt.puts g i ks f t a d
 code:BSt.putsC g i ks f0 t0 off d0=BSt.putsC g i ks f t a d
 blk:BlkOk t
 same:sameFile t0.F t.F
 at_:off≤a∧d=d0.drop (a-off)∧a+d.length=off+d0.length
 fuel:d=[]∨a % 64+d.length≤64*f
 made:t.made.length+6*f≤t0.made.length+6*f0
section
variable {g:Geom} {i:Int} {ks:List Int} {f0 f:Nat} {t0 t:BSt} {off a:Nat} {d0 d:List UInt8}
theorem PutsAt.start (hb:BlkOk t0) (hf:off % 64+d0.length≤64*f0):PutsAt g i ks f0 t0 off d0 f0 t0 off d0:=
 ⟨rfl,rfl,hb,⟨rfl,rfl,rfl,rfl,rfl⟩,⟨Nat.le_refl _,by rw[Nat.sub_self]; rfl,rfl⟩,Or.inr hf,Nat.le_refl _⟩
theorem PutsAt.next (h:PutsAt g i ks f0 t0 off d0 (f+1) t a d) (hd:d≠[]) (hn:∀t:BSt,∀x,t.freshC g ks x=0→0≤t.newN g ks) (hc:t.putC g i ks (a / 64) (a % 64) (ofL (d.take (64-a % 64)))=0) :
 PutsAt g i ks f0 t0 off d0 f (t.put g i ks (a / 64) (a % 64) (ofL (d.take (64-a % 64)))) (a+min d.length (64-a % 64)) (d.drop (64-a % 64)):=by
 obtain⟨s1,s2⟩:=puts_step (g:=g) (i:=i) (ks:=ks) (f:=f) (t:=t) (a:=a) hd
 have hl:=put_len t g i ks (a / 64) (a % 64) (ofL (d.take (64-a % 64)))
 have hm:=h.made
 have hps:=put_same t g i ks (a / 64) (a % 64) (ofL (d.take (64-a % 64)))
 have hs:=h.same
 obtain⟨a1,a2,a3⟩:=h.at_
 refine⟨h.eq.trans s1,(h.code.trans s2).trans (q33z hc),put_blk h.blk hn hc,⟨hps.1.trans hs.1,hps.2.1.trans hs.2.1,hps.2.2.1.trans hs.2.2.1,hps.2.2.2.1.trans hs.2.2.2.1,hps.2.2.2.2.trans hs.2.2.2.2⟩,⟨by omega,?_,by rw[List.length_drop]; omega⟩,?_,by omega⟩
 ·by_cases hlt:d.length≤64-a % 64
  ·rw[List.drop_of_length_le hlt,Nat.min_eq_left hlt,List.drop_of_length_le (by omega)]
  ·rw[Nat.min_eq_right (by omega),a2,List.drop_drop]
   congr 1
   omega
 ·by_cases hlt:d.length≤64-a % 64
  ·exact Or.inl (List.drop_of_length_le hlt)
  ·refine Or.inr ?_
   rw[List.length_drop,Nat.min_eq_right (by omega)]
   have hf:=h.fuel.resolve_left hd
   have:(a+(64-a % 64)) % 64=0:=by omega
   omega
theorem PutsAt.stop (h:PutsAt g i ks f0 t0 off d0 (f+1) t a d) (hd:d≠[]) (hc:t.putC g i ks (a / 64) (a % 64) (ofL (d.take (64-a % 64)))≠0):BSt.putsC g i ks f0 t0 off d0=t.putC g i ks (a / 64) (a % 64) (ofL (d.take (64-a % 64))):=
 (h.code.trans (puts_step hd).2).trans (q106z hc)
theorem PutsAt.done (h:PutsAt g i ks f0 t0 off d0 f t a []):BSt.puts g i ks f0 t0 off d0=t∧BSt.putsC g i ks f0 t0 off d0=0:=
 ⟨h.eq.trans (puts_nil ..).1,h.code.trans (puts_nil ..).2⟩
theorem PutsAt.some (h:PutsAt g i ks f0 t0 off d0 f t a d) (hd:d≠[]):∃k,f=k+1:=by
 have:=h.fuel.resolve_left hd
 have:=List.length_pos_iff.2 hd
 exact⟨f-1,by omega⟩
end
section
variable {g:Geom} {i first:Int} {u q:Nat} {t0 t:BSt}
end
theorem takeL_disk (g:Geom) (b:Bool) (S:Side):∀ks:List Int,(S.takeL g b ks).1.disk=S.disk
 | []=>rfl
 | k :: r=>by
   unfold Side.takeL
   split
   ·rfl
   ·split
    ·exact takeL_disk g b S r
    ·exact Side.change_disk ..
theorem block_disk (g:Geom) (S:Side) (ks:List Int):(S.block g ks).1.disk=S.disk:=by
 have h:(S.take g true ks).1.disk=S.disk:=by
  unfold Side.take
  split
  ·exact takeL_disk ..
  ·rfl
 unfold Side.block
 split <;> exact h
section
variable (t:BSt) (g:Geom) (i:Int) (ks:List Int)
theorem q164z (j off:Int) (x:ByteArray) (ahead:List Int):(t.chg j off x ahead).S.disk=t.S.disk:=Side.change_disk ..
theorem fresh_disk (x:ByteArray):(t.fresh g ks x).S.disk=t.S.disk:=(q164z ..).trans (block_disk ..)
theorem listed_disk (q:Nat):(t.listed g i ks q).S.disk=t.S.disk:=by
 unfold BSt.listed
 split
 ·exact(q164z (t.fresh g ks blank) ..).trans (fresh_disk ..)
 ·rfl
theorem put_disk (q off:Nat) (x:ByteArray):(t.put g i ks q off x).S.disk=t.S.disk:=by
 unfold BSt.put
 split
 ·exact q164z ..
 ·exact((q164z ((t.listed g i ks q).fresh g ks (allB off x)) ..).trans (fresh_disk ..)).trans (listed_disk ..)
theorem puts_disk:∀(f:Nat) (t:BSt) (at_:Nat) (d:List UInt8),(BSt.puts g i ks f t at_ d).S.disk=t.S.disk
 | 0,_,_,_=>rfl
 | f+1,t,at_,d=>by
   unfold BSt.puts
   split
   ·rfl
   ·exact(puts_disk f _ _ _).trans (put_disk ..)
theorem write_disk (f off:Nat) (d:List UInt8):(t.write g i ks f off d).S.disk=t.S.disk:=by
 unfold BSt.write
 split
 ·exact(q164z (BSt.puts g i ks f t off d) ..).trans (puts_disk ..)
 ·exact puts_disk ..
end
end Go.Proofs.YtaphcmcimoloiaaGreatDoor.Sp
