import Derived.Test.YtmljdnlmpiklgaaGreatDoorTk
import Derived.Test.YtmljdnlmpiklgaaGreatDoorCutAt
import Derived.Lib.ItoaNum
import Derived.Laws.BitsAllLaws
import Derived.IntWalk
namespace Go.Proofs.YtmljdnlmpiklgaaGreatDoor.Sp
open Go Txt
/-- A geometry: groups, of each so many inodes and blocks. -/
structure Geom where
 groups:Int
 inodes:Int
 blocks:Int
def Geom.ok (g:Geom):Prop:=1≤g.groups∧g.groups≤4∧1≤g.inodes∧g.inodes≤32∧1≤g.blocks∧g.blocks≤64
instance (g:Geom):Decidable g.ok:=by unfold Geom.ok; infer_instance
def Geom.check (g:Geom):Int:=if g.ok then 0 else 4
def Geom.many (g:Geom):Int:=if g.ok then g.groups*g.inodes else 0
def Geom.regions (g:Geom):Int:=if g.ok then g.groups+g.groups*g.inodes else 0
def Geom.long (g:Geom):Int:=2+g.inodes+g.blocks
def Geom.first (g:Geom) (k:Int):Int:=2+(g.regions+15) / 16+k*g.long
def Geom.size (g:Geom):Int:=if g.ok then g.first g.groups else 0
def Geom.within (g:Geom) (n below:Int):Int:=if g.ok then(if n<0∨below≤n then 1 else 0) else 4
def Geom.kind (g:Geom) (s:Int):Int×Int:=
 if s<g.first 0 then(if s=0∨s=1 then(s,0) else(2,s-2))
 else if 2+g.inodes≤(s-g.first 0) % g.long then(6,(s-g.first 0) / g.long*g.blocks+(s-g.first 0) % g.long-2-g.inodes)
 else if 2≤(s-g.first 0) % g.long then(5,(s-g.first 0) / g.long*g.inodes+(s-g.first 0) % g.long-2+1)
 else(3+(s-g.first 0) % g.long,(s-g.first 0) / g.long)
def Geom.what (g:Geom) (s:Int):Int×Int×Int:=
 if g.within s g.size=0 then((g.kind s).1,(g.kind s).2,0) else(0,0,g.within s g.size)
theorem Geom.check_ok {g:Geom} (h:g.ok):g.check=0:=if_pos h
theorem Geom.check_no {g:Geom} (h:¬g.ok):g.check=4:=if_neg h
theorem Geom.check_zero (g:Geom):g.check=0↔g.ok:=by
 unfold Geom.check
 split <;> simp_all
section
variable {g:Geom} (h:g.ok)
include h
theorem Geom.many_ok:g.many=g.groups*g.inodes:=if_pos h
theorem Geom.regions_ok:g.regions=g.groups+g.groups*g.inodes:=if_pos h
theorem Geom.size_ok:g.size=g.first g.groups:=if_pos h
theorem Geom.prod:1≤g.groups*g.inodes∧g.groups*g.inodes≤128:=by
 obtain⟨h1,h2,h3,h4,h5,h6⟩:=h
 have e:g.groups=1∨g.groups=2∨g.groups=3∨g.groups=4:=by omega
 rcases e with e | e | e | e <;> rw[e] <;> omega
theorem Geom.regions_bd:2≤g.regions∧g.regions≤132:=by
 rw[Geom.regions_ok h]
 have:=Geom.prod h
 obtain⟨h1,h2,_⟩:=h
 omega
theorem Geom.long_bd:4≤g.long∧g.long≤98:=by
 obtain⟨h1,h2,h3,h4,h5,h6⟩:=h
 unfold Geom.long
 omega
theorem Geom.first_bd {k:Int} (h0:0≤k) (h4:k≤4):3≤g.first k∧g.first k≤403:=by
 have h1:=Geom.regions_bd h
 have h2:=Geom.long_bd h
 unfold Geom.first
 have e:k=0∨k=1∨k=2∨k=3∨k=4:=by omega
 rcases e with e | e | e | e | e <;> rw[e] <;> omega
theorem Geom.size_bd:7≤g.size∧g.size≤403:=by
 rw[Geom.size_ok h]
 have h1:=Geom.regions_bd h
 have h2:=Geom.long_bd h
 obtain⟨g1,g2,_⟩:=h
 unfold Geom.first
 have e:g.groups=1∨g.groups=2∨g.groups=3∨g.groups=4:=by omega
 rcases e with e | e | e | e <;> rw[e] <;> omega
end
def numL:List UInt8→Nat
 | []=>0
 | b :: r=>b.toNat+256*numL r
def textL:Nat→Nat→List UInt8
 | 0,_=>[]
 | k+1,n=>UInt8.ofNat (n % 256) :: textL k (n / 256)
def wide (b:Int):Prop:=b=1∨b=2∨b=4
instance (b:Int):Decidable (wide b):=by unfold wide; infer_instance
def inside (off b:Int):Prop:=0≤off∧0<b∧b≤64∧off≤64-b
instance (off b:Int):Decidable (inside off b):=by unfold inside; infer_instance
def zeros (n:Nat):List UInt8:=List.replicate n 0
def blank:ByteArray:=ofL (zeros 64)
def numAt (s:ByteArray) (off b:Nat):Nat:=numL ((s.data.toList.drop off).take b)
def getC (s:ByteArray) (off b:Int):Int:=if s.size≠64 then 4 else if wide b∧inside off b then 0 else 1
def getN (s:ByteArray) (off b:Int):Int:=if getC s off b=0 then numAt s off.toNat b.toNat else 0
def putB (b n:Int):ByteArray:=ofL (textL b.toNat n.toNat)
def padL (l:List UInt8):List UInt8:=l ++ zeros (64-l.length)
theorem textL_length:∀k n,(textL k n).length=k
 | 0,_=>rfl
 | k+1,n=>by
   unfold textL
   rw[List.length_cons,textL_length k]
theorem numL_lt:∀l:List UInt8,numL l<256 ^ l.length
 | []=>by decide
 | b :: r=>by
   have h1:=numL_lt r
   have h2:=UInt8.toNat_lt b
   unfold numL
   rw[List.length_cons,Nat.pow_succ]
   omega
theorem textL_numL:∀l:List UInt8,textL l.length (numL l)=l
 | []=>rfl
 | b :: r=>by
   unfold numL
   rw[List.length_cons]
   unfold textL
   have h2:=UInt8.toNat_lt b
   rw[show(b.toNat+256*numL r) / 256=numL r by omega,textL_numL r,show(b.toNat+256*numL r) % 256=b.toNat by omega]
   congr 1
   exact UInt8.ofNat_toNat
theorem zeros_length (n:Nat):(zeros n).length=n:=List.length_replicate
def byteB (n:Int):UInt8:=UInt8.ofNat n.toNat
def byteAt (s:ByteArray) (i:Nat):Int:=((s.data.toList.getD i 0).toNat:Int)
def superB (g:Geom):ByteArray:=ofL (padL ([67,85,84,87] ++ [byteB g.groups,byteB g.inodes,byteB g.blocks]))
def superOf (s:ByteArray):Geom:=⟨byteAt s 4,byteAt s 5,byteAt s 6⟩
def isSuper (s:ByteArray):Prop:=s.size=64∧(superOf s).ok∧superB (superOf s)=s
instance (s:ByteArray):Decidable (isSuper s):=by unfold isSuper; infer_instance
def wallB (a b:Nat):ByteArray:=ofL (padL ([70,69,78,67] ++ textL 4 a ++ textL 4 b))
def isFence (s:ByteArray):Prop:=s.size=64∧wallB (numAt s 4 4) (numAt s 8 4)=s
instance (s:ByteArray):Decidable (isFence s):=by unfold isFence; infer_instance
def mapP (l:List UInt8) (n:Nat):Bool:=(l.take n).all (fun b=>b == 0||b == 1) && (l.drop n).all (fun b=>b == 0)
def mapC (s:ByteArray) (n:Int):Int:=if n<1∨64<n then 1 else if s.size=64∧mapP s.data.toList n.toNat=true then 0 else 3
def placesL (l:List UInt8) (n:Nat):List Nat:=(List.range n).filter (fun i=>l.getD i 0 == 1)
/-- Layer 6. -/
structure Inode where
 kind:Int
 links:Int
 size:Int
 parent:Int
 gen:Int
 direct:List Int
 more:Int
def blockOk (g:Geom) (n:Int):Prop:=n=0∨(g.what n).2.2=0∧(g.what n).1=6
instance (g:Geom) (n:Int):Decidable (blockOk g n):=by unfold blockOk; infer_instance
def Inode.blocks (g:Geom) (n:Inode):Prop:=(∀b∈n.direct,blockOk g b)∧blockOk g n.more
instance (g:Geom) (n:Inode):Decidable (n.blocks g):=by unfold Inode.blocks; infer_instance
def Inode.fits (g:Geom) (n:Inode):Prop:=0≤n.gen∧n.gen≤65535∧0≤n.links∧n.links≤255∧0≤n.size∧n.size≤2560 ∧
 ((n.kind=0∧n.links=0∧n.size=0∧n.parent=0∧(∀b∈n.direct,b=0)∧n.more=0)∨(n.kind=1∧n.parent=0∧n.blocks g)∨(n.kind=2∧n.size % 64=0∧1≤n.parent∧n.parent≤g.many∧n.blocks g))
instance (g:Geom) (n:Inode):Decidable (n.fits g):=by unfold Inode.fits; infer_instance
def Inode.check (g:Geom) (n:Inode):Int:=if g.ok then(if n.fits g then 0 else 60) else 4
def inodeB (n:Inode):ByteArray:=ofL (padL ([byteB n.kind,byteB n.links] ++ textL 2 n.size.toNat ++ textL 2 n.parent.toNat ++ textL 2 n.gen.toNat ++ n.direct.flatMap (fun b=>textL 2 b.toNat) ++ textL 2 n.more.toNat))
def inodeOf (s:ByteArray):Inode:=⟨byteAt s 0,byteAt s 1,numAt s 2 2,numAt s 4 2,numAt s 6 2,(List.range 8).map (fun i=>(numAt s (8+2*i) 2:Int)),numAt s 24 2⟩
def isInode (g:Geom) (s:ByteArray):Prop:=s.size=64∧(inodeOf s).fits g∧inodeB (inodeOf s)=s
instance (g:Geom) (s:ByteArray):Decidable (isInode g s):=by unfold isInode; infer_instance
/-- Layer 7. -/
structure Entry where
 inode:Int
 name:ByteArray
def Entry.may (x:Entry):Prop:=(x.inode=0∧x.name.size=0)∨(1≤x.inode∧x.inode≤65535∧nameB x.name=true)
instance (x:Entry):Decidable x.may:=by unfold Entry.may; infer_instance
def slotL (x:Entry):List UInt8:=textL 2 x.inode.toNat ++ [UInt8.ofNat x.name.size] ++ x.name.data.toList ++ zeros (16-(3+x.name.size))
def slotAt (s:ByteArray) (i:Nat):List UInt8:=(s.data.toList.drop (16*i)).take 16
def slotOf (s:ByteArray) (i:Nat):Entry:=⟨numAt s (16*i) 2,ofL (((slotAt s i).drop 3).take ((slotAt s i).getD 2 0).toNat)⟩
def slotOk (s:ByteArray) (i:Nat):Prop:=((slotAt s i).getD 2 0).toNat≤13∧(slotOf s i).may∧slotL (slotOf s i)=slotAt s i
instance (s:ByteArray) (i:Nat):Decidable (slotOk s i):=by unfold slotOk; infer_instance
def isDirS (s:ByteArray):Prop:=s.size=64∧∀i,i<4→slotOk s i∧∀k,k<i→(slotOf s k).name=(slotOf s i).name→(slotOf s i).name.size=0
instance (s:ByteArray):Decidable (isDirS s):=by unfold isDirS; infer_instance
def leasesN (g:Geom) (at_:Int):Nat:=(min 16 (g.regions-(at_-2)*16)).toNat
def ownerAt (s:ByteArray) (i:Nat):Nat:=numAt s (4*i) 1
def seqAt (s:ByteArray) (i:Nat):Nat:=numAt s (4*i+1) 3
def isLeases (g:Geom) (at_:Int) (s:ByteArray):Prop:=(∀i,i<leasesN g at_→ownerAt s i≤2)∧(s.data.toList.drop (4*leasesN g at_)).all (fun b=>b == 0)=true
instance (g:Geom) (at_:Int) (s:ByteArray):Decidable (isLeases g at_ s):=by unfold isLeases; infer_instance
def digitsL (n:Nat):List UInt8:=Lib.decDigits n
def listL (l:List Nat):List UInt8:=l.flatMap (fun n=>32 :: digitsL n)
def hexD (n:Nat):UInt8:=UInt8.ofNat (if n<10 then 48+n else 87+n)
def hexL (l:List UInt8):List UInt8:=l.flatMap (fun b=>[hexD (b.toNat / 16),hexD (b.toNat % 16)])
def wSuper:List UInt8:=[115,117,112,101,114]
def wFence:List UInt8:=[102,101,110,99,101]
def wLeases:List UInt8:=[108,101,97,115,101,115]
def wInodes:List UInt8:=[105,110,111,100,101,115]
def wBlocks:List UInt8:=[98,108,111,99,107,115]
def wInode:List UInt8:=[105,110,111,100,101,32]
def wDir:List UInt8:=[100,105,114]
def wFile:List UInt8:=[102,105,108,101]
def wFree:List UInt8:=[102,114,101,101]
def wRaw:List UInt8:=[114,97,119,32]
def wBlank:List UInt8:=[98,108,97,110,107]
def kindL (k:Int):List UInt8:=if k=1 then wFile else if k=2 then wDir else wFree
def leasesL (s:ByteArray) (n:Nat):List UInt8:=(List.range n).flatMap (fun i=>32 :: (digitsL (ownerAt s i) ++ 46 :: digitsL (seqAt s i)))
def slotW (x:Entry):List UInt8:=if x.inode > 0 then digitsL x.inode.toNat ++ 58 :: hexL x.name.data.toList else [45]
def told (g:Geom) (at_:Int) (s:ByteArray):Option (List UInt8):=
 if(g.kind at_).1=2 then(if isLeases g at_ s then some (wLeases ++ leasesL s (leasesN g at_)) else none)
 else if(g.kind at_).1=3 then(if mapC s g.inodes=0 then some (wInodes ++ listL (placesL s.data.toList g.inodes.toNat)) else none)
 else if(g.kind at_).1=4 then(if mapC s g.blocks=0 then some (wBlocks ++ listL (placesL s.data.toList g.blocks.toNat)) else none)
 else if(g.kind at_).1=5 then(if isInode g s then some (wInode ++ kindL (inodeOf s).kind ++ listL [(inodeOf s).links.toNat,(inodeOf s).parent.toNat,(inodeOf s).gen.toNat,(inodeOf s).size.toNat] ++ listL ((inodeOf s).direct.map Int.toNat) ++ listL [(inodeOf s).more.toNat]) else none)
 else if(g.kind at_).1=6 then(if isDirS s then some (wDir ++ (List.range 4).flatMap (fun i=>32 :: slotW (slotOf s i))) else none)
 else none
def whatL (g:Geom) (at_:Int) (s:ByteArray):List UInt8:=
 if s=blank then wBlank
 else if isSuper s then wSuper ++ listL [(superOf s).groups.toNat,(superOf s).inodes.toNat,(superOf s).blocks.toNat]
 else if isFence s then wFence ++ listL [numAt s 4 4,numAt s 8 4]
 else(told g at_ s).getD (wRaw ++ hexL s.data.toList)
def lineL (g:Geom) (at_:Int) (s:ByteArray):List UInt8:=digitsL at_.toNat ++ 32 :: whatL g at_ s
def shapeP (g:Geom) (l:List ByteArray):Prop:=g.ok∧(l.length:Int)=g.size∧∀s∈l,s.size=64
instance (g:Geom) (l:List ByteArray):Decidable (shapeP g l):=by unfold shapeP; infer_instance
def textFrom:Nat→Geom→List ByteArray→List UInt8
 | _,_,[]=>[]
 | i,g,s :: r=>lineL g i s ++ 10 :: textFrom (i+1) g r
def textN (g:Geom) (l:List ByteArray):ByteArray×Int:=if shapeP g l then(ofL (textFrom 0 g l),0) else(ofL [],4)
/-- A sector: its kind and number; of an inode or block its group and place. -/
structure Thing where
 kind:Int
 number:Int
 group:Int
 place:Int
def tablesL (g:Geom):List Thing:=(List.range ((g.regions+15) / 16).toNat).map (fun i:Nat=>(⟨2,(i:Int),0,0⟩:Thing))
def groupL (g:Geom) (k:Nat):List Thing:=[⟨3,k,k,0⟩,⟨4,k,k,0⟩] ++ (List.range g.inodes.toNat).map (fun i:Nat=>(⟨5,(k:Int)*g.inodes+i+1,k,i⟩:Thing)) ++ (List.range g.blocks.toNat).map (fun i:Nat=>(⟨6,(k:Int)*g.blocks+i,k,i⟩:Thing))
def allL (g:Geom):List Thing:=[⟨0,0,0,0⟩,⟨1,0,0,0⟩] ++ tablesL g ++ (List.range g.groups.toNat).flatMap (groupL g)
theorem flat_length {α:Type} {f:Nat→List α} {c:Nat} (hc:∀k,(f k).length=c):∀n,((List.range n).flatMap f).length=n*c
 | 0=>by simp
 | n+1=>by
   rw[List.range_succ,List.flatMap_append,List.length_append,flat_length hc n,List.flatMap_cons,List.flatMap_nil,List.append_nil,hc,Nat.succ_mul]
theorem flat_at {α:Type} {f:Nat→List α} {c:Nat} (hc:∀k,(f k).length=c):∀(n k r:Nat),k<n→r<c→((List.range n).flatMap f)[k*c+r]? = (f k)[r]?
 | 0,_,_,hk,_=>absurd hk (Nat.not_lt_zero _)
 | n+1,k,r,hk,hr=>by
   rw[List.range_succ,List.flatMap_append]
   have hl:=flat_length hc n
   by_cases h:k<n
   ·have hlt:k*c+r<n*c:=Nat.lt_of_lt_of_le (Nat.add_lt_add_left hr _) (by rw[←Nat.succ_mul]; exact Nat.mul_le_mul_right _ h)
    rw[List.getElem?_append_left (by rw[hl]; exact hlt)]
    exact flat_at hc n k r h hr
   ·obtain rfl:k=n:=by omega
    rw[List.getElem?_append_right (by rw[hl]; omega),hl,Nat.add_sub_cancel_left,List.flatMap_cons,List.flatMap_nil,List.append_nil]
section
variable {g:Geom} (h:g.ok)
include h
theorem groupL_length (k:Nat):(groupL g k).length=g.long.toNat:=by
 obtain⟨h1,h2,h3,h4,h5,h6⟩:=h
 unfold groupL Geom.long
 simp
 omega
omit h in
theorem tablesL_length:(tablesL g).length=((g.regions+15) / 16).toNat:=by
 unfold tablesL
 simp
theorem allL_length:((allL g).length:Int)=g.size:=by
 have h1:=Geom.regions_bd h
 have h2:=Geom.long_bd h
 have h3:=flat_length (groupL_length h) g.groups.toNat
 have h4:=tablesL_length (g:=g)
 rw[Geom.size_ok h]
 unfold allL Geom.first
 rw[List.length_append,List.length_append,h3,h4]
 obtain⟨g1,g2,_⟩:=h
 have e:g.groups=((g.groups.toNat:Nat):Int):=by omega
 have e2:g.long=((g.long.toNat:Nat):Int):=by omega
 have e3:g.groups*g.long=((g.groups.toNat*g.long.toNat:Nat):Int):=by rw[Int.natCast_mul,←e,←e2]
 rw[e3]
 show((2+((g.regions+15) / 16).toNat+g.groups.toNat*g.long.toNat:Nat):Int)=_
 omega
theorem allL_at {s:Nat} (hs:(s:Int)<g.size):∃x,(allL g)[s]? = some x∧(x.kind,x.number)=g.kind s:=by
 have h1:=Geom.regions_bd h
 have h2:=Geom.long_bd h
 have h4:=tablesL_length (g:=g)
 have hf0:g.first 0=2+(g.regions+15) / 16:=by unfold Geom.first; omega
 have hnt:(tablesL g).length=((g.regions+15) / 16).toNat:=h4
 unfold Geom.kind
 rw[hf0]
 unfold allL
 by_cases c1:(s:Int)<2+(g.regions+15) / 16
 ·rw[if_pos c1,List.getElem?_append_left (by rw[List.length_append,hnt]; show s<2+_; omega)]
  by_cases c2:s<2
  ·rw[List.getElem?_append_left (by show s<2; exact c2)]
   have e:s=0∨s=1:=by omega
   rcases e with rfl | rfl
   ·exact⟨_,rfl,by simp⟩
   ·exact⟨_,rfl,by simp⟩
  ·rw[List.getElem?_append_right (by show 2≤s; omega),if_neg (by omega)]
   unfold tablesL
   have hlt:s - [(⟨0,0,0,0⟩:Thing),⟨1,0,0,0⟩].length<((g.regions+15) / 16).toNat:=by show s-2<_; omega
   rw[List.getElem?_map,List.getElem?_range hlt]
   refine⟨_,rfl,?_⟩
   show((2:Int),((s-2:Nat):Int))=(2,(s:Int)-2)
   rw[Int.natCast_sub (by omega)]
   rfl
 ·rw[if_neg c1,List.getElem?_append_right (by rw[List.length_append,hnt]; show 2+_≤s; omega),List.length_append,hnt]
  obtain⟨d,hd⟩:=zx (s-([(⟨0,0,0,0⟩:Thing),⟨1,0,0,0⟩].length+((g.regions+15) / 16).toNat))
  have hd':(s:Int)-(2+(g.regions+15) / 16)=(d:Int):=by
   have:s-(2+((g.regions+15) / 16).toNat)=d:=hd
   omega
  rw[hd,hd']
  obtain⟨c,hc⟩:=zx (g.long.toNat)
  have hcl:g.long=(c:Int):=by omega
  have hc0:0<c:=by omega
  rw[hcl]
  have hdm:d / c*c+d % c=d:=Nat.div_add_mod' d c
  have hr:d % c<c:=Nat.mod_lt _ hc0
  have hsz:(d:Int)<g.groups*c:=by
   have:=hs
   rw[Geom.size_ok h] at this
   unfold Geom.first at this
   rw[hcl] at this
   omega
  have hk:d / c<g.groups.toNat:=by
   obtain⟨g1,g2,_⟩:=h
   have e:g.groups=((g.groups.toNat:Nat):Int):=by omega
   rw[e,←Int.natCast_mul] at hsz
   exact Nat.div_lt_of_lt_mul (by rw[Nat.mul_comm]; omega)
  have hat:=flat_at (fun k=>(groupL_length h k).trans hc) g.groups.toNat (d / c) (d % c) hk hr
  rw[hdm] at hat
  rw[hat]
  have ed:((d:Int) / (c:Int))=((d / c:Nat):Int):=rfl
  have em:((d:Int) % (c:Int))=((d % c:Nat):Int):=rfl
  rw[ed,em]
  obtain⟨k,hk'⟩:=zx (d / c)
  obtain⟨r,hr'⟩:=zx (d % c)
  have hrr:r<c:=by rw[←hr']; exact hr
  rw[hk',hr']
  clear hat hdm hk hd hd' hsz ed em
  have hlong:(c:Int)=2+g.inodes+g.blocks:=by rw[←hcl]; rfl
  obtain⟨g1,g2,g3,g4,g5,g6⟩:=h
  have hl2:([(⟨3,k,k,0⟩:Thing),⟨4,k,k,0⟩] ++ (List.range g.inodes.toNat).map (fun i:Nat=>(⟨5,(k:Int)*g.inodes+i+1,k,i⟩:Thing))).length=2+g.inodes.toNat:=by
   rw[List.length_append,List.length_map,List.length_range]
   rfl
  unfold groupL
  by_cases c3:2+g.inodes≤(r:Int)
  ·rw[if_pos c3,List.getElem?_append_right (by rw[hl2]; omega)]
   have hlt:r-([(⟨3,k,k,0⟩:Thing),⟨4,k,k,0⟩] ++ (List.range g.inodes.toNat).map (fun i:Nat=>(⟨5,(k:Int)*g.inodes+i+1,k,i⟩:Thing))).length<g.blocks.toNat:=by rw[hl2]; omega
   rw[List.getElem?_map,List.getElem?_range hlt]
   refine⟨_,rfl,?_⟩
   rw[hl2]
   show((6:Int),(k:Int)*g.blocks+((r-(2+g.inodes.toNat):Nat):Int))=(6,(k:Int)*g.blocks+r-2-g.inodes)
   congr 1
   omega
  ·rw[if_neg c3,List.getElem?_append_left (by rw[hl2]; omega)]
   by_cases c4:2≤(r:Int)
   ·rw[if_pos c4,List.getElem?_append_right (by show 2≤r; omega)]
    have hlt:r - [(⟨3,k,k,0⟩:Thing),⟨4,k,k,0⟩].length<g.inodes.toNat:=by show r-2<_; omega
    rw[List.getElem?_map,List.getElem?_range hlt]
    refine⟨_,rfl,?_⟩
    show((5:Int),(k:Int)*g.inodes+((r-2:Nat):Int)+1)=(5,(k:Int)*g.inodes+r-2+1)
    congr 1
    omega
   ·rw[if_neg c4,List.getElem?_append_left (by show r<2; omega)]
    have e:r=0∨r=1:=by omega
    rcases e with rfl | rfl
    ·exact⟨_,rfl,by simp⟩
    ·exact⟨_,rfl,by simp⟩
end
end Go.Proofs.YtmljdnlmpiklgaaGreatDoor.Sp
namespace Go.Proofs.YtmljdnlmpiklgaaGreatDoor
open Go Txt Sp
theorem i64_or (a b:Nat) (ha:a<9223372036854775808) (hb:b<9223372036854775808):bits .or .i64 (a:Int) (b:Int)=((a ||| b:Nat):Int):=by
 have hx:a ||| b<2 ^ 63:=Nat.or_lt_two_pow (by omega) (by omega)
 show IntKind.i64.wrap ((BitVec.ofInt 64 (a:Int) ||| BitVec.ofInt 64 (b:Int)).toNat:Int)=_
 rw[BitVec.toNat_or,ofInt_u64 a (by omega),ofInt_u64 b (by omega)]
 exact IntWalk.i64_in _ (by omega)
theorem or_low (k a b:Nat) (hb:b<2 ^ k):2 ^ k*a ||| b=2 ^ k*a+b:=(Nat.two_pow_add_eq_or_of_lt hb a).symm
theorem or_one (a:Nat) (h:a<256):bits .or .i64 0 (a:Int)=(a:Int):=by
 have:=i64_or 0 a (by omega) (by omega)
 rw[Nat.zero_or] at this
 exact this
theorem or_two (a b:Nat) (ha:a<256) (hb:b<256):bits .or .i64 (bits .or .i64 0 ((b:Int)*256)) (a:Int)=((a+256*b:Nat):Int):=by
 have e:(b:Int)*256=((256*b:Nat):Int):=by omega
 have h1:=i64_or 0 (256*b) (by omega) (by omega)
 rw[Nat.zero_or] at h1
 rw[e]
 show bits .or .i64 (bits .or .i64 ((0:Nat):Int) _) _=_
 rw[h1,i64_or _ _ (by omega) (by omega),or_low 8 b a (by omega)]
 omega
theorem or_four (a b c d:Nat) (ha:a<256) (hb:b<256) (hc:c<256) (hd:d<256) :
 bits .or .i64 (bits .or .i64 (bits .or .i64 ((d:Int)*16777216) ((c:Int)*65536)) ((b:Int)*256)) (a:Int)=((a+256*(b+256*(c+256*d)):Nat):Int):=by
 have e1:(d:Int)*16777216=((2 ^ 24*d:Nat):Int):=by omega
 have e2:(c:Int)*65536=((65536*c:Nat):Int):=by omega
 have e3:(b:Int)*256=((256*b:Nat):Int):=by omega
 rw[e1,e2,e3,i64_or _ _ (by omega) (by omega),or_low 24 d (65536*c) (by omega)]
 have e4:2 ^ 24*d+65536*c=2 ^ 16*(256*d+c):=by omega
 rw[e4,i64_or _ _ (by omega) (by omega),or_low 16 (256*d+c) (256*b) (by omega)]
 have e5:2 ^ 16*(256*d+c)+256*b=2 ^ 8*(65536*d+256*c+b):=by omega
 rw[e5,i64_or _ _ (by omega) (by omega),or_low 8 _ a (by omega)]
 omega
theorem drop_get {s:ByteArray} {k:Nat} (h:k<s.size):s.data.toList.drop k=s[k] :: s.data.toList.drop (k+1):=by
 rw[List.drop_eq_getElem_cons (by simpa using h)]
 rfl
theorem num_one {s:ByteArray} {k:Nat} (h:k<s.size):numAt s k 1=s[k].toNat:=by
 unfold numAt
 rw[drop_get h]
 simp[numL]
theorem num_two {s:ByteArray} {k:Nat} (h:k+1<s.size):numAt s k 2=s[k].toNat+256*s[k+1].toNat:=by
 unfold numAt
 rw[drop_get (by omega),drop_get h]
 simp[numL]
theorem num_four {s:ByteArray} {k:Nat} (h:k+3<s.size):numAt s k 4=s[k].toNat+256*(s[k+1].toNat+256*(s[k+2].toNat+256*s[k+3].toNat)):=by
 unfold numAt
 rw[drop_get (by omega),drop_get (by omega),drop_get (by omega),drop_get h]
 simp[numL]
end Go.Proofs.YtmljdnlmpiklgaaGreatDoor
namespace Go.Proofs.YtmljdnlmpiklgaaGreatDoor.Sp
open Go Txt
def patchL (l:List UInt8) (off:Nat) (p:List UInt8):List UInt8:=l.take off ++ p ++ l.drop (off+p.length)
theorem patchL_length {l p:List UInt8} {off:Nat} (h:off+p.length≤l.length):(patchL l off p).length=l.length:=by
 unfold patchL
 rw[List.length_append,List.length_append,List.length_take,List.length_drop]
 omega
def patchedL (l:List UInt8):List (Int×ByteArray)→List UInt8
 | []=>l
 | (o,s) :: r=>patchedL (patchL l o.toNat s.data.toList) r
def patchesOk (l:List (Int×ByteArray)):Prop:=∀p∈l,inside p.1 p.2.size
instance (l:List (Int×ByteArray)):Decidable (patchesOk l):=by unfold patchesOk; infer_instance
theorem patchedL_snoc:∀(r:List (Int×ByteArray)) (l:List UInt8) (p:Int×ByteArray),patchedL l (r ++ [p])=patchL (patchedL l r) p.1.toNat p.2.data.toList
 | [],_,_=>rfl
 | (_,_) :: r,_,p=>patchedL_snoc r _ p
theorem patchedL_length:∀(r:List (Int×ByteArray)) (l:List UInt8),l.length=64→patchesOk r→(patchedL l r).length=64
 | [],_,h,_=>h
 | (o,s) :: r,l,h,hp=>by
   have h1:=hp (o,s) (List.mem_cons_self ..)
   have hs:s.data.toList.length=s.size:=Array.length_toList
   simp only at h1
   unfold inside at h1
   refine patchedL_length r _ ?_ (fun p hp'=>hp p (List.mem_cons_of_mem _ hp'))
   rw[patchL_length (by rw[hs,h]; omega),h]
theorem drop_zeros (n k:Nat):(zeros n).drop k=zeros (n-k):=by
 unfold zeros
 rw[List.drop_replicate]
theorem patch_pad {q x:List UInt8} (h:q.length+x.length≤64):patchL (padL q) q.length x=padL (q ++ x):=by
 unfold patchL padL
 rw[List.take_left' rfl,List.drop_append,drop_zeros,List.length_append,List.drop_of_length_le (by omega),List.nil_append,List.append_assoc,show 64-q.length-(q.length+x.length-q.length)=64-(q.length+x.length) by omega]
 rw[List.append_assoc]
def leaseOk (x:Int×Int):Prop:=0≤x.1∧x.1≤2∧0≤x.2∧x.2≤16777215
instance (x:Int×Int):Decidable (leaseOk x):=by unfold leaseOk; infer_instance
def leaseB (x:Int×Int):List UInt8:=textL 4 (x.1+256*x.2).toNat
def secB (l:List (Int×Int)):List UInt8:=padL (l.flatMap leaseB)
def tabB (n:Nat) (l:List (Int×Int)):List ByteArray:=(List.range n).map (fun i=>ofL (secB ((l.drop (16*i)).take 16)))
def tableC (g:Geom) (l:List (Int×Int)):Int:=if g.ok∧(l.length:Int)=g.regions then(if ∀x∈l,leaseOk x then 0 else 80) else 4
def Geom.tables (g:Geom):Int:=(g.regions+15) / 16
def tableN (g:Geom) (l:List (Int×Int)):List ByteArray:=if tableC g l=0 then tabB g.tables.toNat l else []
theorem leaseB_length (x:Int×Int):(leaseB x).length=4:=textL_length _ _
theorem flat_leases (l:List (Int×Int)):(l.flatMap leaseB).length=4*l.length:=by
 induction l with
 | nil=>rfl
 | cons x r ih=>
   rw[List.flatMap_cons,List.length_append,leaseB_length,ih,List.length_cons]
   omega
theorem sec_step {q:List (Int×Int)} {x:Int×Int} (h:q.length<16):patchL (secB q) (4*q.length) (leaseB x)=secB (q ++ [x]):=by
 unfold secB
 have h1:=flat_leases q
 rw[←h1,patch_pad (by rw[h1,leaseB_length]; omega),List.flatMap_append,List.flatMap_cons,List.flatMap_nil,List.append_nil]
theorem secB_length {q:List (Int×Int)} (h:q.length≤16):(secB q).length=64:=by
 unfold secB padL
 have h1:=flat_leases q
 rw[List.length_append,zeros_length]
 omega
theorem tabB_length (n:Nat) (l:List (Int×Int)):(tabB n l).length=n:=by
 unfold tabB
 rw[List.length_map,List.length_range]
theorem tabB_at {n i:Nat} (l:List (Int×Int)) (h:i<n):(tabB n l)[i]? = some (ofL (secB ((l.drop (16*i)).take 16))):=by
 unfold tabB
 rw[List.getElem?_map,List.getElem?_range h]
 rfl
theorem tabB_nil (n:Nat):tabB n []=List.replicate n blank:=by
 apply List.ext_getElem?
 intro i
 by_cases h:i<n
 ·rw[tabB_at _ h,List.getElem?_replicate,if_pos h,List.drop_nil,List.take_nil]
  rfl
 ·rw[List.getElem?_eq_none (by rw[tabB_length]; omega),List.getElem?_eq_none (by rw[List.length_replicate]; omega)]
theorem tabB_snoc {n:Nat} {l:List (Int×Int)} {x:Int×Int} (h:l.length / 16<n) :
 tabB n (l ++ [x])=(tabB n l).set (l.length / 16) (ofL (patchL (secB ((l.drop (16*(l.length / 16))).take 16)) (4*(l.length % 16)) (leaseB x))):=by
 have hdm:16*(l.length / 16)+l.length % 16=l.length:=Nat.div_add_mod _ _
 have hr:l.length % 16<16:=Nat.mod_lt _ (by decide)
 obtain⟨i,hi⟩:=zx (l.length / 16)
 obtain⟨r,hr'⟩:=zx (l.length % 16)
 rw[hi] at h hdm ⊢
 rw[hr'] at hdm hr ⊢
 have hl:((l.drop (16*i)).take 16).length=r:=by rw[List.length_take,List.length_drop]; omega
 have h1:=sec_step (q:=(l.drop (16*i)).take 16) (x:=x) (by omega)
 rw[hl] at h1
 rw[h1]
 apply List.ext_getElem?
 intro k
 rw[List.getElem?_set]
 by_cases hk:i=k
 ·subst hk
  rw[if_pos rfl,if_pos (by rw[tabB_length]; exact h),tabB_at _ h]
  congr 2
  rw[List.drop_append,show 16*i-l.length=0 by omega,List.drop_zero,List.take_append,List.length_drop,List.take_of_length_le (l:=[x]) (by show 1≤_; omega)]
 ·rw[if_neg hk]
  by_cases hkn:k<n
  ·rw[tabB_at _ hkn,tabB_at _ hkn]
   congr 3
   rw[List.drop_append,List.take_append,List.length_drop]
   by_cases hki:k<i
   ·rw[show 16-(l.length-16*k)=0 by omega,List.take_zero,List.append_nil]
   ·rw[show([x]:List (Int×Int)).drop (16*k-l.length)=[] from List.drop_of_length_le (by show 1≤_; omega),List.take_nil,List.append_nil]
  ·rw[List.getElem?_eq_none (by rw[tabB_length]; omega),List.getElem?_eq_none (by rw[tabB_length]; omega)]
theorem byteB_mod (n:Int):UInt8.ofNat (n.toNat % 256)=byteB n:=by
 unfold byteB
 apply UInt8.toNat_inj.1
 rw[UInt8.toNat_ofNat',UInt8.toNat_ofNat']
 omega
theorem putB_one (n:Int):(putB 1 n).data.toList=[byteB n]:=by
 unfold putB
 rw[ofL_data]
 show [UInt8.ofNat (n.toNat % 256)]=_
 rw[byteB_mod]
theorem putB_two (n:Int):(putB 2 n).data.toList=textL 2 n.toNat:=by
 unfold putB
 rw[ofL_data]
 rfl
def inodeP (n:Inode):List (Int×ByteArray):=
 [(0,putB 1 n.kind),(1,putB 1 n.links),(2,putB 2 n.size),(4,putB 2 n.parent),(6,putB 2 n.gen),(24,putB 2 n.more)] ++
   [(8,putB 2 (n.direct.getD 0 0)),(10,putB 2 (n.direct.getD 1 0)),(12,putB 2 (n.direct.getD 2 0)),(14,putB 2 (n.direct.getD 3 0)),(16,putB 2 (n.direct.getD 4 0)),(18,putB 2 (n.direct.getD 5 0)),(20,putB 2 (n.direct.getD 6 0)),(22,putB 2 (n.direct.getD 7 0))]
theorem inodeP_ok (n:Inode):patchesOk (inodeP n):=by
 have h1:∀k:Int,(putB 1 k).size=1:=fun k=>by show(List.toArray _).size=1; rw[List.size_toArray,textL_length]; rfl
 have h2:∀k:Int,(putB 2 k).size=2:=fun k=>by show(List.toArray _).size=2; rw[List.size_toArray,textL_length]; rfl
 unfold patchesOk inodeP
 intro p hp
 simp only[List.cons_append,List.nil_append,List.mem_cons,List.not_mem_nil,or_false] at hp
 rcases hp with rfl | rfl | rfl | rfl | rfl | rfl | rfl | rfl | rfl | rfl | rfl | rfl | rfl | rfl <;> (simp only[h1,h2]; decide)
theorem inodeP_sector (n:Inode) (h:n.direct.length=8):ofL (patchedL (zeros 64) (inodeP n))=inodeB n:=by
 obtain⟨k,l,z,p,g,d,m⟩:=n
 match d,h with
 | [d0,d1,d2,d3,d4,d5,d6,d7],_=>
   unfold inodeP inodeB
   simp only[List.cons_append,List.nil_append,patchedL,putB_one,putB_two,List.getD_cons_zero,List.getD_cons_succ,List.flatMap_cons,List.flatMap_nil,List.append_nil]
   have ht:∀x:Int,∃a b,textL 2 x.toNat=[a,b]:=fun x=>⟨_,_,rfl⟩
   obtain⟨z0,z1,hz⟩:=ht z
   obtain⟨p0,p1,hp⟩:=ht p
   obtain⟨g0,g1,hg⟩:=ht g
   obtain⟨m0,m1,hm⟩:=ht m
   obtain⟨a0,a1,e0⟩:=ht d0
   obtain⟨b0,b1,e1⟩:=ht d1
   obtain⟨c0,c1,e2⟩:=ht d2
   obtain⟨f0,f1,e3⟩:=ht d3
   obtain⟨i0,i1,e4⟩:=ht d4
   obtain⟨j0,j1,e5⟩:=ht d5
   obtain⟨q0,q1,e6⟩:=ht d6
   obtain⟨r0,r1,e7⟩:=ht d7
   rw[hz,hp,hg,hm,e0,e1,e2,e3,e4,e5,e6,e7]
   refine congrArg ofL ?_
   kernel_rfl
def mapB (l:List Nat):List UInt8:=(List.range 64).map (fun i=>if l.contains i then 1 else 0)
def ofC (n:Int) (l:List Int):Int:=if n<1∨64<n∨∃p∈l,p<0∨n≤p then 1 else 0
def rootN:Inode:=⟨2,1,0,1,1,[0,0,0,0,0,0,0,0],0⟩
def formatL (g:Geom):List ByteArray:=(List.range g.size.toNat).map (fun i:Nat=>
 if i=0 then superB g else if i=1 then wallB 0 0 else if(i:Int)=g.first 0 then ofL (1 :: zeros 63) else if(i:Int)=g.first 0+2 then inodeB rootN else blank)
def slotsTo (s:ByteArray) (k:Nat):Prop:=∀i,i<k→slotOk s i∧∀j,j<i→(slotOf s j).name=(slotOf s i).name→(slotOf s i).name.size=0
theorem slotsTo_zero (s:ByteArray):slotsTo s 0:=fun _ h=>absurd h (Nat.not_lt_zero _)
theorem slotsTo_all {s:ByteArray} (hs:s.size=64):isDirS s↔slotsTo s 4:=⟨fun h=>h.2,fun h=>⟨hs,h⟩⟩
theorem slotsTo_step {s:ByteArray} {k:Nat} (h:slotsTo s k) (h1:slotOk s k) (h2:∀j,j<k→(slotOf s j).name=(slotOf s k).name→(slotOf s k).name.size=0):slotsTo s (k+1):=fun i hi=>by
 by_cases e:i<k
 ·exact h i e
 ·obtain rfl:i=k:=by omega
  exact⟨h1,h2⟩
def usedAt (s:ByteArray) (k:Nat) (x:ByteArray):Prop:=∃j,j<k∧(slotOf s j).name=x∧0<(slotOf s j).inode
theorem slot_pos {s:ByteArray} {k:Nat} (h:slotOk s k):0<(slotOf s k).inode↔(slotOf s k).name.size≠0:=by
 rcases h.2.1 with ⟨h1,h2⟩ | ⟨h1,_,h2⟩
 ·omega
 ·have:=nameB_size h2
  omega
theorem used_iff {s:ByteArray} {k:Nat} (h:slotsTo s k):usedAt s k (slotOf s k).name↔¬∀j,j<k→(slotOf s j).name=(slotOf s k).name→(slotOf s k).name.size=0:=by
 constructor
 ·rintro⟨j,hj,hn,hp⟩ hall
  have h0:=hall j hj hn
  rw[←hn] at h0
  exact(slot_pos (h j hj).1).1 hp h0
 ·intro hn
  rw[Classical.not_forall] at hn
  obtain⟨j,hn⟩:=hn
  rw[Classical.not_imp] at hn
  obtain⟨hj,hn⟩:=hn
  rw[Classical.not_imp] at hn
  obtain⟨he,h0⟩:=hn
  exact⟨j,hj,he,(slot_pos (h j hj).1).2 (by rw[he]; exact h0)⟩
theorem used_succ {s:ByteArray} {k:Nat} (x:ByteArray) (h:slotsTo s (k+1)):usedAt s (k+1) x↔if x=(slotOf s k).name then 0<(slotOf s k).inode else usedAt s k x:=by
 by_cases e:x=(slotOf s k).name
 ·rw[if_pos e]
  constructor
  ·rintro⟨j,hj,hn,hp⟩
   by_cases ej:j=k
   ·rw[←ej]; exact hp
   ·have h0:=(h k (by omega)).2 j (by omega) (hn.trans e)
    rw[←e,←hn] at h0
    exact absurd h0 ((slot_pos (h j (by omega)).1).1 hp)
  ·intro hp
   exact⟨k,by omega,e.symm,hp⟩
 ·rw[if_neg e]
  constructor
  ·rintro⟨j,hj,hn,hp⟩
   by_cases ej:j=k
   ·rw[ej] at hn; exact absurd hn.symm e
   ·exact⟨j,by omega,hn,hp⟩
  ·rintro⟨j,hj,hn,hp⟩
   exact⟨j,by omega,hn,hp⟩
