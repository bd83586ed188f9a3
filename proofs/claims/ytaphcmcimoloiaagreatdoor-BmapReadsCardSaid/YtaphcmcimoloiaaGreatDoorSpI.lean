/-
 SpI: SpNode,SpLaid16.
-/
import Derived.Test.YtaphcmcimoloiaaGreatDoorSpF
namespace Go.Proofs.YtaphcmcimoloiaaGreatDoor.Sp
open Go Txt
theorem numAt_list {b0 b1:UInt8} {l:List Int} {z:List UInt8} {s:ByteArray} (hs:s.data.toList=b0 :: b1 :: (listL2 l ++ z)) {j:Nat} (hj:j<l.length) (h:0≤l[j]∧l[j]<65536):(numAt s (2+2*j) 2:Int)=l[j]:=by
 unfold numAt
 have e:(s.data.toList.drop (2+2*j)).take 2=textL 2 l[j].toNat:=by
  rw [hs,←List.drop_drop]
  show ((listL2 l ++ z).drop (2*j)).take 2=_
  have hl:=listL2_length l
  rw [List.drop_append_of_le_length (by omega),List.take_append_of_le_length (by rw [List.length_drop]; omega),listL2_get hj]
 rw [e]
 exact num2 h.1 h.2
theorem byteB_back {n:Int} (h0:0≤n) (h1:n<256):((byteB n).toNat:Int)=n:=by
 unfold byteB
 have:(UInt8.ofNat n.toNat).toNat=n.toNat % 256:=UInt8.toNat_ofNat ..
 rw [this]
 omega
theorem what_bd0 {g:Geom} {s:Int} (h:blockOk g s):0≤s∧s<65536:=by
 rcases h with rfl | ⟨h,_⟩
 ·omega
 ·unfold Geom.what at h
  split at h
  ·rename_i hw
   unfold Geom.within at hw
   split at hw
   ·rename_i hg
    split at hw
    ·exact absurd hw (by decide)
    ·have:=(Geom.size_bd hg).2
     omega
   ·exact absurd hw (by decide)
  ·rename_i hw
   exact absurd h hw
theorem fits_bd {g:Geom} {n:Inode} (hg:g.ok) (h:n.fits g):(0≤n.kind∧n.kind<256)∧(0≤n.links∧n.links<256)∧(0≤n.size∧n.size<65536)∧(0≤n.parent∧n.parent<65536)∧(0≤n.gen∧n.gen<65536)∧(0≤n.more∧n.more<65536)∧∀d∈n.direct,0≤d∧d<65536:=by
 obtain ⟨h1,h2,h3,h4,h5,h6,h⟩:=h
 have hm:=Geom.many_ok hg
 have hp:=Geom.prod hg
 rcases h with ⟨a,_,_,b,c,d⟩ | ⟨a,b,c,d⟩ | ⟨a,_,b,b2,c,d⟩
 ·refine ⟨by omega,by omega,by omega,by omega,by omega,by omega,fun x hx=>?_⟩
  have:=c x hx
  omega
 ·exact ⟨by omega,by omega,by omega,by omega,by omega,what_bd0 d,fun x hx=>what_bd0 (c x hx)⟩
 ·exact ⟨by omega,by omega,by omega,by omega,by omega,what_bd0 d,fun x hx=>what_bd0 (c x hx)⟩
theorem inodeB_list (n:Inode) (h:n.direct.length=8):(inodeB n).data.toList=byteB n.kind :: byteB n.links :: (listL2 (n.size :: n.parent :: n.gen :: (n.direct ++ [n.more])) ++ zeros 38):=by
 rw [inodeB_data n h,listL2_cons,listL2_cons,listL2_cons,listL2_append,listL2_cons]
 have e:listL2 []=[]:=rfl
 rw [e,List.append_nil]
 unfold nodeL6
 simp only [List.append_assoc,List.cons_append,List.nil_append]
theorem inodeOf_B {g:Geom} {n:Inode} (hg:g.ok) (hd:n.direct.length=8) (h:n.fits g):inodeOf (inodeB n)=n:=by
 obtain ⟨b1,b2,b3,b4,b5,b6,b7⟩:=fits_bd hg h
 have hs:=inodeB_list n hd
 obtain ⟨kind,links,size,parent,gen,direct,more⟩:=n
 dsimp only at b1 b2 b3 b4 b5 b6 b7 hd
 obtain ⟨s,hss⟩:∃s,inodeB ⟨kind,links,size,parent,gen,direct,more⟩=s:=⟨_,rfl⟩
 rw [hss] at hs ⊢
 dsimp only at hs
 have hl:(size :: parent :: gen :: (direct ++ [more])).length=12:=by simp [hd]
 have e0:byteAt s 0=kind:=by unfold byteAt; rw [hs]; exact byteB_back b1.1 b1.2
 have e1:byteAt s 1=links:=by unfold byteAt; rw [hs]; exact byteB_back b2.1 b2.2
 have e2:(numAt s 2 2:Int)=size:=numAt_list hs (j:=0) (by rw [hl]; omega) b3
 have e3:(numAt s 4 2:Int)=parent:=numAt_list hs (j:=1) (by rw [hl]; omega) b4
 have e4:(numAt s 6 2:Int)=gen:=numAt_list hs (j:=2) (by rw [hl]; omega) b5
 have e5:∀k (hk:k<8),(numAt s (8+2*k) 2:Int)=direct[k]'(by omega):=fun k hk=>by
  have e:(size :: parent :: gen :: (direct ++ [more]))[k+3]'(by rw [hl]; omega)=direct[k]'(by omega):=by
   simp only [List.getElem_cons_succ]
   exact List.getElem_append_left (by omega)
  have:=numAt_list hs (j:=k+3) (by rw [hl]; omega) (by rw [e]; exact b7 _ (List.getElem_mem _))
  rw [e,show 2+2*(k+3)=8+2*k by omega] at this
  exact this
 have e6:(numAt s 24 2:Int)=more:=by
  have e:(size :: parent :: gen :: (direct ++ [more]))[11]'(by rw [hl]; omega)=more:=by
   simp only [List.getElem_cons_succ]
   rw [List.getElem_append_right (by omega)]
   simp
  have:=numAt_list hs (j:=11) (by rw [hl]; omega) (by rw [e]; exact b6)
  rw [e] at this
  exact this
 unfold inodeOf
 rw [e0,e1,e2,e3,e4,e6]
 congr 1
 refine List.ext_getElem (by simp [hd]) (fun k h1 h2=>?_)
 rw [List.getElem_map,List.getElem_range]
 exact e5 k (by omega)
theorem inodeB_size0 (n:Inode) (h:n.direct.length=8):(inodeB n).size=64:=by
 have hl:(n.size :: n.parent :: n.gen :: (n.direct ++ [n.more])).length=12:=by simp [h]
 rw [Lib.size_eq,inodeB_list n h,List.length_cons,List.length_cons,List.length_append,listL2_length,zeros_length,hl]
theorem isInode_B {g:Geom} {n:Inode} (hg:g.ok) (hd:n.direct.length=8) (h:n.fits g):isInode g (inodeB n):=by
 have e:=inodeOf_B hg hd h
 exact ⟨inodeB_size0 n hd,by rw [e]; exact h,by rw [e]⟩
theorem numAt_listB {l:List Int} (h:l.length=32) (hb:∀b∈l,0≤b∧b<65536):(List.range 32).map (fun i:Nat=>getN (listB l) (2*(i:Int)) 2)=l:=by
 refine List.ext_getElem (by simp [h]) (fun k h1 h2=>?_)
 rw [List.getElem_map,List.getElem_range]
 exact getN_list h hb (by omega)
end Go.Proofs.YtaphcmcimoloiaaGreatDoor.Sp
namespace Go.Proofs.YtaphcmcimoloiaaGreatDoor.Sp
open Go Txt
def plainS (L:List ByteArray) (node epoch:Int):Side:=⟨⟨L,[],0⟩,⟨[],0⟩,node,epoch,[]⟩
theorem plain_ok {L:List ByteArray} (h:∀s∈L,s.size=64) (hl:L.length≤2048) (node epoch:Int):(plainS L node epoch).Ok:=
 ⟨⟨by simp [plainS],by simp [plainS],by simp [plainS],by simp [plainS],by simp [plainS],by simp [plainS]⟩,h,hl⟩
theorem plain_read {L:List ByteArray} (h:∀s∈L,s.size=64) {i:Nat} {s:ByteArray} (hi:L[i]? = some s) (node epoch:Int):(plainS L node epoch).disk.has i∧(plainS L node epoch).read i=s:=by
 have hlt:=(List.getElem?_eq_some_iff.1 hi).1
 have hh:(plainS L node epoch).disk.has i:=⟨Int.natCast_nonneg i,by show (i:Int)<(L.length:Int); omega⟩
 refine ⟨hh,?_⟩
 have hget:(plainS L node epoch).disk.get i=s:=by
  show L.getD (i:Int).toNat ⟨#[]⟩=_
  rw [Int.toNat_natCast,List.getD_eq_getElem?_getD,hi]
  rfl
 unfold Side.read
 rw [if_pos hh,hget]
 unfold Deps.view
 rw [if_pos (h s (List.mem_of_getElem? hi))]
 show ofL (patchedL _ [])=_
 unfold patchedL
 exact data_ofL _
def file0:File:=⟨1,1,0,0,1,List.replicate 40 0,0⟩
def node1:ByteArray:=inodeB file0.node
def map3:ByteArray:=ofL (1 :: 1 :: 1 :: zeros 61)
def sec16 (g:Geom) (i:Int):ByteArray:=if i=g.first 0 then map3 else if i=inodeSec g 2∨i=inodeSec g 3 then node1 else secAt g i
def laid16L (g:Geom):List ByteArray:=(((formatL g).set (g.first 0).toNat map3).set (inodeSec g 2).toNat node1).set (inodeSec g 3).toNat node1
theorem node1_size:node1.size=64:=by decide +kernel
theorem map3_size:map3.size=64:=by decide +kernel
theorem sec16_size (g:Geom) (i:Int):(sec16 g i).size=64:=by
 unfold sec16
 split
 ·exact map3_size
 ·split
  ·exact node1_size
  ·exact secAt_size g i
theorem bit_map3 (p:Nat):bitAt map3 p=if p<3 then 1 else 0:=by
 unfold bitAt map3 zeros
 rw [ofL_data]
 match p with
 | 0=>rfl
 | 1=>rfl
 | 2=>rfl
 | p+3=>
   rw [if_neg (show ¬p+3<3 by omega),List.getD_cons_succ,List.getD_cons_succ,List.getD_cons_succ,List.getD_eq_getElem?_getD,List.getElem?_replicate]
   split <;> rfl
theorem map_map3 {n:Int} (h:3≤n∧n≤64):mapC map3 n=0:=by
 unfold mapC
 rw [if_neg (by omega),if_pos]
 refine ⟨map3_size,?_⟩
 rw [mapP_iff]
 intro i
 have:=bit_map3 i
 unfold bitAt at this
 rw [this]
 by_cases hi:i<3
 ·rw [if_pos hi]
  exact ⟨fun _=>Or.inr rfl,fun hn=>by omega⟩
 ·rw [if_neg hi]
  exact ⟨fun _=>Or.inl rfl,fun _=>rfl⟩
section
variable {g:Geom} {node epoch:Int}
theorem laid16_length (g:Geom):(laid16L g).length=g.size.toNat:=by unfold laid16L; simp [formatL_length]
theorem in16 (hg:g.ok) (h3:3≤g.inodes):3≤g.groups*g.inodes:=by
 have h1:1*g.inodes≤g.groups*g.inodes:=Int.mul_le_mul_of_nonneg_right (by have:=hg.1; omega) (by omega)
 omega
theorem laid16_at (hg:g.ok) (h3:3≤g.inodes) {i:Nat} (h:i<g.size.toNat):(laid16L g)[i]? = some (sec16 g i):=by
 have hgi:=in16 hg h3
 have n0:=(Geom.first_bd hg (k:=0) (by omega) (by omega)).1
 have n2:=inodeSec_in hg (i:=2) (by omega) (by omega)
 have n3:=inodeSec_in hg (i:=3) (by omega) (by omega)
 have m2:inodeSec g 2≠g.first 0:=fun e=>inode_not_map hg (i:=2) 0 false (by rw [e]; unfold mapAtG; simp)
 have m3:inodeSec g 3≠g.first 0:=fun e=>inode_not_map hg (i:=3) 0 false (by rw [e]; unfold mapAtG; simp)
 unfold laid16L sec16
 simp only [List.getElem?_set,List.length_set,formatL_length]
 by_cases e3:(inodeSec g 3).toNat=i
 ·rw [if_pos e3,if_pos (by omega),if_neg (by omega),if_pos (Or.inr (by omega))]
 ·rw [if_neg e3]
  by_cases e2:(inodeSec g 2).toNat=i
  ·rw [if_pos e2,if_pos (by omega),if_neg (by omega),if_pos (Or.inl (by omega))]
  ·rw [if_neg e2]
   by_cases e0:(g.first 0).toNat=i
   ·rw [if_pos e0,if_pos (by omega),if_pos (by omega)]
   ·rw [if_neg e0,if_neg (by omega),if_neg (by omega)]
    exact formatL_at g h
theorem laid16_size (hg:g.ok) (h3:3≤g.inodes):∀s∈laid16L g,s.size=64:=fun s hs=>by
 obtain ⟨i,hi⟩:=List.getElem?_of_mem hs
 have hl:=(List.getElem?_eq_some_iff.1 hi).1
 rw [laid16_length] at hl
 rw [laid16_at hg h3 hl] at hi
 rw [←Option.some.inj hi]
 exact sec16_size g i
theorem laid16_read (hg:g.ok) (h3:3≤g.inodes) {i:Int} (h0:0≤i) (h1:i<g.size):(plainS (laid16L g) node epoch).disk.has i∧(plainS (laid16L g) node epoch).read i=sec16 g i:=by
 obtain ⟨k,rfl⟩:∃k:Nat,i=(k:Int):=⟨i.toNat,by omega⟩
 exact plain_read (laid16_size hg h3) (laid16_at hg h3 (by omega)) node epoch
theorem laid16_look (hg:g.ok) (h3:3≤g.inodes) {k:Int} (hk:0≤k∧k<g.groups) (b:Bool):(plainS (laid16L g) node epoch).look g k b=some (if k=0∧b=false then map3 else blank):=by
 obtain ⟨h0,h1,h2⟩:=map_in hg hk b
 obtain ⟨r1,r2⟩:=laid16_read (node:=node) (epoch:=epoch) hg h3 h0 h1
 have e2:¬(mapAtG g k b=inodeSec g 2∨mapAtG g k b=inodeSec g 3):=fun h=>h.elim (fun e=>inode_not_map hg k b e.symm) (fun e=>inode_not_map hg k b e.symm)
 have hs:sec16 g (mapAtG g k b)=if k=0∧b=false then map3 else blank:=by
  unfold sec16
  rw [if_neg e2,h2]
  by_cases hkb:k=0∧b=false
  ·rw [if_pos (by rw [hkb.1,hkb.2]; unfold mapAtG; simp),if_pos hkb]
  ·rw [if_neg hkb]
   by_cases he:mapAtG g k b=g.first 0
   ·exfalso
    have hlp:=Geom.long_bd hg
    have:k*g.long+(if b then 1 else 0)=0:=by
     unfold mapAtG at he
     have hf:g.first k=g.first 0+k*g.long:=by unfold Geom.first; omega
     omega
    have hkl:0≤k*g.long:=Int.mul_nonneg hk.1 (by omega)
    cases b with
    | true=>simp at this; omega
    | false=>
      have hk0:k*g.long=0:=by simpa using this
      rcases Int.mul_eq_zero.1 hk0 with e | e
      ·exact hkb ⟨e,rfl⟩
      ·omega
   ·rw [if_neg he,if_neg hkb]
    try rw [if_neg hkb]
 unfold Side.look
 rw [r2,hs]
 refine if_pos ⟨r1,?_⟩
 split
 ·rename_i hkb
  rw [hkb.2]
  exact map_map3 ⟨h3,by have:=manyG_ok hg false; show g.inodes≤64; exact this.2⟩
 ·exact map_blank (manyG_ok hg b)
theorem inode16 {k:Int} {p:Nat} (hk:0≤k∧k<g.groups) (h3:3≤g.inodes):inodeNo g k p∈[(1:Int),2,3]↔k=0∧p<3:=by
 have hkn:0≤k*g.inodes:=Int.mul_nonneg hk.1 (by omega)
 constructor
 ·intro h
  have hle:inodeNo g k p≤3:=by
   simp only [List.mem_cons,List.not_mem_nil,or_false] at h
   omega
  unfold inodeNo at hle
  have hk0:k=0:=Classical.byContradiction fun hn=>by
   have h1:1*g.inodes≤k*g.inodes:=Int.mul_le_mul_of_nonneg_right (by omega) (by omega)
   omega
  subst hk0
  exact ⟨rfl,by omega⟩
 ·rintro ⟨rfl,h⟩
  unfold inodeNo
  simp only [List.mem_cons,List.not_mem_nil,or_false]
  omega
theorem laid16_held (hg:g.ok) (h3:3≤g.inodes):Held (plainS (laid16L g) node epoch) g [1,2,3] [] 0:=by
 have hz:=Geom.size_bd hg
 refine ⟨plain_ok (laid16_size hg h3) (by rw [laid16_length]; omega) node epoch,⟨fun k h0 h1=>⟨_,laid16_look hg h3 ⟨h0,h1⟩ false,fun p hp=>?_⟩,?_,by decide⟩,⟨fun k h0 h1=>⟨_,laid16_look hg h3 ⟨h0,h1⟩ true,fun p hp=>?_⟩,by simp,by simp⟩,by simp [plainS],by simp [plainS]⟩
 ·have hm:=inode16 (p:=p) ⟨h0,h1⟩ h3
  by_cases hk:k=0
  ·rw [if_pos ⟨hk,rfl⟩,bit_map3]
   by_cases hp3:p<3
   ·rw [if_pos hp3,if_pos (hm.2 ⟨hk,hp3⟩)]
   ·rw [if_neg hp3,if_neg (fun h=>hp3 (hm.1 h).2)]
  ·rw [if_neg (fun h=>hk h.1),bit_blank,if_neg (fun h=>hk (hm.1 h).1)]
 ·intro x hx
  have hx:x=1∨x=2∨x=3:=by simpa using hx
  refine ⟨0,x-1,⟨by omega,by have:=hg.1; omega⟩,⟨by omega,by show x-1<g.inodes; omega⟩,?_⟩
  unfold inodeNo
  omega
 ·rw [if_neg (fun h=>absurd h.2 (by decide)),bit_blank]
  simp
theorem laid16_bm (hg:g.ok) (h3:3≤g.inodes) {i:Int} (hi:i=2∨i=3):Bm g i (plainS (laid16L g) node epoch) file0 [1,2,3] [] 0:=by
 have hgi:=in16 hg h3
 have hin:=inodeSec_in hg (i:=i) (by omega) (by omega)
 obtain ⟨r1,r2⟩:=laid16_read (node:=node) (epoch:=epoch) hg h3 hin.1 hin.2
 have hm:inodeSec g i≠g.first 0:=fun e=>inode_not_map hg (i:=i) 0 false (by rw [e]; unfold mapAtG; simp)
 have hall:file0.all=[]:=by decide
 refine ⟨laid16_held hg h3,⟨by decide,?_,fun _=>by decide,fun h=>absurd rfl h,by rw [hall]; exact List.nodup_nil,by rw [hall]; simp⟩,by rw [hall]; simp,laid16_length g⟩
 rw [r2]
 unfold sec16
 rw [if_neg hm,if_pos (by rcases hi with rfl | rfl <;> simp)]
 rfl
end
end Go.Proofs.YtaphcmcimoloiaaGreatDoor.Sp
