/-
 SpI: SpNode,SpLaid16.
-/
import Derived.Test.YtgofmnhfajmbfaaGreatDoorSpSoundDo
namespace Go.Proofs.YtgofmnhfajmbfaaGreatDoor.Sp
open Go Txt
theorem q145z {b0 b1:UInt8} {l:List Int} {z:List UInt8} {s:ByteArray} (hs:s.data.toList=b0 :: b1 :: (q35z l ++ z)) {j:Nat} (hj:j<l.length) (h:0≤l[j]∧l[j]<65536):(numAt s (2+2*j) 2:Int)=l[j]:=by
 unfold numAt
 have e:(s.data.toList.drop (2+2*j)).take 2=textL 2 l[j].toNat:=by
  rw[hs,←List.drop_drop]
  show((q35z l ++ z).drop (2*j)).take 2=_
  have hl:=q74z l
  rw[List.drop_append_of_le_length (by omega),List.take_append_of_le_length (by rw[List.length_drop]; omega),listL2_get hj]
 rw[e]
 exact num2 h.1 h.2
theorem byteB_back {n:Int} (h0:0≤n) (h1:n<256):((byteB n).toNat:Int)=n:=by
 unfold byteB
 have:(UInt8.ofNat n.toNat).toNat=n.toNat % 256:=UInt8.toNat_ofNat ..
 rw[this]
 omega
theorem q151z {g:Geom} {s:Int} (h:q22z g s):0≤s∧s<65536:=by
 rcases h with rfl | ⟨h,_⟩
 ·omega
 ·unfold Geom.what at h
  split at h
  ·rename_i hw
   unfold Geom.within at hw
   split at hw
   ·rename_i hg
    split at hw
    ·exact absurd hw (by decide)
    ·have:=(Geom.size_bd hg).2
     omega
   ·exact absurd hw (by decide)
  ·rename_i hw
   exact absurd h hw
theorem fits_bd {g:Geom} {n:Inode} (hg:g.ok) (h:n.fits g):(0≤n.kind∧n.kind<256)∧(0≤n.links∧n.links<256)∧(0≤n.size∧n.size<65536)∧(0≤n.parent∧n.parent<65536)∧(0≤n.gen∧n.gen<65536)∧(0≤n.more∧n.more<65536)∧∀d∈n.direct,0≤d∧d<65536:=by
 obtain⟨h1,h2,h3,h4,h5,h6,h⟩:=h
 have hm:=Geom.many_ok hg
 have hp:=Geom.prod hg
 rcases h with ⟨a,_,_,b,c,d⟩ | ⟨a,b,c,d⟩ | ⟨a,_,b,b2,c,d⟩
 ·refine⟨by omega,by omega,by omega,by omega,by omega,by omega,fun x hx=>?_⟩
  have:=c x hx
  omega
 ·exact⟨by omega,by omega,by omega,by omega,by omega,q151z d,fun x hx=>q151z (c x hx)⟩
 ·exact⟨by omega,by omega,by omega,by omega,by omega,q151z d,fun x hx=>q151z (c x hx)⟩
theorem inodeB_list (n:Inode) (h:n.direct.length=8):(q28z n).data.toList=byteB n.kind :: byteB n.links :: (q35z (n.size :: n.parent :: n.gen :: (n.direct ++ [n.more])) ++ zeros 38):=by
 rw[q127z n h,q77z,q77z,q77z,listL2_append,q77z]
 have e:q35z []=[]:=rfl
 rw[e,List.append_nil]
 unfold q128z
 simp only[List.append_assoc,List.cons_append,List.nil_append]
theorem inodeOf_B {g:Geom} {n:Inode} (hg:g.ok) (hd:n.direct.length=8) (h:n.fits g):q41z (q28z n)=n:=by
 obtain⟨b1,b2,b3,b4,b5,b6,b7⟩:=fits_bd hg h
 have hs:=inodeB_list n hd
 obtain⟨kind,links,size,parent,gen,direct,more⟩:=n
 dsimp only at b1 b2 b3 b4 b5 b6 b7 hd
 obtain⟨s,hss⟩:=zx (q28z ⟨kind,links,size,parent,gen,direct,more⟩)
 rw[hss] at hs ⊢
 dsimp only at hs
 have hl:(size :: parent :: gen :: (direct ++ [more])).length=12:=by simp[hd]
 have e0:byteAt s 0=kind:=by unfold byteAt; rw[hs]; exact byteB_back b1.1 b1.2
 have e1:byteAt s 1=links:=by unfold byteAt; rw[hs]; exact byteB_back b2.1 b2.2
 have e2:(numAt s 2 2:Int)=size:=q145z hs (j:=0) (by rw[hl]; omega) b3
 have e3:(numAt s 4 2:Int)=parent:=q145z hs (j:=1) (by rw[hl]; omega) b4
 have e4:(numAt s 6 2:Int)=gen:=q145z hs (j:=2) (by rw[hl]; omega) b5
 have e5:∀k (hk:k<8),(numAt s (8+2*k) 2:Int)=direct[k]'(by omega):=fun k hk=>by
  have e:(size :: parent :: gen :: (direct ++ [more]))[k+3]'(by rw[hl]; omega)=direct[k]'(by omega):=by
   simp only[List.getElem_cons_succ]
   exact List.getElem_append_left (by omega)
  have:=q145z hs (j:=k+3) (by rw[hl]; omega) (by rw[e]; exact b7 _ (List.getElem_mem _))
  rw[e,show 2+2*(k+3)=8+2*k by omega] at this
  exact this
 have e6:(numAt s 24 2:Int)=more:=by
  have e:(size :: parent :: gen :: (direct ++ [more]))[11]'(by rw[hl]; omega)=more:=by
   simp only[List.getElem_cons_succ]
   rw[List.getElem_append_right (by omega)]
   simp
  have:=q145z hs (j:=11) (by rw[hl]; omega) (by rw[e]; exact b6)
  rw[e] at this
  exact this
 unfold q41z
 rw[e0,e1,e2,e3,e4,e6]
 congr 1
 refine List.ext_getElem (by simp[hd]) (fun k h1 h2=>?_)
 rw[List.getElem_map,List.getElem_range]
 exact e5 k (by omega)
theorem inodeB_size0 (n:Inode) (h:n.direct.length=8):(q28z n).size=64:=by
 have hl:(n.size :: n.parent :: n.gen :: (n.direct ++ [n.more])).length=12:=by simp[h]
 rw[Lib.size_eq,inodeB_list n h,List.length_cons,List.length_cons,List.length_append,q74z,zeros_length,hl]
theorem isInode_B {g:Geom} {n:Inode} (hg:g.ok) (hd:n.direct.length=8) (h:n.fits g):q72z g (q28z n):=by
 have e:=inodeOf_B hg hd h
 exact⟨inodeB_size0 n hd,by rw[e]; exact h,by rw[e]⟩
theorem numAt_listB {l:List Int} (h:l.length=32) (hb:∀b∈l,0≤b∧b<65536):(List.range 32).map (fun i:Nat=>getN (listB l) (2*(i:Int)) 2)=l:=by
 refine List.ext_getElem (by simp[h]) (fun k h1 h2=>?_)
 rw[List.getElem_map,List.getElem_range]
 exact getN_list h hb (by omega)
def plainS (L:List ByteArray) (node epoch:Int):Side:=⟨⟨L,[],0⟩,⟨[],0⟩,node,epoch,[]⟩
theorem plain_ok {L:List ByteArray} (h:∀s∈L,s.size=64) (hl:L.length≤2048) (node epoch:Int):(plainS L node epoch).Ok:=
 ⟨⟨by simp[plainS],by simp[plainS],by simp[plainS],by simp[plainS],by simp[plainS],by simp[plainS]⟩,h,hl⟩
theorem plain_read {L:List ByteArray} (h:∀s∈L,s.size=64) {i:Nat} {s:ByteArray} (hi:L[i]? = some s) (node epoch:Int):(plainS L node epoch).disk.has i∧(plainS L node epoch).read i=s:=by
 have hlt:=(List.getElem?_eq_some_iff.1 hi).1
 have hh:(plainS L node epoch).disk.has i:=⟨Int.natCast_nonneg i,by show(i:Int)<(L.length:Int); omega⟩
 refine⟨hh,?_⟩
 have hget:(plainS L node epoch).disk.get i=s:=by
  show L.getD (i:Int).toNat ⟨#[]⟩=_
  rw[Int.toNat_natCast,List.getD_eq_getElem?_getD,hi]
  rfl
 unfold Side.read
 rw[if_pos hh,hget]
 unfold Deps.view
 rw[if_pos (h s (List.mem_of_getElem? hi))]
 show ofL (q19z _ [])=_
 unfold q19z
 exact q133z _
def file0:File:=⟨1,1,0,0,1,List.replicate 40 0,0⟩
def node1:ByteArray:=q28z file0.node
def map3:ByteArray:=ofL (1 :: 1 :: 1 :: zeros 61)
def sec16 (g:Geom) (i:Int):ByteArray:=if i=g.first 0 then map3 else if i=q1z g 2∨i=q1z g 3 then node1 else secAt g i
def laid16L (g:Geom):List ByteArray:=(((q24z g).set (g.first 0).toNat map3).set (q1z g 2).toNat node1).set (q1z g 3).toNat node1
theorem node1_size:node1.size=64:=by decide +kernel
theorem map3_size:map3.size=64:=by decide +kernel
theorem sec16_size (g:Geom) (i:Int):(sec16 g i).size=64:=by
 unfold sec16
 split
 ·exact map3_size
 ·split
  ·exact node1_size
  ·exact secAt_size g i
theorem bit_map3 (p:Nat):bitAt map3 p=if p<3 then 1 else 0:=by
 unfold bitAt map3 zeros
 rw[q8z]
 match p with
 | 0=>rfl
 | 1=>rfl
 | 2=>rfl
 | p+3=>
   rw[if_neg (show ¬p+3<3 by omega),List.getD_cons_succ,List.getD_cons_succ,List.getD_cons_succ,List.getD_eq_getElem?_getD,List.getElem?_replicate]
   split <;> rfl
theorem map_map3 {n:Int} (h:3≤n∧n≤64):mapC map3 n=0:=by
 unfold mapC
 rw[if_neg (by omega),if_pos]
 refine⟨map3_size,?_⟩
 rw[mapP_iff]
 intro i
 have:=bit_map3 i
 unfold bitAt at this
 rw[this]
 by_cases hi:i<3
 ·rw[if_pos hi]
  exact⟨fun _=>Or.inr rfl,fun hn=>by omega⟩
 ·rw[if_neg hi]
  exact⟨fun _=>Or.inl rfl,fun _=>rfl⟩
section
variable {g:Geom} {node epoch:Int}
theorem q100z (g:Geom):(laid16L g).length=g.size.toNat:=by unfold laid16L; simp[q61z]
theorem in16 (hg:g.ok) (h3:3≤g.inodes):3≤g.groups*g.inodes:=by
 have h1:1*g.inodes≤g.groups*g.inodes:=Int.mul_le_mul_of_nonneg_right (by have:=hg.1; omega) (by omega)
 omega
theorem laid16_at (hg:g.ok) (h3:3≤g.inodes) {i:Nat} (h:i<g.size.toNat):(laid16L g)[i]? = some (sec16 g i):=by
 have hgi:=in16 hg h3
 have n0:=(Geom.first_bd hg (k:=0) (by omega) (by omega)).1
 have n2:=q65z hg (i:=2) (by omega) (by omega)
 have n3:=q65z hg (i:=3) (by omega) (by omega)
 have m2:q1z g 2≠g.first 0:=fun e=>q21z hg (i:=2) 0 false (by rw[e]; unfold q3z; simp)
 have m3:q1z g 3≠g.first 0:=fun e=>q21z hg (i:=3) 0 false (by rw[e]; unfold q3z; simp)
 unfold laid16L sec16
 simp only[List.getElem?_set,List.length_set,q61z]
 by_cases e3:(q1z g 3).toNat=i
 ·rw[if_pos e3,if_pos (by omega),if_neg (by omega),if_pos (Or.inr (by omega))]
 ·rw[if_neg e3]
  by_cases e2:(q1z g 2).toNat=i
  ·rw[if_pos e2,if_pos (by omega),if_neg (by omega),if_pos (Or.inl (by omega))]
  ·rw[if_neg e2]
   by_cases e0:(g.first 0).toNat=i
   ·rw[if_pos e0,if_pos (by omega),if_pos (by omega)]
   ·rw[if_neg e0,if_neg (by omega),if_neg (by omega)]
    exact formatL_at g h
theorem laid16_size (hg:g.ok) (h3:3≤g.inodes):∀s∈laid16L g,s.size=64:=fun s hs=>by
 obtain⟨i,hi⟩:=List.getElem?_of_mem hs
 have hl:=(List.getElem?_eq_some_iff.1 hi).1
 rw[q100z] at hl
 rw[laid16_at hg h3 hl] at hi
 rw[←Option.some.inj hi]
 exact sec16_size g i
theorem laid16_read (hg:g.ok) (h3:3≤g.inodes) {i:Int} (h0:0≤i) (h1:i<g.size):(plainS (laid16L g) node epoch).disk.has i∧(plainS (laid16L g) node epoch).read i=sec16 g i:=by
 obtain⟨k,rfl⟩:∃k:Nat,i=(k:Int):=⟨i.toNat,by omega⟩
 exact plain_read (laid16_size hg h3) (laid16_at hg h3 (by omega)) node epoch
theorem laid16_look (hg:g.ok) (h3:3≤g.inodes) {k:Int} (hk:0≤k∧k<g.groups) (b:Bool):(plainS (laid16L g) node epoch).look g k b=some (if k=0∧b=false then map3 else blank):=by
 obtain⟨h0,h1,h2⟩:=map_in hg hk b
 obtain⟨r1,r2⟩:=laid16_read (node:=node) (epoch:=epoch) hg h3 h0 h1
 have e2:¬(q3z g k b=q1z g 2∨q3z g k b=q1z g 3):=fun h=>h.elim (fun e=>q21z hg k b e.symm) (fun e=>q21z hg k b e.symm)
 have hs:sec16 g (q3z g k b)=if k=0∧b=false then map3 else blank:=by
  unfold sec16
  rw[if_neg e2,h2]
  by_cases hkb:k=0∧b=false
  ·rw[if_pos (by rw[hkb.1,hkb.2]; unfold q3z; simp),if_pos hkb]
  ·rw[if_neg hkb]
   by_cases he:q3z g k b=g.first 0
   ·exfalso
    have hlp:=Geom.long_bd hg
    have:k*g.long+(if b then 1 else 0)=0:=by
     unfold q3z at he
     have hf:g.first k=g.first 0+k*g.long:=by unfold Geom.first; omega
     omega
    have hkl:0≤k*g.long:=Int.mul_nonneg hk.1 (by omega)
    cases b with
    | true=>simp at this; omega
    | false=>
      have hk0:k*g.long=0:=by simpa using this
      rcases Int.mul_eq_zero.1 hk0 with e | e
      ·exact hkb ⟨e,rfl⟩
      ·omega
   ·rw[if_neg he,if_neg hkb]
    try rw[if_neg hkb]
 unfold Side.look
 rw[r2,hs]
 refine if_pos ⟨r1,?_⟩
 split
 ·rename_i hkb
  rw[hkb.2]
  exact map_map3 ⟨h3,by have:=manyG_ok hg false; show g.inodes≤64; exact this.2⟩
 ·exact map_blank (manyG_ok hg b)
theorem inode16 {k:Int} {p:Nat} (hk:0≤k∧k<g.groups) (h3:3≤g.inodes):q141z g k p∈[(1:Int),2,3]↔k=0∧p<3:=by
 have hkn:0≤k*g.inodes:=Int.mul_nonneg hk.1 (by omega)
 constructor
 ·intro h
  have hle:q141z g k p≤3:=by
   simp only[List.mem_cons,List.not_mem_nil,or_false] at h
   omega
  unfold q141z at hle
  have hk0:k=0:=Classical.byContradiction fun hn=>by
   have h1:1*g.inodes≤k*g.inodes:=Int.mul_le_mul_of_nonneg_right (by omega) (by omega)
   omega
  subst hk0
  exact⟨rfl,by omega⟩
 ·rintro⟨rfl,h⟩
  unfold q141z
  simp only[List.mem_cons,List.not_mem_nil,or_false]
  omega
theorem laid16_held (hg:g.ok) (h3:3≤g.inodes):Held (plainS (laid16L g) node epoch) g [1,2,3] [] 0:=by
 have hz:=Geom.size_bd hg
 refine⟨plain_ok (laid16_size hg h3) (by rw[q100z]; omega) node epoch,⟨fun k h0 h1=>⟨_,laid16_look hg h3 ⟨h0,h1⟩ false,fun p hp=>?_⟩,?_,by decide⟩,⟨fun k h0 h1=>⟨_,laid16_look hg h3 ⟨h0,h1⟩ true,fun p hp=>?_⟩,by simp,by simp⟩,by simp[plainS],by simp[plainS]⟩
 ·have hm:=inode16 (p:=p) ⟨h0,h1⟩ h3
  by_cases hk:k=0
  ·rw[if_pos ⟨hk,rfl⟩,bit_map3]
   by_cases hp3:p<3
   ·rw[if_pos hp3,if_pos (hm.2 ⟨hk,hp3⟩)]
   ·rw[if_neg hp3,if_neg (fun h=>hp3 (hm.1 h).2)]
  ·rw[if_neg (fun h=>hk h.1),bit_blank,if_neg (fun h=>hk (hm.1 h).1)]
 ·intro x hx
  have hx:x=1∨x=2∨x=3:=by simpa using hx
  refine⟨0,x-1,⟨by omega,by have:=hg.1; omega⟩,⟨by omega,by show x-1<g.inodes; omega⟩,?_⟩
  unfold q141z
  omega
 ·rw[if_neg (fun h=>absurd h.2 (by decide)),bit_blank]
  simp
theorem q157z (hg:g.ok) (h3:3≤g.inodes) {i:Int} (hi:i=2∨i=3):Bm g i (plainS (laid16L g) node epoch) file0 [1,2,3] [] 0:=by
 have hgi:=in16 hg h3
 have hin:=q65z hg (i:=i) (by omega) (by omega)
 obtain⟨r1,r2⟩:=laid16_read (node:=node) (epoch:=epoch) hg h3 hin.1 hin.2
 have hm:q1z g i≠g.first 0:=fun e=>q21z hg (i:=i) 0 false (by rw[e]; unfold q3z; simp)
 have hall:file0.all=[]:=by decide
 refine⟨laid16_held hg h3,⟨by decide,?_,fun _=>by decide,fun h=>absurd rfl h,by rw[hall]; exact List.nodup_nil,by rw[hall]; simp⟩,by rw[hall]; simp,q100z g⟩
 rw[r2]
 unfold sec16
 rw[if_neg hm,if_pos (by rcases hi with rfl | rfl <;> simp)]
 rfl
end
structure Plus (g:Geom) (i j:Int) (S:Side) (F G:File) (Y:List Int):Prop where
 full:Full Y F G
 kept:S.KeptR (q25z g i j F G (plainS (laid16L g) 0 0).read)
section
variable {g:Geom} {i j:Int} {S:Side} {F G:File} {X Y Y':List Int} {r:Nat}
theorem Plus.swap (h:Plus g i j S F G Y):Plus g j i S G F Y:=⟨h.full.swap,keptR_swap h.kept⟩
theorem Plus.flush (h:Plus g i j S F G Y) (hf:S.Fl) (pick:Nat→Int):Plus g i j (S.flush pick) F G Y:=⟨h.full,flush_keptR hf h.kept pick⟩
theorem Plus.write (h:Plus g i j S F G Y) (hb:Bm2 g i j S F G X Y r) (hm:q15z ⟨S,F,[]⟩) (hg:g.ok) (h1:1≤i) (h2:i≤g.groups*g.inodes) {ks:List Int} (hk:∀k∈ks,0≤k∧k<g.groups) {f off:Nat} {d:List UInt8}
 (hr:r+6*f+2<1024) (hat:off+d.length≤2560) (hf:d=[]∨off % 64+d.length≤64*f) (hC:(⟨S,F,[]⟩:BSt).writeC g i ks f off d=0) (kp:Keeps Y Y' F ((⟨S,F,[]⟩:BSt).write g i ks f off d).F) :
 Plus g i j ((⟨S,F,[]⟩:BSt).write g i ks f off d).S ((⟨S,F,[]⟩:BSt).write g i ks f off d).F G Y':=⟨h.full.keeps kp,ck_write (t:=⟨S,F,[]⟩) hb hm hg h1 h2 hk hr hat hf hC h.kept⟩
theorem Plus.cut (h:Plus g i j S F G Y) (hb:Bm2 g i j S F G X Y r) (hm:q15z ⟨S,F,[]⟩) (hg:g.ok) (h1:1≤i) (h2:i≤g.groups*g.inodes) {z:Nat} (hr:r+92<1024) (hz:z≤2560) (kp:Keeps Y Y' F ((⟨S,F,[]⟩:BSt).cut g i z).F) :
 Plus g i j ((⟨S,F,[]⟩:BSt).cut g i z).S ((⟨S,F,[]⟩:BSt).cut g i z).F G Y':=⟨h.full.keeps kp,ck_cut (t:=⟨S,F,[]⟩) hb hm hg h1 h2 hr hz h.kept⟩
theorem Plus.start (hb:Bm2 g i j (plainS (laid16L g) 0 0) F G X [] r) (hF:F.kind=1∧F.links=1∧F.parent=0∧F.gen=1∧0≤F.size∧F.size≤2560) (hG:G.kind=1∧G.links=1∧G.parent=0∧G.gen=1∧0≤G.size∧G.size≤2560) (h0:(plainS (laid16L g) 0 0).deps.l=[]):Plus g i j (plainS (laid16L g) 0 0) F G []:=⟨fun _ hy=>absurd hy List.not_mem_nil,crash_plain hb hF hG h0 (fun _ _ _ _ _=>rfl)⟩
end
/-- The file is the text. -/
structure FText (V:Int→ByteArray) (F:File) (t:List UInt8):Prop where
 alike:Same file0 F
 size:F.size=(t.length:Int)
 few:t.length≤2560
 img:F.img V=t ++ zeros (2560-t.length)
def wrT (t:List UInt8) (off:Nat) (d:List UInt8):List UInt8:=q5z (t ++ zeros (off+d.length-t.length)) off d
def cutT (t:List UInt8) (z:Nat):List UInt8:=t.take z ++ zeros (z-t.length)
theorem wrT_length (t:List UInt8) (off:Nat) (d:List UInt8):(wrT t off d).length=max t.length (off+d.length):=by
 unfold wrT
 rw[q50z (by rw[List.length_append,zeros_length]; omega),List.length_append,zeros_length]
 omega
theorem q129z (t:List UInt8) (z:Nat):(cutT t z).length=z:=by
 unfold cutT
 rw[List.length_append,zeros_length,List.length_take]
 omega
theorem zeros_add (a b:Nat):zeros a ++ zeros b=zeros (a+b):=by unfold zeros; rw[List.replicate_append_replicate]
theorem patchL_append {a b x:List UInt8} {off:Nat} (h:off+x.length≤a.length):q5z (a ++ b) off x=q5z a off x ++ b:=by
 unfold q5z
 rw[List.take_append_of_le_length (by omega),List.drop_append_of_le_length h]
 simp only[List.append_assoc]
theorem wr_img {t d:List UInt8} {off:Nat} (ht:t.length≤2560) (h:off+d.length≤2560):q5z (t ++ zeros (2560-t.length)) off d=wrT t off d ++ zeros (2560-(wrT t off d).length):=by
 have e:zeros (2560-t.length)=zeros (off+d.length-t.length) ++ zeros (2560-max t.length (off+d.length)):=by
  rw[zeros_add]
  congr 1
  omega
 rw[wrT_length,e,←List.append_assoc,patchL_append (by rw[List.length_append,zeros_length]; omega)]
 rfl
theorem cut_img {t:List UInt8} {z:Nat} (ht:t.length≤2560) (hz:z≤2560):q5z (t ++ zeros (2560-t.length)) z (zeros (2560-z))=cutT t z ++ zeros (2560-(cutT t z).length):=by
 rw[q129z]
 unfold cutT q5z
 rw[List.drop_of_length_le (by rw[List.length_append,zeros_length,zeros_length]; omega),List.append_nil]
 congr 1
 rw[List.take_append]
 congr 1
 unfold zeros
 rw[List.take_replicate]
 congr 1
 omega
theorem tail_zero {t:List UInt8} (ht:t.length≤2560) {n:Nat} (hn:t.length≤n):q5z (t ++ zeros (2560-t.length)) n (zeros (2560-n))=t ++ zeros (2560-t.length):=by
 unfold q5z
 rw[List.drop_of_length_le (by rw[List.length_append,zeros_length,zeros_length]; omega),List.append_nil,List.take_append,List.take_of_length_le hn,List.append_assoc]
 congr 1
 unfold zeros
 rw[List.take_replicate,List.replicate_append_replicate]
 congr 1
 omega
section
variable {g:Geom} {i j:Int} {S S':Side} {F G:File} {X Y:List Int} {r:Nat}
theorem Bm.stay (h:Bm g i S F X Y r) (hs:S.Stay S'):Bm g i S' F X Y r:=by
 have hr:S'.read=S.read:=funext hs.read
 have hhas:∀k,S'.disk.has k↔S.disk.has k:=fun k=>by unfold Disk.has; rw[hs.dlen]
 have hlook:∀k b,S'.look g k b=S.look g k b:=fun k b=>by
  unfold Side.look
  rw[hr]
  by_cases hc:S.disk.has (q3z g k b)∧mapC (S.read (q3z g k b)) (manyG g b)=0
  ·rw[if_pos hc,if_pos ⟨(hhas _).2 hc.1,hc.2⟩]
  ·rw[if_neg hc,if_neg (fun hh=>hc ⟨(hhas _).1 hh.1,hh.2⟩)]
 have ht:∀{b:Bool} {no:Int→Int→Int} {X:List Int},Taken S g b no X→Taken S' g b no X:=fun h=>⟨fun k h0 h1=>by rw[hlook]; exact h.look k h0 h1,h.sub,h.nodup⟩
 exact⟨⟨hs.fl.ok,ht h.held.ti,ht h.held.tb,by have:=hs.few; have:=h.held.few; omega,by rw[hs.last]; exact h.held.last⟩,by rw[hr]; exact h.file,h.own,by rw[hs.dlen]; exact h.dlen⟩
theorem Bm2.stay (h:Bm2 g i j S F G X Y r) (hs:S.Stay S'):Bm2 g i j S' F G X Y r:=⟨h.a.stay hs,h.b.stay hs,h.apart,h.dis,hs.fl⟩
end
def Texts2 (g:Geom) (S:Side) (t0 t1:List UInt8) (m:Nat):Prop:=∃F G Y r,Bm2 g 2 3 S F G [1,2,3] Y r∧FText S.read F t0∧FText S.read G t1∧r+2*Y.length+mz F+mz G≤10+21*m∧Plus g 2 3 S F G Y
section
variable {g:Geom} {S S':Side} {t0 t1:List UInt8} {m:Nat}
theorem Texts2.flush (h:Texts2 g S t0 t1 m) (pick:Nat→Int):Texts2 g (S.flush pick) t0 t1 m:=by
 obtain⟨F,G,Y,r,hb,h0,h1,hp,hl⟩:=h
 have hs:=flush_stay hb.fl pick
 have hr:(S.flush pick).read=S.read:=funext hs.read
 exact⟨F,G,Y,r,hb.stay hs,by rw[hr]; exact h0,by rw[hr]; exact h1,hp,hl.flush hb.fl pick⟩
theorem Texts2.pick (h:Texts2 g S t0 t1 m) (k:Bool):∃F G Y r,Bm2 g (if k then 3 else 2) (if k then 2 else 3) S F G [1,2,3] Y r∧FText S.read F (if k then t1 else t0)∧FText S.read G (if k then t0 else t1)∧r+2*Y.length+mz F+mz G≤10+21*m∧Plus g (if k then 3 else 2) (if k then 2 else 3) S F G Y:=by
 obtain⟨F,G,Y,r,hb,h0,h1,hp,hl⟩:=h
 cases k with
 | false=>exact⟨F,G,Y,r,hb,h0,h1,hp,hl⟩
 | true=>exact⟨G,F,Y,r,hb.swap,h1,h0,by omega,hl.swap⟩
theorem texts_put {k:Bool} {F G:File} {Y:List Int} {r:Nat} {x:List UInt8} (hb:Bm2 g (if k then 3 else 2) (if k then 2 else 3) S F G [1,2,3] Y r) (h0:FText S.read F x) (h1:FText S.read G (if k then t0 else t1)) (hp:r+2*Y.length+mz F+mz G≤10+21*m∧Plus g (if k then 3 else 2) (if k then 2 else 3) S F G Y) :
 Texts2 g S (if k then t0 else x) (if k then x else t1) m:=by
 cases k with
 | false=>exact⟨F,G,Y,r,hb,h0,h1,hp⟩
 | true=>exact⟨G,F,Y,r,hb.swap,h1,h0,by omega,hp.2.swap⟩
theorem kb_in (hg:g.ok) (h3:3≤g.inodes) (k:Bool):1≤(if k then(3:Int) else 2)∧(if k then(3:Int) else 2)≤g.groups*g.inodes:=by
 have:=in16 hg h3
 cases k <;> simp <;> omega
theorem made_none (S:Side) (F:File):q15z ⟨S,F,[]⟩:=fun n hn=>absurd hn (by simp)
theorem texts_write (hg:g.ok) (h3:3≤g.inodes) {k:Bool} {F G:File} {Y:List Int} {r:Nat} (hb:Bm2 g (if k then 3 else 2) (if k then 2 else 3) S F G [1,2,3] Y r) (h0:FText S.read F (if k then t1 else t0)) (h1:FText S.read G (if k then t0 else t1)) (hp:r+2*Y.length+mz F+mz G≤10+21*m∧Plus g (if k then 3 else 2) (if k then 2 else 3) S F G Y) (hm:m<12)
 {ks:List Int} (hk:∀x∈ks,0≤x∧x<g.groups) {off:Nat} {d:List UInt8} (ho:off≤2400) (hd:d.length≤160) :
 (⟨S,F,[]⟩:BSt).writeC g (if k then 3 else 2) ks 4 off d=109∨((⟨S,F,[]⟩:BSt).writeC g (if k then 3 else 2) ks 4 off d=0 ∧
   Texts2 g ((⟨S,F,[]⟩:BSt).write g (if k then 3 else 2) ks 4 off d).S (if k then t0 else wrT t0 off d) (if k then wrT t1 off d else t1) (m+1)):=by
 obtain⟨k1,k2⟩:=kb_in hg h3 k
 rcases two_write (t:=⟨S,F,[]⟩) hb (made_none S F) hg k1 k2 hk (f:=4) (off:=off) (d:=d) (by omega) (by omega) (Or.inr (by omega)) with e | ⟨e,Y',r',e1,b1,m1,i1,g1,z1,p1,kp⟩
 ·exact Or.inl e
 ·refine Or.inr ⟨e,?_⟩
  have hal:=write_alike ⟨S,F,[]⟩ g (if k then 3 else 2) ks 4 off d
  have hG:FText ((⟨S,F,[]⟩:BSt).write g (if k then 3 else 2) ks 4 off d).S.read G (if k then t0 else t1):=⟨h1.alike,h1.size,h1.few,g1.trans h1.img⟩
  have hF:FText ((⟨S,F,[]⟩:BSt).write g (if k then 3 else 2) ks 4 off d).S.read ((⟨S,F,[]⟩:BSt).write g (if k then 3 else 2) ks 4 off d).F (wrT (if k then t1 else t0) off d):=by
   refine⟨h0.alike.trans hal,?_,by rw[wrT_length]; have:=h0.few; omega,?_⟩
   ·rw[z1,wrT_length]
    show max F.size _=_
    rw[h0.size]
    omega
   ·rw[i1]
    show q5z (F.img S.read) off d=_
    rw[h0.img]
    exact wr_img h0.few (by omega)
  have hpp:r' + 2*Y'.length+mz ((⟨S,F,[]⟩:BSt).write g (if k then 3 else 2) ks 4 off d).F+mz G≤10+21*(m+1):=by
   have p1:r' + 2*Y'.length+mz ((⟨S,F,[]⟩:BSt).write g (if k then 3 else 2) ks 4 off d).F≤r+2*Y.length+mz F+5*4+1:=p1
   omega
  have:=texts_put (k:=k) (t0:=t0) (t1:=t1) b1 hF hG ⟨hpp,hp.2.write hb (made_none S F) hg k1 k2 hk (f:=4) (off:=off) (d:=d) (by omega) (by omega) (Or.inr (by omega)) e kp⟩
  cases k <;> exact this
theorem texts_cut (hg:g.ok) (h3:3≤g.inodes) {k:Bool} {F G:File} {Y:List Int} {r:Nat} (hb:Bm2 g (if k then 3 else 2) (if k then 2 else 3) S F G [1,2,3] Y r) (h0:FText S.read F (if k then t1 else t0)) (h1:FText S.read G (if k then t0 else t1)) (hp:r+2*Y.length+mz F+mz G≤10+21*m∧Plus g (if k then 3 else 2) (if k then 2 else 3) S F G Y) (hm:m<12)
 {z:Nat} (hz:z≤2560) :
 (⟨S,F,[]⟩:BSt).cutC g (if k then 3 else 2) z=0∧Texts2 g ((⟨S,F,[]⟩:BSt).cut g (if k then 3 else 2) z).S (if k then t0 else cutT t0 z) (if k then cutT t1 z else t1) (m+1):=by
 obtain⟨k1,k2⟩:=kb_in hg h3 k
 obtain⟨c1,Y',r',e1,b1,m1,z1,i1,g1,p1,kp⟩:=two_cut (t:=⟨S,F,[]⟩) hb (made_none S F) hg k1 k2 (z:=z) (by omega) hz (fun n hn=>by
  show q5z (F.img S.read) n _=F.img S.read
  rw[h0.img]
  have hn:F.size≤(n:Int):=hn
  rw[h0.size] at hn
  exact tail_zero h0.few (by omega))
 refine⟨c1,?_⟩
 have hal:=cut_alike ⟨S,F,[]⟩ g (if k then 3 else 2) z
 have hG:FText ((⟨S,F,[]⟩:BSt).cut g (if k then 3 else 2) z).S.read G (if k then t0 else t1):=⟨h1.alike,h1.size,h1.few,g1.trans h1.img⟩
 have hF:FText ((⟨S,F,[]⟩:BSt).cut g (if k then 3 else 2) z).S.read ((⟨S,F,[]⟩:BSt).cut g (if k then 3 else 2) z).F (cutT (if k then t1 else t0) z):=by
  refine⟨h0.alike.trans hal,by rw[z1,q129z],by rw[q129z]; exact hz,?_⟩
  rw[i1]
  show q5z (F.img S.read) z _=_
  rw[h0.img]
  exact cut_img h0.few hz
 have hpp:r' + 2*Y'.length+mz ((⟨S,F,[]⟩:BSt).cut g (if k then 3 else 2) z).F+mz G≤10+21*(m+1):=by
  have p1:r' + 2*Y'.length+mz ((⟨S,F,[]⟩:BSt).cut g (if k then 3 else 2) z).F≤r+2*Y.length+mz F+7:=p1
  omega
 have:=texts_put (k:=k) (t0:=t0) (t1:=t1) b1 hF hG ⟨hpp,hp.2.cut hb (made_none S F) hg k1 k2 (z:=z) (by omega) hz kp⟩
 cases k <;> exact this
theorem plain_fl (hg:g.ok) (h3:3≤g.inodes):(plainS (laid16L g) 0 0).Fl:=by
 have hz:=Geom.size_bd hg
 have hgi:=in16 hg h3
 refine⟨⟨(plain_ok (laid16_size hg h3) (by rw[q100z]; omega) 0 0).deps,fun c hc=>absurd hc (by simp[plainS]),by simp[plainS],by simp[plainS]⟩,laid16_size hg h3,by show(laid16L g).length≤1000; rw[q100z]; omega,fun c hc=>absurd hc (by simp[plainS]),by simp[plainS],by simp[plainS],fun x hx=>absurd hx (by simp[plainS]),fun c hc=>absurd hc (by simp[plainS]),rfl,?_,rfl,rfl⟩
 show(laid16L g)[1]? = _
 rw[laid16_at hg h3 (by omega)]
 have hf0:=Geom.first_bd hg (k:=0) (by omega) (by omega)
 have e2:=inode_notOne hg (i:=2) (by omega)
 have e3:=inode_notOne hg (i:=3) (by omega)
 unfold sec16 secAt
 rw[if_neg (by omega),if_neg (by intro hh; rcases hh with hh | hh <;> omega),if_neg (by omega),if_pos (by omega)]
theorem texts_start (hg:g.ok) (h3:3≤g.inodes):Texts2 g (plainS (laid16L g) 0 0) [] [] 0:=by
 have hgi:=in16 hg h3
 have hi0:∀V:Int→ByteArray,file0.img V=zeros 2560:=fun V=>by
  have h:secL V 0=zeros 64:=by unfold secL; rw[if_pos rfl]
  unfold File.img
  show(List.replicate 40 0).flatMap _=_
  rw[List.flatMap,List.map_replicate,h]
  unfold zeros
  rw[List.flatten_replicate_replicate]
 have hall:file0.all=[]:=by decide
 have hF:FText (plainS (laid16L g) 0 0).read file0 []:=⟨Same.refl _,rfl,by decide,by rw[hi0]; rfl⟩
 have hne:q1z g 2≠q1z g 3:=fun e=>by
  have e1:q1z g 2=g.first 0+2+1:=by
   unfold q1z
   rw[show(2:Int)-1=1 by omega,Int.ediv_eq_zero_of_lt (by omega) (by omega),Int.emod_eq_of_lt (by omega) (by omega)]
  have e2:q1z g 3=g.first 0+2+2:=by
   unfold q1z
   rw[show(3:Int)-1=2 by omega,Int.ediv_eq_zero_of_lt (by omega) (by omega),Int.emod_eq_of_lt (by omega) (by omega)]
  omega
 have hb:Bm2 g 2 3 (plainS (laid16L g) 0 0) file0 file0 [1,2,3] [] 0:=⟨q157z hg h3 (Or.inl rfl),q157z hg h3 (Or.inr rfl),hne,by rw[hall]; simp,plain_fl hg h3⟩
 have h0:file0.kind=1∧file0.links=1∧file0.parent=0∧file0.gen=1∧0≤file0.size∧file0.size≤2560:=by decide
 exact⟨file0,file0,[],0,hb,hF,hF,by decide,Plus.start hb h0 h0 rfl⟩
end
