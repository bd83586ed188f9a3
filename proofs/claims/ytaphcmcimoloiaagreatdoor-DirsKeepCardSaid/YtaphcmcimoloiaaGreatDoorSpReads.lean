/-
 Layer 13 as plain data: WriteAll,sector by sector. No program in this text.
-/
import Derived.Test.YtaphcmcimoloiaaGreatDoorSpJ
import Derived.Test.YtaphcmcimoloiaaGreatDoorSpBmDisk
namespace Go.Proofs.YtaphcmcimoloiaaGreatDoor.Sp
open Go Txt
def Side.may (S:Side) (i:Int):Prop:=S.disk.has i∧(∃c∈S.deps.l,c.at_=i)∧¬S.deps.under i∧S.deps.ready i≠[]
theorem ats_of_send (d:Deps) (i j:Int):(∃c∈(d.send i).l,c.at_=j)↔∃c∈d.l,c.at_=j:=by
 unfold Deps.send
 constructor
 ·rintro⟨c,hc,rfl⟩
  obtain⟨b,hb,rfl⟩:=List.mem_map.1 hc
  exact⟨b,hb,(q61z b).1.symm⟩
 ·rintro⟨c,hc,rfl⟩
  exact⟨_,List.mem_map.2 ⟨c,hc,rfl⟩,(q61z c).1⟩
theorem Side.may.write {S:Side} (h:S.Fl) {i j:Int} (hj:j≠i) (hm:S.may j):(S.write i).may j:=by
 obtain⟨h1,h2,h3,h4⟩:=hm
 refine⟨h1,(ats_of_send S.deps i j).2 h2,fun hu=>h3 ((under_send h.tied.ok hj).1 hu),?_⟩
 show(S.deps.send i).ready j≠[]
 rw[ready_send h.tied.ok hj]
 exact h4
theorem Side.Fl.fly_few {S:Side} (h:S.Fl) {i:Int} (hm:S.may i):S.fly.length<1024:=by
 have hni:i∉S.fly.map Prod.snd:=fun hi=>by
  obtain⟨x,hx,e⟩:=List.mem_map.1 hi
  have:=(h.flyB x hx).2
  rw[e] at this
  exact hm.2.2.1 this
 have h1:(i :: S.fly.map Prod.snd).Nodup:=List.nodup_cons.2 ⟨hni,h.flyI⟩
 have h2:(i :: S.fly.map Prod.snd) ⊆ S.deps.l.map Chg.at_:=fun j hj=>by
  rcases List.mem_cons.1 hj with rfl | hj
  ·obtain⟨c,hc,e⟩:=hm.2.1
   exact List.mem_map.2 ⟨c,hc,e⟩
  ·obtain⟨x,hx,rfl⟩:=List.mem_map.1 hj
   obtain⟨c,hc,e,_⟩:=(h.flyB x hx).2
   exact List.mem_map.2 ⟨c,hc,e⟩
 have h3:=h1.length_le_of_subset h2
 rw[List.length_cons,List.length_map,List.length_map] at h3
 have:=h.tied.ok.few
 omega
theorem writes_at:∀(l:List Int) (S:Side),S.Fl→l.Nodup→(∀i∈l,S.may i)→∀k,k≤l.length →
 let T:=(l.take k).foldl Side.write S
 T.Fl∧(∀i∈l.drop k,T.may i)∧T.disk.last=S.disk.last+k
 | l,S,hf,_,hm,0,_=>by
   rw[List.take_zero,List.drop_zero]
   exact⟨hf,hm,rfl⟩
 | [],S,hf,_,hm,k+1,hk=>absurd hk (by simp)
 | i :: r,S,hf,hn,hm,k+1,hk=>by
   obtain⟨hi,hr⟩:=List.nodup_cons.1 hn
   obtain⟨m1,m2,m3,m4⟩:=hm i (List.mem_cons_self ..)
   have hf2:=hf.write m1 m3 m4
   have ih:=writes_at r (S.write i) hf2 hr (fun j hj=>(hm j (List.mem_cons_of_mem _ hj)).write hf (fun e=>hi (e ▸ hj))) k (by rw[List.length_cons] at hk; omega)
   rw[List.take_succ_cons,List.drop_succ_cons]
   refine⟨ih.1,ih.2.1,?_⟩
   have h3:=ih.2.2
   rw[show(S.write i).disk.last=S.disk.last+1 from rfl] at h3
   show((r.take k).foldl Side.write (S.write i)).disk.last=_
   rw[h3]
   omega
theorem Side.Fl.may_of {S:Side} (h:S.Fl):∀i∈S.deps.sectors,S.may i:=fun i hi=>
 ⟨(h.sectors i hi).1,(sectors_mem.1 hi).1,(h.sectors i hi).2.1,(h.sectors i hi).2.2⟩
theorem sectors_len {S:Side} (h:S.Fl):S.deps.sectors.length≤1024:=by
 have h1:=(q78z S.deps).length_le_of_subset (l₂:=S.deps.l.map Chg.at_) (fun i hi=>by
  obtain⟨c,hc,e⟩:=(sectors_mem.1 hi).1
  exact List.mem_map.2 ⟨c,hc,e⟩)
 rw[List.length_map] at h1
 have:=h.tied.ok.few
 omega
theorem ends_snoc (pick:Nat→Int):∀(l:List Int) (S:Side) (j:Nat) (n:Int),Side.ends pick S j (l ++ [n])=(Side.ends pick S j l).endK (pick (j+l.length)) n
 | [],S,j,n=>rfl
 | m :: r,S,j,n=>by
   show Side.ends pick (S.endK (pick j) m) (j+1) (r ++ [n])=_
   rw[ends_snoc pick r]
   show(Side.ends pick (S.endK (pick j) m) (j+1) r).endK _ n=(Side.ends pick (S.endK (pick j) m) (j+1) r).endK _ n
   congr 2
   rw[List.length_cons]
   omega
theorem endK_last (S:Side) (k n:Int):(S.endK k n).disk.last=S.disk.last:=by
 unfold Side.endK
 split
 ·split
  ·rfl
  ·split <;> rfl
 ·rfl
theorem ends_at (pick:Nat→Int) {S:Side} (h:S.Fl) {l:List Int} (hn:l.Nodup) (hl:∀n∈l,∃i,(n,i)∈S.fly):∀k,k≤l.length →
 (Side.ends pick S 0 (l.take k)).Fl∧(∀n∈l.drop k,∃i,(n,i)∈(Side.ends pick S 0 (l.take k)).fly)∧(Side.ends pick S 0 (l.take k)).disk.last=S.disk.last
 | 0,_=>by
   rw[List.take_zero,List.drop_zero]
   exact⟨h,hl,rfl⟩
 | k+1,hk=>by
   obtain⟨h1,h2,h3⟩:=ends_at pick h hn hl k (by omega)
   have hk':k<l.length:=hk
   rw[List.take_add_one,List.getElem?_eq_getElem hk',Option.toList_some,ends_snoc]
   have hd:l.drop k=l[k] :: l.drop (k+1):=List.drop_eq_getElem_cons hk'
   have hnd:(l.drop k).Nodup:=hn.sublist (List.drop_sublist k l)
   rw[hd] at hnd h2
   obtain⟨q1,q2⟩:=List.nodup_cons.1 hnd
   refine⟨(q155z h1 _ _).fl,fun n hm=>?_,by rw[endK_last,h3]⟩
   obtain⟨i,hi⟩:=h2 n (List.mem_cons_of_mem _ hm)
   exact⟨i,endK_fly _ _ hi (fun e=>q1 (e ▸ hm))⟩
theorem unders_fly {S:Side}:∀n∈S.unders,∃i,(n,i)∈S.fly:=fun n hn=>by
 obtain⟨x,hx,rfl⟩:=List.mem_map.1 (unders_mem.1 hn)
 exact⟨x.2,hx⟩
theorem fly_most {S:Side} (h:S.Fl):S.fly.length≤1024:=by
 have h2:S.fly.map Prod.snd ⊆ S.deps.l.map Chg.at_:=fun j hj=>by
  obtain⟨x,hx,rfl⟩:=List.mem_map.1 hj
  obtain⟨c,hc,e,_⟩:=(h.flyB x hx).2
  exact List.mem_map.2 ⟨c,hc,e⟩
 have h3:=h.flyI.length_le_of_subset h2
 rw[List.length_map,List.length_map] at h3
 have:=h.tied.ok.few
 omega
theorem q156z {S:Side} (h:S.Fl) {n i:Int} (hm:(n,i)∈S.fly):S.disk.has i∧S.deps.under i∧S.whose n=some i:=by
 obtain⟨c,hc,e,hs⟩:=(h.flyB _ hm).2
 refine⟨?_,⟨c,hc,e,hs⟩,(q157z h).2 hm⟩
 have:=(h.at_ c hc).1
 rw[e] at this
 exact this
theorem waits_get {S:Side} (h:S.Fl) {n i:Int} (hm:(n,i)∈S.fly):(S.disk.waits.find? (fun x=>decide (x.1=n))).map (·.2)=some ⟨0,0,i,S.deps.sent i (S.disk.get i)⟩:=by
 have hw:=(q157z h).2 hm
 unfold Side.whose at hw
 rw[h.waits,List.find?_map]
 obtain⟨x,hx,rfl⟩:=Option.map_eq_some_iff.1 hw
 have e:((fun x:Int×Wr=>decide (x.1=n)) ∘ fun x:Int×Int=>(x.1,(⟨S.node,S.epoch,x.2,S.deps.sent x.2 (S.disk.get x.2)⟩:Wr)))=fun x=>decide (x.1=n):=rfl
 rw[e,hx]
 show some (⟨S.node,S.epoch,x.2,_⟩:Wr)=_
 rw[h.node.1,h.node.2]
theorem flush_last {S:Side} (h:S.Fl) (pick:Nat→Int):(S.flush pick).disk.last≤S.disk.last+1024:=by
 have hf1:=(q79z h).fl
 have h1:=ends_at pick hf1 (unders_nodup hf1) unders_fly S.writeAll.unders.length (Nat.le_refl _)
 rw[List.take_length] at h1
 have h2:=writes_at S.deps.sectors S h (q78z _) h.may_of S.deps.sectors.length (Nat.le_refl _)
 rw[List.take_length] at h2
 have h3:=sectors_len h
 have h4:=h1.2.2
 have h5:=h2.2.2
 show(Side.ends pick S.writeAll 0 S.writeAll.unders).disk.last≤_
 rw[h4]
 show(S.deps.sectors.foldl Side.write S).disk.last≤_
 rw[h5]
 omega
theorem q139z {b0 b1:UInt8} {l:List Int} {z:List UInt8} {s:ByteArray} (hs:s.data.toList=b0 :: b1 :: (q41z l ++ z)) {j:Nat} (hj:j<l.length) (h:0≤l[j]∧l[j]<65536):(numAt s (2+2*j) 2:Int)=l[j]:=by
 unfold numAt
 have e:(s.data.toList.drop (2+2*j)).take 2=textL 2 l[j].toNat:=by
  rw[hs,←List.drop_drop]
  show((q41z l ++ z).drop (2*j)).take 2=_
  have hl:=q80z l
  rw[List.drop_append_of_le_length (by omega),List.take_append_of_le_length (by rw[List.length_drop]; omega),listL2_get hj]
 rw[e]
 exact num2 h.1 h.2
theorem byteB_back {n:Int} (h0:0≤n) (h1:n<256):((byteB n).toNat:Int)=n:=by
 unfold byteB
 have:(UInt8.ofNat n.toNat).toNat=n.toNat % 256:=UInt8.toNat_ofNat ..
 rw[this]
 omega
theorem q168z {g:Geom} {s:Int} (h:q23z g s):0≤s∧s<65536:=by
 rcases h with rfl | ⟨h,_⟩
 ·omega
 ·unfold Geom.what at h
  split at h
  ·rename_i hw
   unfold Geom.within at hw
   split at hw
   ·rename_i hg
    split at hw
    ·exact absurd hw (by decide)
    ·have:=(Geom.size_bd hg).2
     omega
   ·exact absurd hw (by decide)
  ·rename_i hw
   exact absurd h hw
theorem fits_bd {g:Geom} {n:Inode} (hg:g.ok) (h:n.fits g):(0≤n.kind∧n.kind<256)∧(0≤n.links∧n.links<256)∧(0≤n.size∧n.size<65536)∧(0≤n.parent∧n.parent<65536)∧(0≤n.gen∧n.gen<65536)∧(0≤n.more∧n.more<65536)∧∀d∈n.direct,0≤d∧d<65536:=by
 obtain⟨h1,h2,h3,h4,h5,h6,h⟩:=h
 have hm:=Geom.many_ok hg
 have hp:=Geom.prod hg
 rcases h with ⟨a,_,_,b,c,d⟩ | ⟨a,b,c,d⟩ | ⟨a,_,b,b2,c,d⟩
 ·refine⟨by omega,by omega,by omega,by omega,by omega,by omega,fun x hx=>?_⟩
  have:=c x hx
  omega
 ·exact⟨by omega,by omega,by omega,by omega,by omega,q168z d,fun x hx=>q168z (c x hx)⟩
 ·exact⟨by omega,by omega,by omega,by omega,by omega,q168z d,fun x hx=>q168z (c x hx)⟩
theorem inodeB_list (n:Inode) (h:n.direct.length=8):(q31z n).data.toList=byteB n.kind :: byteB n.links :: (q41z (n.size :: n.parent :: n.gen :: (n.direct ++ [n.more])) ++ zeros 38):=by
 rw[inodeB_data n h,q68z,q68z,q68z,listL2_append,q68z]
 have e:q41z []=[]:=rfl
 rw[e,List.append_nil]
 unfold q158z
 simp only[List.append_assoc,List.cons_append,List.nil_append]
theorem inodeOf_B {g:Geom} {n:Inode} (hg:g.ok) (hd:n.direct.length=8) (h:n.fits g):q44z (q31z n)=n:=by
 obtain⟨b1,b2,b3,b4,b5,b6,b7⟩:=fits_bd hg h
 have hs:=inodeB_list n hd
 obtain⟨kind,links,size,parent,gen,direct,more⟩:=n
 dsimp only at b1 b2 b3 b4 b5 b6 b7 hd
 obtain⟨s,hss⟩:∃s,q31z ⟨kind,links,size,parent,gen,direct,more⟩=s:=⟨_,rfl⟩
 rw[hss] at hs ⊢
 dsimp only at hs
 have hl:(size :: parent :: gen :: (direct ++ [more])).length=12:=by simp[hd]
 have e0:byteAt s 0=kind:=by unfold byteAt; rw[hs]; exact byteB_back b1.1 b1.2
 have e1:byteAt s 1=links:=by unfold byteAt; rw[hs]; exact byteB_back b2.1 b2.2
 have e2:(numAt s 2 2:Int)=size:=q139z hs (j:=0) (by rw[hl]; omega) b3
 have e3:(numAt s 4 2:Int)=parent:=q139z hs (j:=1) (by rw[hl]; omega) b4
 have e4:(numAt s 6 2:Int)=gen:=q139z hs (j:=2) (by rw[hl]; omega) b5
 have e5:∀k (hk:k<8),(numAt s (8+2*k) 2:Int)=direct[k]'(by omega):=fun k hk=>by
  have e:(size :: parent :: gen :: (direct ++ [more]))[k+3]'(by rw[hl]; omega)=direct[k]'(by omega):=by
   simp only[List.getElem_cons_succ]
   exact List.getElem_append_left (by omega)
  have:=q139z hs (j:=k+3) (by rw[hl]; omega) (by rw[e]; exact b7 _ (List.getElem_mem _))
  rw[e,show 2+2*(k+3)=8+2*k by omega] at this
  exact this
 have e6:(numAt s 24 2:Int)=more:=by
  have e:(size :: parent :: gen :: (direct ++ [more]))[11]'(by rw[hl]; omega)=more:=by
   simp only[List.getElem_cons_succ]
   rw[List.getElem_append_right (by omega)]
   simp
  have:=q139z hs (j:=11) (by rw[hl]; omega) (by rw[e]; exact b6)
  rw[e] at this
  exact this
 unfold q44z
 rw[e0,e1,e2,e3,e4,e6]
 congr 1
 refine List.ext_getElem (by simp[hd]) (fun k h1 h2=>?_)
 rw[List.getElem_map,List.getElem_range]
 exact e5 k (by omega)
theorem inodeB_size0 (n:Inode) (h:n.direct.length=8):(q31z n).size=64:=by
 have hl:(n.size :: n.parent :: n.gen :: (n.direct ++ [n.more])).length=12:=by simp[h]
 rw[Lib.size_eq,inodeB_list n h,List.length_cons,List.length_cons,List.length_append,q80z,zeros_length,hl]
theorem isInode_B {g:Geom} {n:Inode} (hg:g.ok) (hd:n.direct.length=8) (h:n.fits g):q65z g (q31z n):=by
 have e:=inodeOf_B hg hd h
 exact⟨inodeB_size0 n hd,by rw[e]; exact h,by rw[e]⟩
theorem numAt_listB {l:List Int} (h:l.length=32) (hb:∀b∈l,0≤b∧b<65536):(List.range 32).map (fun i:Nat=>getN (listB l) (2*(i:Int)) 2)=l:=by
 refine List.ext_getElem (by simp[h]) (fun k h1 h2=>?_)
 rw[List.getElem_map,List.getElem_range]
 exact getN_list h hb (by omega)
section
variable {g:Geom} {node epoch:Int}
end
structure Bm2 (g:Geom) (i j:Int) (S:Side) (F G:File) (X Y:List Int) (r:Nat):Prop where
 a:Bm g i S F X Y r
 b:Bm g j S G X Y r
 apart:q5z g i≠q5z g j
 dis:∀x∈F.all,x∉G.all
 fl:S.Fl
section
variable {g:Geom} {i j:Int} {S:Side} {F F' G:File} {X Y:List Int} {r:Nat}
theorem first_two (hg:g.ok) {k:Int} (hk:0≤k):2≤g.first k:=by
 have hf0:=Geom.first_bd hg (k:=0) (by omega) (by have:=hg.1; omega)
 have hlg:=Geom.long_bd hg
 have hkl:0≤k*g.long:=Int.mul_nonneg hk (by omega)
 have hfk:g.first k=g.first 0+k*g.long:=by unfold Geom.first; omega
 omega
theorem map_notOne (hg:g.ok) {k:Int} (hk:0≤k) (b:Bool):q12z g k b≠1:=by
 have:=first_two hg hk
 unfold q12z
 cases b <;> simp <;> omega
theorem takeL_fl (hg:g.ok) (hS:S.Fl) (hl:S.deps.last<1000000000) (b:Bool):∀ks:List Int,(∀k∈ks,0≤k)→(S.takeL g b ks).1.Fl
 | [],_=>hS
 | k :: r,h=>by
   unfold Side.takeL
   split
   ·exact hS
   ·split
    ·exact takeL_fl hg hS hl b r (fun k hk=>h k (List.mem_cons_of_mem _ hk))
    ·exact hS.change hl (map_notOne hg (h k (List.mem_cons_self ..)) b)
theorem block_fl (hg:g.ok) (hS:S.Fl) (hl:S.deps.last<1000000000) {ks:List Int} (hk:∀k∈ks,0≤k):(S.block g ks).1.Fl:=by
 have h:(S.take g true ks).1.Fl:=by
  unfold Side.take
  split
  ·exact takeL_fl hg hS hl true ks hk
  ·exact hS
 unfold Side.block
 split <;> exact h
theorem inode_notOne (hg:g.ok) {i:Int} (h1:1≤i):q5z g i≠1:=by
 have hi:=hg.2.2.1
 have hk:0≤(i-1) / g.inodes:=Int.ediv_nonneg (by omega) (by omega)
 have:=first_two hg hk
 have hm:0≤(i-1) % g.inodes:=Int.emod_nonneg _ (by omega)
 unfold q5z
 omega
theorem block_notOne (hg:g.ok) {k p:Int} (hk:0≤k) (hp:0≤p):q22z g k p≠1:=by
 have hi:=hg.2.2.1
 have:=first_two hg hk
 unfold q22z
 omega
theorem Bm.allNotOne (h:Bm g i S F X Y r) (hg:g.ok) {c:Int} (hc:c∈Y):c≠1:=by
 obtain⟨k,p,hk,hp,rfl⟩:=h.held.blk hc
 exact block_notOne hg hk.1 hp.1
end
section
variable {g:Geom} {i j:Int} {G:File} {X Y:List Int} {r:Nat} {t:BSt}
end
section
variable {g:Geom} {i j:Int} {G:File} {X Y:List Int} {r:Nat} {t:BSt} {first:Int}
end
section
variable {g:Geom} {i j:Int} {S S':Side} {F G:File} {X Y:List Int} {r:Nat}
theorem Bm.stay (h:Bm g i S F X Y r) (hs:S.Stay S'):Bm g i S' F X Y r:=by
 have hr:S'.read=S.read:=funext hs.read
 have hhas:∀k,S'.disk.has k↔S.disk.has k:=fun k=>by unfold Disk.has; rw[hs.dlen]
 have hlook:∀k b,S'.look g k b=S.look g k b:=fun k b=>by
  unfold Side.look
  rw[hr]
  by_cases hc:S.disk.has (q12z g k b)∧mapC (S.read (q12z g k b)) (manyG g b)=0
  ·rw[if_pos hc,if_pos ⟨(hhas _).2 hc.1,hc.2⟩]
  ·rw[if_neg hc,if_neg (fun hh=>hc ⟨(hhas _).1 hh.1,hh.2⟩)]
 have ht:∀{b:Bool} {no:Int→Int→Int} {X:List Int},Taken S g b no X→Taken S' g b no X:=fun h=>⟨fun k h0 h1=>by rw[hlook]; exact h.look k h0 h1,h.sub,h.nodup⟩
 exact⟨⟨hs.fl.ok,ht h.held.ti,ht h.held.tb,by have:=hs.few; have:=h.held.few; omega,by rw[hs.last]; exact h.held.last⟩,by rw[hr]; exact h.file,h.own,by rw[hs.dlen]; exact h.dlen⟩
end
section
variable {g:Geom} {S S':Side} {t0 t1:List UInt8} {m:Nat}
end
end Go.Proofs.YtaphcmcimoloiaaGreatDoor.Sp
