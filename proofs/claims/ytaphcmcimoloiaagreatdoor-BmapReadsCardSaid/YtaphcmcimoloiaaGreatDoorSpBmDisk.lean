/-
 Layer 16 as plain data: two files beside one another: what is done to one leaves the other; and how many changes it makes. No program in this text.
-/
import Derived.Test.YtaphcmcimoloiaaGreatDoorSpH
import Derived.Test.YtaphcmcimoloiaaGreatDoorSpJ
import Derived.Test.YtaphcmcimoloiaaGreatDoorSpI
namespace Go.Proofs.YtaphcmcimoloiaaGreatDoor.Sp
open Go Txt
structure Bm2 (g:Geom) (i j:Int) (S:Side) (F G:File) (X Y:List Int) (r:Nat):Prop where
 a:Bm g i S F X Y r
 b:Bm g j S G X Y r
 apart:inodeSec g i≠inodeSec g j
 dis:∀x∈F.all,x∉G.all
 fl:S.Fl
def mz (F:File):Nat:=if F.more=0 then 5 else 0
section
variable {g:Geom} {i j:Int} {S:Side} {F F' G:File} {X Y:List Int} {r:Nat}
theorem Bm.notIn (h:Bm g i S F X Y r) (hg:g.ok) (j:Int):inodeSec g j∉F.all:=fun hm=>by
 obtain ⟨k,p,_,hp,e⟩:=h.held.blk (h.own _ hm)
 exact inode_not_block hg hp e
theorem Bm2.swap (h:Bm2 g i j S F G X Y r):Bm2 g j i S G F X Y r:=⟨h.b,h.a,fun e=>h.apart e.symm,fun x hx hx2=>h.dis x hx2 hx,h.fl⟩
theorem first_two (hg:g.ok) {k:Int} (hk:0≤k):2≤g.first k:=by
 have hf0:=Geom.first_bd hg (k:=0) (by omega) (by have:=hg.1; omega)
 have hlg:=Geom.long_bd hg
 have hkl:0≤k*g.long:=Int.mul_nonneg hk (by omega)
 have hfk:g.first k=g.first 0+k*g.long:=by unfold Geom.first; omega
 omega
theorem map_notOne (hg:g.ok) {k:Int} (hk:0≤k) (b:Bool):mapAtG g k b≠1:=by
 have:=first_two hg hk
 unfold mapAtG
 cases b <;> simp <;> omega
theorem takeL_fl (hg:g.ok) (hS:S.Fl) (hl:S.deps.last<1000000000) (b:Bool):∀ks:List Int,(∀k∈ks,0≤k)→(S.takeL g b ks).1.Fl
 | [],_=>hS
 | k :: r,h=>by
   unfold Side.takeL
   split
   ·exact hS
   ·split
    ·exact takeL_fl hg hS hl b r (fun k hk=>h k (List.mem_cons_of_mem _ hk))
    ·exact hS.change hl (map_notOne hg (h k (List.mem_cons_self ..)) b)
theorem block_fl (hg:g.ok) (hS:S.Fl) (hl:S.deps.last<1000000000) {ks:List Int} (hk:∀k∈ks,0≤k):(S.block g ks).1.Fl:=by
 have h:(S.take g true ks).1.Fl:=by
  unfold Side.take
  split
  ·exact takeL_fl hg hS hl true ks hk
  ·exact hS
 unfold Side.block
 split <;> exact h
theorem freeBlock_fl (hg:g.ok) (hS:S.Fl) (hl:S.deps.last<1000000000) {k p:Int} (hk:0≤k∧k<g.groups) (hp:0≤p∧p<g.blocks) (ahead:List Int):(S.freeBlock g (blockNo g k p) ahead).1.Fl:=by
 obtain ⟨_,_,hkd⟩:=block_kind hg hk hp
 have hq:(k*g.blocks+p) / g.blocks=k:=by
  rw [Int.add_comm,Int.add_mul_ediv_right _ _ (by omega),Int.ediv_eq_zero_of_lt hp.1 hp.2]
  omega
 unfold Side.freeBlock
 split
 ·rw [hkd]
  dsimp only
  rw [hq]
  unfold Side.give
  split
  ·exact hS
  ·split
   ·exact hS.change hl (map_notOne hg hk.1 true)
   ·exact hS
 ·exact hS
theorem inode_notOne (hg:g.ok) {i:Int} (h1:1≤i):inodeSec g i≠1:=by
 have hi:=hg.2.2.1
 have hk:0≤(i-1) / g.inodes:=Int.ediv_nonneg (by omega) (by omega)
 have:=first_two hg hk
 have hm:0≤(i-1) % g.inodes:=Int.emod_nonneg _ (by omega)
 unfold inodeSec
 omega
theorem block_notOne (hg:g.ok) {k p:Int} (hk:0≤k) (hp:0≤p):blockNo g k p≠1:=by
 have hi:=hg.2.2.1
 have:=first_two hg hk
 unfold blockNo
 omega
theorem Bm.allNotOne (h:Bm g i S F X Y r) (hg:g.ok) {c:Int} (hc:c∈Y):c≠1:=by
 obtain ⟨k,p,hk,hp,rfl⟩:=h.held.blk hc
 exact block_notOne hg hk.1 hp.1
theorem Bm2.mine (h:Bm2 g i j S F G X Y r) (hg:g.ok) {c:Int} (hc:c=inodeSec g i∨c∈F.all):(∀k b,c≠mapAtG g k b)∧c≠inodeSec g j∧c∉G.all:=by
 rcases hc with rfl | hc
 ·exact ⟨fun k b=>inode_not_map hg k b,h.apart,h.b.notIn hg i⟩
 ·refine ⟨fun k b e=>?_,fun e=>h.a.notIn hg j (e ▸ hc),h.dis c hc⟩
  obtain ⟨k',p,_,hp,e2⟩:=h.a.held.blk (h.a.own _ hc)
  exact block_not_map hg hp k b (e2.symm.trans e)
theorem Bm2.touch (h:Bm2 g i j S F G X Y r) (hg:g.ok) (h1:1≤i) (hr:r<1024) {c off:Int} {x:ByteArray} {ahead:List Int} (hc:c=inodeSec g i∨c∈F.all) (h0:S.changeC c off x ahead=0) (ha:Bm g i (S.change c off x ahead) F' X Y (r+1)) (hd:∀x∈F'.all,x∉G.all) :
 Bm2 g i j (S.change c off x ahead) F' G X Y (r+1)∧G.img (S.change c off x ahead).read=G.img S.read:=by
 obtain ⟨m1,m2,m3⟩:=h.mine hg hc
 have ho:=h.b.other hr h0 m1 m2 m3
 refine ⟨⟨ha,ho.1,h.apart,hd,h.fl.change (by have:=h.a.held.last; omega) ?_⟩,ho.2⟩
 rcases hc with rfl | hc
 ·exact inode_notOne hg h1
 ·exact h.a.allNotOne hg (h.a.own _ hc)
theorem point_in (g:Geom) (i:Int) (F:File) {q:Nat} (hm:8≤q→F.more≠0):pointSec g i F q=inodeSec g i∨pointSec g i F q∈F.all:=by
 unfold pointSec
 by_cases hq:q<8
 ·rw [if_pos hq]; exact Or.inl rfl
 ·rw [if_neg hq]
  exact Or.inr (mem_all.2 ⟨Or.inl rfl,hm (by omega)⟩)
theorem all_set {q:Nat} {b:Int} {x:Int} (hx:x∈({ F with blocks:=F.blocks.set q b }:File).all):x∈F.all∨x=b:=by
 obtain ⟨h1,h2⟩:=mem_all.1 hx
 rcases h1 with h1 | h1
 ·exact Or.inl (mem_all.2 ⟨Or.inl h1,h2⟩)
 ·rcases List.mem_or_eq_of_mem_set h1 with h1 | h1
  ·exact Or.inl (mem_all.2 ⟨Or.inr h1,h2⟩)
  ·exact Or.inr h1
theorem all_more {m:Int} {x:Int} (hx:x∈({ F with more:=m }:File).all):x∈F.all∨x=m:=by
 obtain ⟨h1,h2⟩:=mem_all.1 hx
 rcases h1 with h1 | h1
 ·exact Or.inr h1
 ·exact Or.inl (mem_all.2 ⟨Or.inr h1,h2⟩)
def Keeps (Y Y':List Int) (F F':File):Prop:=∀y∈Y',(y∈Y∧(y∈F.all→y∈F'.all))∨y∈F'.all
theorem Keeps.refl (Y:List Int) (F:File):Keeps Y Y F F:=fun _ hy=>Or.inl ⟨hy,id⟩
theorem Keeps.trans {Y Y' Y2:List Int} {F F' F2:File} (h:Keeps Y Y' F F') (k:Keeps Y' Y2 F' F2):Keeps Y Y2 F F2:=fun y hy=>by
 rcases k y hy with ⟨h1,h2⟩ | h1
 ·rcases h y h1 with ⟨h3,h4⟩ | h3
  ·exact Or.inl ⟨h3,fun h5=>h2 (h4 h5)⟩
  ·exact Or.inr (h2 h3)
 ·exact Or.inr h1
def Full (Y:List Int) (F G:File):Prop:=∀y∈Y,y∈F.all∨y∈G.all
theorem Full.keeps {Y Y':List Int} {F F' G:File} (h:Full Y F G) (k:Keeps Y Y' F F'):Full Y' F' G:=fun y hy=>by
 rcases k y hy with ⟨h1,h2⟩ | h1
 ·exact (h y h1).imp_left h2
 ·exact Or.inl h1
theorem Full.swap {Y:List Int} {F G:File} (h:Full Y F G):Full Y G F:=fun y hy=>(h y hy).symm
theorem all_place {F:File} {q:Nat} {b y:Int} (hy:y∈F.all) (hne:y≠F.blocks.getD q 0):y∈({ F with blocks:=F.blocks.set q b }:File).all:=by
 obtain ⟨h1,h2⟩:=mem_all.1 hy
 refine mem_all.2 ⟨h1.imp_right (fun h1=>?_),h2⟩
 obtain ⟨k,hk,e⟩:=List.mem_iff_getElem.1 h1
 refine List.mem_iff_getElem.2 ⟨k,by rw [List.length_set]; exact hk,?_⟩
 rw [List.getElem_set,if_neg,e]
 intro hqk
 subst hqk
 rw [List.getD_eq_getElem?_getD,List.getElem?_eq_getElem hk] at hne
 exact hne e.symm
theorem all_placed {F:File} {q:Nat} {b:Int} (hq:q<F.blocks.length) (h0:b≠0):b∈({ F with blocks:=F.blocks.set q b }:File).all:=
 mem_all.2 ⟨Or.inr (List.mem_iff_getElem.2 ⟨q,by rw [List.length_set]; exact hq,by rw [List.getElem_set,if_pos rfl]⟩),h0⟩
end
section
variable {g:Geom} {i j:Int} {G:File} {X Y:List Int} {r:Nat} {t:BSt}
theorem two_fresh (h:Bm2 g i j t.S t.F G X Y r) (hg:g.ok) (hr:r+1<1024) {ks:List Int} (hk:∀k∈ks,0≤k∧k<g.groups) {x:ByteArray} (hx:x.size=64) :
 t.freshC g ks x=109∨(t.freshC g ks x=0∧∃N,N∉Y∧N≠0∧t.newN g ks=N∧t.newA g ks x=[(t.S.deps.last:Int)+1,(t.S.deps.last:Int)+2]∧Bm2 g i j (t.fresh g ks x).S t.F G X (Y ++ [N]) (r+2) ∧
  t.F.img (t.fresh g ks x).S.read=t.F.img t.S.read∧G.img (t.fresh g ks x).S.read=G.img t.S.read∧(t.fresh g ks x).S.read N=x∧(t.fresh g ks x).S.deps.last=t.S.deps.last+2 ∧
  (t.fresh g ks x).made=t.made ++ [(t.S.deps.last:Int)+1] ++ [(t.S.deps.last:Int)+2]):=by
 rcases h.a.block hg (by omega) hk with ⟨N,S1,e1,n1,⟨k,p,hkk,hpp,hN⟩,b1,i1,l1⟩ | ⟨e1,_⟩
 ·right
  obtain ⟨c1,k1⟩:Bm g j S1 G X (Y ++ [N]) (r+1)∧G.img S1.read=G.img t.S.read:=by
   rcases h.b.block hg (by omega) hk with ⟨N',S1',e1',_,_,b1',i1',_⟩ | ⟨e1',_⟩
   ·rw [e1] at e1'
    cases e1'
    exact ⟨b1',i1'⟩
   ·rw [e1] at e1'
    cases e1'
  have hb0:N≠0:=by
   have hbk:=block_kind hg hkk hpp
   have hf0:=Geom.first_bd hg (k:=0) (by omega) (by omega)
   have hlg:=Geom.long_bd hg
   have hkl:0≤k*g.long:=Int.mul_nonneg hkk.1 (by omega)
   have hi:=hg.2.2.1
   rw [hN]
   unfold blockNo
   have hfk:g.first k=g.first 0+k*g.long:=by unfold Geom.first; omega
   omega
  have hfl1:S1.Fl:=by
   have:=block_fl hg h.fl (by have:=h.a.held.last; omega) (ks:=ks) (fun k hk'=>(hk k hk').1)
   rw [e1] at this
   exact this
  have hNF:N∉t.F.all:=fun hm=>n1 (h.a.own _ hm)
  have hNG:N∉G.all:=fun hm=>n1 (h.b.own _ hm)
  have hf:=b1.fill hg (by omega) (N:=N) (List.mem_append_right _ (List.mem_singleton.2 rfl)) hNF hx (ahead:=[(t.S.deps.last:Int)+1]) (fun n hn=>by rw [List.mem_singleton] at hn; omega)
  have hg2:=c1.fill hg (by omega) (N:=N) (List.mem_append_right _ (List.mem_singleton.2 rfl)) hNG hx (ahead:=[(t.S.deps.last:Int)+1]) (fun n hn=>by rw [List.mem_singleton] at hn; omega)
  have hl:=Side.change_last hf.1
  have eS:(t.fresh g ks x).S=S1.change N 0 x [(t.S.deps.last:Int)+1]:=by unfold BSt.fresh BSt.chg BSt.newN BSt.took; dsimp only; rw [e1]
  have eN:t.newN g ks=N:=by unfold BSt.newN; rw [e1]
  have eA:t.newA g ks x=[(t.S.deps.last:Int)+1,(t.S.deps.last:Int)+2]:=by
   unfold BSt.newA BSt.newN BSt.took
   dsimp only
   rw [e1]
   dsimp only
   rw [hl.2,l1]
   rfl
  have eC:t.freshC g ks x=0:=by
   unfold BSt.freshC BSt.newN BSt.took
   dsimp only
   rw [e1]
   dsimp only
   rw [thenC_zero rfl]
   exact hf.1
  have eM:(t.fresh g ks x).made=t.made ++ [(t.S.deps.last:Int)+1] ++ [(t.S.deps.last:Int)+2]:=by
   unfold BSt.fresh BSt.chg BSt.newN BSt.took
   dsimp only
   rw [e1]
   dsimp only
   rw [hl.2,l1]
   rfl
  refine ⟨eC,N,n1,hb0,eN,eA,by rw [eS]; exact ⟨hf.2.1,hg2.2.1,h.apart,h.dis,hfl1.change (by rw [l1]; have:=h.a.held.last; omega) (b1.allNotOne hg (List.mem_append_right _ (List.mem_singleton.2 rfl)))⟩,by rw [eS]; exact hf.2.2.1.trans i1,by rw [eS]; exact hg2.2.2.1.trans k1,by rw [eS]; exact hf.2.2.2,by rw [eS,hl.1,l1],eM⟩
 ·left
  unfold BSt.freshC
  rw [e1]
  exact thenC_no (show (109:Int)≠0 by decide)
theorem two_list (h:Bm2 g i j t.S t.F G X Y r) (hm:MadeOk t) (hg:g.ok) (h1:1≤i) (h2:i≤g.groups*g.inodes) (hr:r+4<1024) {ks:List Int} (hk:∀k∈ks,0≤k∧k<g.groups) (q:Nat) :
 t.listedC g i ks q=109∨(t.listedC g i ks q=0∧∃Y' r',r'≤r+3∧Bm2 g i j (t.listed g i ks q).S (t.listed g i ks q).F G X Y' r'∧MadeOk (t.listed g i ks q)∧(t.listed g i ks q).F.img (t.listed g i ks q).S.read=t.F.img t.S.read∧G.img (t.listed g i ks q).S.read=G.img t.S.read ∧
  (t.listed g i ks q).F.blocks=t.F.blocks∧(8≤q→(t.listed g i ks q).F.more≠0)∧sameFile t.F (t.listed g i ks q).F∧r' + 2*Y'.length+mz (t.listed g i ks q).F≤r+2*Y.length+mz t.F∧Keeps Y Y' t.F (t.listed g i ks q).F):=by
 by_cases hq:8≤q∧t.F.more=0
 ·rcases two_fresh h hg (by omega) hk (x:=blank) (by unfold blank; rw [Lib.size_eq,ofL_data,zeros_length]) with e | ⟨e0,N,n1,n0,eN,eA,b2,i2,g2,rd,l2,em⟩
  ·left
   unfold BSt.listedC
   rw [if_pos hq,e]
   exact thenC_no (by decide)
  ·right
   have hnb:N∉t.F.blocks:=fun hmm=>n1 (h.a.own N (mem_all.2 ⟨Or.inr hmm,n0⟩))
   have hset:=b2.a.setMore hg h1 h2 (by omega) (m:=N) (fun e=>absurd e n0) (fun _=>⟨List.mem_append_right _ (List.mem_singleton.2 rfl),hnb,by rw [rd,h.a.file.none hq.2,listB_blank]⟩) (ahead:=[(t.S.deps.last:Int)+1,(t.S.deps.last:Int)+2]) (fun n hn=>by
    rw [l2]
    simp only [List.mem_cons,List.not_mem_nil,or_false] at hn
    omega)
   have hto:=b2.touch hg h1 (by omega) (Or.inl rfl) hset.1 hset.2.1 (fun x hx=>by
    rcases all_more hx with hx | rfl
    ·exact h.dis x hx
    ·exact fun hmm=>n1 (h.b.own _ hmm))
   have et:t.listed g i ks q=(t.fresh g ks blank).more g i N [(t.S.deps.last:Int)+1,(t.S.deps.last:Int)+2]:=by
    unfold BSt.listed
    rw [if_pos hq,eN,eA]
   have eC:t.listedC g i ks q=0:=by
    unfold BSt.listedC BSt.moreC
    rw [if_pos hq,e0,thenC_zero rfl,eN,eA]
    exact hset.1
   have hmf:MadeOk (t.fresh g ks blank):=fun n hn=>by
    rw [em] at hn
    rw [l2]
    simp only [List.mem_append,List.mem_singleton] at hn
    rcases hn with (hn | hn) | hn
    ·have:=hm n hn; omega
    ·omega
    ·omega
   rw [et]
   refine ⟨eC,Y ++ [N],r+2+1,by omega,hto.1,made_file (made_chg hmf hset.1) _,hset.2.2.trans i2,hto.2.trans g2,rfl,fun _=>n0,⟨rfl,rfl,rfl,rfl,rfl⟩,?_,fun y hy=>?_⟩
   ·rw [List.length_append,List.length_singleton]
    have z1:mz ((t.fresh g ks blank).more g i N [(t.S.deps.last:Int)+1,(t.S.deps.last:Int)+2]).F=0:=if_neg n0
    have z2:mz t.F=5:=if_pos hq.2
    rw [z1,z2]
    omega
   ·rcases List.mem_append.1 hy with hy | hy
    ·refine Or.inl ⟨hy,fun hf=>?_⟩
     obtain ⟨h3,h4⟩:=mem_all.1 hf
     exact mem_all.2 ⟨Or.inr (h3.resolve_left (fun e=>h4 (e.trans hq.2))),h4⟩
    ·rw [List.mem_singleton] at hy
     subst hy
     exact Or.inr (mem_all.2 ⟨Or.inl rfl,n0⟩)
 ·right
  have et:t.listed g i ks q=t:=if_neg hq
  rw [et]
  exact ⟨if_neg hq,Y,r,by omega,h,hm,rfl,rfl,rfl,fun h8 e=>hq ⟨h8,e⟩,⟨rfl,rfl,rfl,rfl,rfl⟩,Nat.le_refl _,Keeps.refl _ _⟩
theorem two_named (h:Bm2 g i j t.S t.F G X Y r) (hm:MadeOk t) (hg:g.ok) (h1:1≤i) (h2:i≤g.groups*g.inodes) (hr:r+4<1024) {ks:List Int} (hk:∀k∈ks,0≤k∧k<g.groups) {q off:Nat} (hq:q<40) (hmo:8≤q→t.F.more≠0) (h0:t.F.blocks.getD q 0=0) {x:ByteArray} (hx:off+x.size≤64) :
 t.namedC g i ks q off x=109∨(t.namedC g i ks q off x=0∧∃N,N≠0∧N∉Y∧Bm2 g i j (t.named g i ks q off x).S (t.named g i ks q off x).F G X (Y ++ [N]) (r+3)∧MadeOk (t.named g i ks q off x)∧(t.named g i ks q off x).F = { t.F with blocks:=t.F.blocks.set q N } ∧
  (t.named g i ks q off x).F.img (t.named g i ks q off x).S.read=patchL (t.F.img t.S.read) (64*q+off) x.data.toList∧G.img (t.named g i ks q off x).S.read=G.img t.S.read):=by
 rcases two_fresh h hg (by omega) hk (allB_size hx) with e | ⟨e0,N,n1,n0,eN,eA,b2,i2,g2,rd,l2,em⟩
 ·left
  unfold BSt.namedC
  rw [e]
  exact thenC_no (by decide)
 ·right
  have hp:=b2.a.point hg h1 h2 (by omega) hq (b:=N) (Or.inr ⟨List.mem_append_right _ (List.mem_singleton.2 rfl),fun hmm=>n1 (h.a.own N hmm)⟩) hmo (ahead:=[(t.S.deps.last:Int)+1,(t.S.deps.last:Int)+2]) (fun n hn=>by
   rw [l2]
   simp only [List.mem_cons,List.not_mem_nil,or_false] at hn
   omega)
  have hto:=b2.touch hg h1 (by omega) (point_in g i t.F hmo) hp.1 hp.2.1 (fun x hx=>by
   rcases all_set hx with hx | rfl
   ·exact h.dis x hx
   ·exact fun hmm=>n1 (h.b.own _ hmm))
  have et:t.named g i ks q off x=(t.fresh g ks (allB off x)).name g i q N [(t.S.deps.last:Int)+1,(t.S.deps.last:Int)+2]:=by
   unfold BSt.named
   rw [eN,eA]
  have eF:(t.fresh g ks (allB off x)).F=t.F:=rfl
  have eC:t.namedC g i ks q off x=0:=by
   unfold BSt.namedC BSt.nameC
   rw [e0,thenC_zero rfl,eN,eA,eF]
   exact hp.1
  have hmf:MadeOk (t.fresh g ks (allB off x)):=fun n hn=>by
   rw [em] at hn
   rw [l2]
   simp only [List.mem_append,List.mem_singleton] at hn
   rcases hn with (hn | hn) | hn
   ·have:=hm n hn; omega
   ·omega
   ·omega
  have hq2:q<t.F.blocks.length:=by rw [h.a.file.len]; exact hq
  have hb0:t.F.blocks[q]=0:=by
   rw [List.getD_eq_getElem?_getD,List.getElem?_eq_getElem hq2] at h0
   exact h0
  refine ⟨eC,N,n0,n1,?_⟩
  rw [et]
  refine ⟨hto.1,made_file (made_chg hmf hp.1) _,rfl,?_,hto.2.trans g2⟩
  refine Eq.trans hp.2.2 ?_
  have hs:secL (t.fresh g ks (allB off x)).S.read N=patchL (zeros 64) off x.data.toList:=by
   unfold secL
   rw [if_neg n0,rd]
   unfold allB
   rw [ofL_data]
  rw [hs,i2]
  exact img_new h.a.file (h.a.sized hg) hq hb0 hx
theorem two_put (h:Bm2 g i j t.S t.F G X Y r) (hm:MadeOk t) (hg:g.ok) (h1:1≤i) (h2:i≤g.groups*g.inodes) (hr:r+8<1024) {ks:List Int} (hk:∀k∈ks,0≤k∧k<g.groups) {q off:Nat} (hq:q<40) {x:ByteArray} (hx:off+x.size≤64) (hx1:1≤x.size) :
 t.putC g i ks q off x=109∨(t.putC g i ks q off x=0∧∃Y' r',r'≤r+6∧Bm2 g i j (t.put g i ks q off x).S (t.put g i ks q off x).F G X Y' r'∧MadeOk (t.put g i ks q off x)∧(t.put g i ks q off x).F.img (t.put g i ks q off x).S.read=patchL (t.F.img t.S.read) (64*q+off) x.data.toList ∧
  G.img (t.put g i ks q off x).S.read=G.img t.S.read∧sameFile t.F (t.put g i ks q off x).F∧r' + 2*Y'.length+mz (t.put g i ks q off x).F≤r+2*Y.length+mz t.F+5∧Keeps Y Y' t.F (t.put g i ks q off x).F):=by
 have hq2:q<t.F.blocks.length:=by rw [h.a.file.len]; exact hq
 have hgd:t.F.blocks.getD q 0=t.F.blocks[q]:=by rw [List.getD_eq_getElem?_getD,List.getElem?_eq_getElem hq2]; rfl
 by_cases h0:t.F.blocks.getD q 0≠0
 ·right
  have et:t.put g i ks q off x=t.chg (t.F.blocks.getD q 0) off x []:=if_pos h0
  have eC:t.putC g i ks q off x=t.S.changeC (t.F.blocks.getD q 0) off x []:=if_pos h0
  have hdt:=h.a.data hg (by omega) hq (by rw [←hgd]; exact h0) hx hx1 (ahead:=[]) (by simp)
  rw [←hgd] at hdt
  have hto:=h.touch hg h1 (by omega) (Or.inr (mem_all.2 ⟨Or.inr (by rw [hgd]; exact List.getElem_mem hq2),h0⟩)) hdt.1 hdt.2.1 h.dis
  rw [et]
  exact ⟨eC.trans hdt.1,Y,r+1,by omega,hto.1,made_chg hm hdt.1,hdt.2.2,hto.2,⟨rfl,rfl,rfl,rfl,rfl⟩,by show r+1+_+mz t.F≤_; omega,Keeps.refl _ _⟩
 ·have h00:t.F.blocks.getD q 0=0:=Classical.byContradiction h0
  have et:t.put g i ks q off x=(t.listed g i ks q).named g i ks q off x:=if_neg h0
  have eC:t.putC g i ks q off x=thenC (t.listedC g i ks q) ((t.listed g i ks q).namedC g i ks q off x):=if_neg h0
  rw [et,eC]
  rcases two_list h hm hg h1 h2 (by omega) hk q with e | ⟨e,Y1,r1,hr1,b1,m1,i1,g1,bl1,mo1,s1,p1,kp1⟩
  ·left
   rw [e]
   exact thenC_no (by decide)
  ·rw [thenC_zero e]
   rcases two_named b1 m1 hg h1 h2 (by omega) hk hq mo1 (by rw [bl1]; exact h00) hx with e2 | ⟨e2,N,n0,nY,b2,m2,f2,i2,g2⟩
   ·exact Or.inl e2
   ·right
    refine ⟨e2,Y1 ++ [N],r1+3,by omega,b2,m2,by rw [i2,i1],g2.trans g1,?_,?_,?_⟩
    ·rw [f2]; exact s1
    ·rw [List.length_append,List.length_singleton,f2]
     show _+mz (t.listed g i ks q).F≤_
     omega
    ·rw [f2]
     refine kp1.trans fun y hy=>?_
     rcases List.mem_append.1 hy with hy | hy
     ·exact Or.inl ⟨hy,fun hf=>all_place hf (fun e=>(mem_all.1 hf).2 (e.trans (by rw [bl1]; exact h00)))⟩
     ·rw [List.mem_singleton] at hy
      subst hy
      exact Or.inr (all_placed (by rw [bl1]; exact hq2) n0)
end
end Go.Proofs.YtaphcmcimoloiaaGreatDoor.Sp
namespace Go.Proofs.YtaphcmcimoloiaaGreatDoor.Sp
open Go Txt
section
variable {g:Geom} {i j:Int} {G:File} {X Y:List Int} {r:Nat} {t:BSt} {first:Int}
theorem two_sized (h:Bm2 g i j t.S t.F G X Y r) (hm:MadeOk t) (hg:g.ok) (h1:1≤i) (h2:i≤g.groups*g.inodes) (hr:r<1024) (z:Int) {ahead:List Int} (ha:∀n∈ahead,1≤n∧n≤(t.S.deps.last:Int)) :
 t.sizedC g i z ahead=0∧Bm2 g i j (t.sized g i z ahead).S (t.sized g i z ahead).F G X Y (r+1)∧MadeOk (t.sized g i z ahead)∧(t.sized g i z ahead).F.img (t.sized g i z ahead).S.read=t.F.img t.S.read∧G.img (t.sized g i z ahead).S.read=G.img t.S.read∧(t.sized g i z ahead).S.deps.last=t.S.deps.last+1:=by
 have hs:=h.a.setSize hg h1 h2 hr z ha
 have hl:=Side.change_last hs.1
 have hto:=h.touch hg h1 hr (Or.inl rfl) hs.1 hs.2.1 h.dis
 exact ⟨hs.1,hto.1,made_file (made_chg hm hs.1) _,hs.2.2,hto.2,hl.1⟩
theorem two_puts (hg:g.ok) (h1:1≤i) (h2:i≤g.groups*g.inodes) {ks:List Int} (hk:∀k∈ks,0≤k∧k<g.groups) :
 ∀(f:Nat) (t:BSt) (Y:List Int) (r:Nat) (at_:Nat) (d:List UInt8),Bm2 g i j t.S t.F G X Y r→MadeOk t→r+6*f+2<1024→at_+d.length≤2560→(d=[]∨at_ % 64+d.length≤64*f) →
 BSt.putsC g i ks f t at_ d=109∨(BSt.putsC g i ks f t at_ d=0∧∃Y' r',r'≤r+6*f∧Bm2 g i j (BSt.puts g i ks f t at_ d).S (BSt.puts g i ks f t at_ d).F G X Y' r'∧MadeOk (BSt.puts g i ks f t at_ d) ∧
  (BSt.puts g i ks f t at_ d).F.img (BSt.puts g i ks f t at_ d).S.read=patchL (t.F.img t.S.read) at_ d∧G.img (BSt.puts g i ks f t at_ d).S.read=G.img t.S.read∧sameFile t.F (BSt.puts g i ks f t at_ d).F∧r' + 2*Y'.length+mz (BSt.puts g i ks f t at_ d).F≤r+2*Y.length+mz t.F+5*f∧Keeps Y Y' t.F (BSt.puts g i ks f t at_ d).F)
 | 0,t,Y,r,at_,d,h,hm,hr,hat,hf=>by
   have hd0:d=[]:=hf.elim id (fun hf=>List.length_eq_zero_iff.1 (by omega))
   subst hd0
   refine Or.inr ⟨rfl,Y,r,by omega,h,hm,?_,rfl,⟨rfl,rfl,rfl,rfl,rfl⟩,Nat.le_refl _,Keeps.refl _ _⟩
   show t.F.img t.S.read=_
   unfold patchL
   simp
 | f+1,t,Y,r,at_,d,h,hm,hr,hat,hf=>by
   unfold BSt.puts BSt.putsC
   by_cases hd0:d=[]
   ·subst hd0
    rw [if_pos rfl,if_pos rfl]
    refine Or.inr ⟨rfl,Y,r,by omega,h,hm,?_,rfl,⟨rfl,rfl,rfl,rfl,rfl⟩,by omega,Keeps.refl _ _⟩
    unfold patchL
    simp
   ·rw [if_neg hd0,if_neg hd0]
    have hpos:0<d.length:=List.length_pos_iff.2 hd0
    have hmod:=Nat.mod_lt at_ (show 0<64 by decide)
    have hx:(ofL (d.take (64-at_ % 64))).size=min d.length (64-at_ % 64):=by rw [Lib.size_eq,ofL_data,List.length_take,Nat.min_comm]
    have hq:at_ / 64<40:=by omega
    have hdl:(d.drop (64-at_ % 64)).length=d.length-(64-at_ % 64):=List.length_drop
    rcases two_put h hm hg h1 h2 (by omega) hk hq (off:=at_ % 64) (x:=ofL (d.take (64-at_ % 64))) (by rw [hx]; omega) (by rw [hx]; omega) with e | ⟨e,Y1,r1,e1,b1,m1,i1,g1,s1,p1,kp1⟩
    ·left
     rw [e]
     exact thenC_no (by decide)
    ·rw [thenC_zero e]
     rcases two_puts hg h1 h2 hk f _ Y1 r1 (at_+min d.length (64-at_ % 64)) (d.drop (64-at_ % 64)) b1 m1 (by omega) (by rw [hdl]; omega) (by
      have hf:=hf.resolve_left hd0
      rw [hdl]
      by_cases hle:d.length≤64-at_ % 64
      ·exact Or.inl (List.length_eq_zero_iff.1 (by rw [hdl]; omega))
      ·right
       have e:min d.length (64-at_ % 64)=64-at_ % 64:=by omega
       rw [e]
       have e2:(at_+(64-at_ % 64)) % 64=0:=by omega
       omega) with e3 | ⟨e3,Y2,r2,e4,b2,m2,i2,g2,s2,p2,kp2⟩
     ·exact Or.inl e3
     ·refine Or.inr ⟨e3,Y2,r2,by omega,b2,m2,?_,g2.trans g1,⟨s2.1.trans s1.1,s2.2.1.trans s1.2.1,s2.2.2.1.trans s1.2.2.1,s2.2.2.2.1.trans s1.2.2.2.1,s2.2.2.2.2.trans s1.2.2.2.2⟩,by omega,kp1.trans kp2⟩
      rw [i2,i1,ofL_data,show 64*(at_ / 64)+at_ % 64=at_ from Nat.div_add_mod at_ 64]
      have ht:(d.take (64-at_ % 64)).length=min d.length (64-at_ % 64):=by rw [List.length_take,Nat.min_comm]
      rw [←ht,patch_two (by rw [ht,hdl,img_length h.a.file (h.a.sized hg)]; omega),List.take_append_drop]
theorem two_write (h:Bm2 g i j t.S t.F G X Y r) (hm:MadeOk t) (hg:g.ok) (h1:1≤i) (h2:i≤g.groups*g.inodes) {ks:List Int} (hk:∀k∈ks,0≤k∧k<g.groups) {f off:Nat} {d:List UInt8}
 (hr:r+6*f+2<1024) (hat:off+d.length≤2560) (hf:d=[]∨off % 64+d.length≤64*f) :
 t.writeC g i ks f off d=109∨(t.writeC g i ks f off d=0∧∃Y' r',r'≤r+6*f+1∧Bm2 g i j (t.write g i ks f off d).S (t.write g i ks f off d).F G X Y' r'∧MadeOk (t.write g i ks f off d) ∧
  (t.write g i ks f off d).F.img (t.write g i ks f off d).S.read=patchL (t.F.img t.S.read) off d∧G.img (t.write g i ks f off d).S.read=G.img t.S.read∧(t.write g i ks f off d).F.size=max t.F.size ((off+d.length:Nat):Int) ∧
  r' + 2*Y'.length+mz (t.write g i ks f off d).F≤r+2*Y.length+mz t.F+5*f+1∧Keeps Y Y' t.F (t.write g i ks f off d).F):=by
 unfold BSt.write BSt.writeC
 rcases two_puts hg h1 h2 hk f t Y r off d h hm hr hat hf with e | ⟨e,Y1,r1,e1,b1,m1,i1,g1,s1,p1,kp1⟩
 ·left
  rw [e]
  exact thenC_no (by decide)
 ·right
  rw [thenC_zero e]
  by_cases hz:t.F.size<((off+d.length:Nat):Int)
  ·rw [if_pos hz,if_pos hz]
   obtain ⟨c2,b2,m2,i2,g2,_⟩:=two_sized b1 m1 hg h1 h2 (by omega) ((off+d.length:Nat):Int) (ahead:=(BSt.puts g i ks f t off d).made) m1
   refine ⟨c2,Y1,r1+1,by omega,b2,m2,i2.trans i1,g2.trans g1,?_,?_,kp1⟩
   ·show ((off+d.length:Nat):Int)=_
    omega
   ·show r1+1+_+mz (BSt.puts g i ks f t off d).F≤_
    omega
  ·rw [if_neg hz,if_neg hz]
   refine ⟨rfl,Y1,r1,by omega,b1,m1,i1,g1,?_,by omega,kp1⟩
   rw [s1.2.2.1]
   omega
theorem filter_less {Y:List Int} {b:Int} (hb:b∈Y):(Y.filter (fun x=>decide (x≠b))).length+1≤Y.length:=by
 have:(Y.filter (fun x=>decide (x≠b))).length<Y.length:=by
  rw [List.length_filter_lt_length_iff_exists]
  exact ⟨b,hb,by simp⟩
 omega
theorem two_free (h:Bm2 g i j t.S t.F G X Y r) (hg:g.ok) (hr:r<1024) {b:Int} (hb:b∈Y) (hn:b∉t.F.all) (hn2:b∉G.all) {ahead:List Int} (ha:∀n∈ahead,1≤n∧n≤(t.S.deps.last:Int)) :
 ∃S',t.S.freeBlock g b ahead=(S',(t.S.deps.last:Int)+1,0)∧Bm2 g i j S' t.F G X (Y.filter (fun x=>decide (x≠b))) (r+1)∧t.F.img S'.read=t.F.img t.S.read∧G.img S'.read=G.img t.S.read∧S'.deps.last=t.S.deps.last+1:=by
 obtain ⟨S',e1,b1,i1,l1⟩:=h.a.free hg hr hb hn ha
 obtain ⟨S2,e2,b2,i2,_⟩:=h.b.free hg hr hb hn2 ha
 rw [e1] at e2
 cases e2
 have hf:S'.Fl:=by
  obtain ⟨k,p,hk,hp,e⟩:=h.a.held.blk hb
  have:=freeBlock_fl hg h.fl (by have:=h.a.held.last; omega) hk hp ahead
  rw [←e,e1] at this
  exact this
 exact ⟨S',e1,⟨b1,b2,h.apart,h.dis,hf⟩,i1,i2,l1⟩
theorem two_wipe (h:Bm2 g i j t.S t.F G X Y r) (hm:MadeOk t) (hg:g.ok) (h1:1≤i) (h2:i≤g.groups*g.inodes) (hr:r+2<1024) (hf:1≤first∧first≤(t.S.deps.last:Int)) {q:Nat} (hq:q<40) :
 t.wipeC g i first q=0∧∃Y' r',r'≤r+2∧Bm2 g i j (t.wipe g i first q).S (t.wipe g i first q).F G X Y' r'∧MadeOk (t.wipe g i first q)∧(t.wipe g i first q).F = { t.F with blocks:=t.F.blocks.set q 0 } ∧
  (t.wipe g i first q).F.img (t.wipe g i first q).S.read=patchL (t.F.img t.S.read) (64*q) (zeros 64)∧G.img (t.wipe g i first q).S.read=G.img t.S.read∧t.S.deps.last≤(t.wipe g i first q).S.deps.last∧r' + 2*Y'.length≤r+2*Y.length∧Keeps Y Y' t.F (t.wipe g i first q).F:=by
 have hcc:=bm_wipeC h.a hg h1 h2 hr hf hq
 refine ⟨hcc,?_⟩
 have hq2:q<t.F.blocks.length:=by rw [h.a.file.len]; exact hq
 have hgd:t.F.blocks.getD q 0=t.F.blocks[q]:=by rw [List.getD_eq_getElem?_getD,List.getElem?_eq_getElem hq2]; rfl
 have hs0:secL t.S.read 0=zeros 64:=if_pos rfl
 by_cases h0:t.F.blocks.getD q 0≠0
 ·have hb0:t.F.blocks[q]≠0:=by rw [←hgd]; exact h0
  have hmo:8≤q→t.F.more≠0:=fun h8 e=>hb0 (by
   have hz:=h.a.file.none e
   have:(t.F.blocks.drop 8)[q-8]? = some 0:=by rw [hz,List.getElem?_replicate,if_pos (by omega)]
   rw [List.getElem?_drop,show 8+(q-8)=q by omega,List.getElem?_eq_getElem hq2] at this
   exact Option.some.inj this)
  have hp:=h.a.point hg h1 h2 (by omega) hq (b:=0) (Or.inl rfl) hmo (ahead:=[first]) (fun n hn=>by rw [List.mem_singleton] at hn; omega)
  have hl:=Side.change_last hp.1
  have hin:t.F.blocks[q]∈t.F.all:=mem_all.2 ⟨Or.inr (List.getElem_mem hq2),hb0⟩
  have hY:t.F.blocks[q]∈Y:=h.a.own _ hin
  have hto:=h.touch hg h1 (by omega) (point_in g i t.F hmo) hp.1 hp.2.1 (fun x hx=>by
   rcases all_set hx with hx | rfl
   ·exact h.dis x hx
   ·exact fun hz=>(mem_all.1 hx).2 rfl)
  have hname:(t.name g i q 0 [first]).S=t.S.change (pointSec g i t.F q) (pointOff q) (putB 2 0) [first]:=rfl
  obtain ⟨S',e1,b1,i1,g1,l1⟩:=two_free (t:=t.name g i q 0 [first]) hto.1 hg (by omega) hY (all_wiped h.a.file hq hb0) (h.dis _ hin) (ahead:=[(t.S.deps.last:Int)+1]) (fun n hn=>by rw [List.mem_singleton] at hn; rw [hname,hl.1]; omega)
  have et:t.wipe g i first q=⟨S',{ t.F with blocks:=t.F.blocks.set q 0 },(t.name g i q 0 [first]).made ++ [(t.S.deps.last:Int)+2]⟩:=by
   unfold BSt.wipe
   rw [if_pos h0]
   unfold BSt.gone
   rw [hgd,hl.2,e1,hname,hl.1]
   rfl
  have mn:=made_file (made_chg hm hp.1) { t.F with blocks:=t.F.blocks.set q 0 }
  have hfl:=filter_less hY
  refine ⟨Y.filter (fun x=>decide (x≠t.F.blocks[q])),r+1+1,by omega,by rw [et]; exact b1,?_,by rw [et],?_,by rw [et]; exact g1.trans hto.2,by rw [et]; show _≤S'.deps.last; rw [l1,hname,hl.1]; omega,by omega,?_⟩
  rotate_left 2
  ·rw [et]
   intro y hy
   rw [List.mem_filter,decide_eq_true_iff] at hy
   exact Or.inl ⟨hy.1,fun hf=>all_place hf (by rw [hgd]; exact hy.2)⟩
  ·rw [et]
   intro n hn
   show 1≤n∧n≤(S'.deps.last:Int)
   rw [l1,hname]
   have hn:n∈(t.name g i q 0 [first]).made ++ [(t.S.deps.last:Int)+2]:=hn
   rcases List.mem_append.1 hn with hn | hn
   ·have hn2:=mn n hn
    have hn2:1≤n∧n≤((t.S.change (pointSec g i t.F q) (pointOff q) (putB 2 0) [first]).deps.last:Int):=hn2
    omega
   ·rw [List.mem_singleton] at hn
    rw [hl.1]
    omega
  ·rw [et]
   show File.img _ S'.read=_
   refine i1.trans ?_
   rw [←hs0]
   exact hp.2.2
 ·have h00:t.F.blocks.getD q 0=0:=Classical.byContradiction h0
  have hb0:t.F.blocks[q]=0:=by rw [←hgd]; exact h00
  have et:t.wipe g i first q=t:=if_neg h0
  have hset:t.F.blocks.set q 0=t.F.blocks:=by
   have:=List.set_getElem_self hq2
   rw [hb0] at this
   exact this
  rw [et]
  refine ⟨Y,r,by omega,h,hm,by rw [hset],?_,rfl,Nat.le_refl _,Nat.le_refl _,Keeps.refl _ _⟩
  have hsec:=img_sec h.a.file (h.a.sized hg) hq
  rw [hb0,hs0] at hsec
  have hself:patchL (t.F.img t.S.read) (64*q) (((t.F.img t.S.read).drop (64*q)).take 64)=t.F.img t.S.read:=by
   unfold patchL
   have ht:(((t.F.img t.S.read).drop (64*q)).take 64).length=64:=by rw [hsec]; exact zeros_length 64
   rw [ht,←List.drop_drop,List.append_assoc,List.take_append_drop,List.take_append_drop]
  rw [hsec] at hself
  exact hself.symm
theorem two_wipes (hg:g.ok) (h1:1≤i) (h2:i≤g.groups*g.inodes):∀(n q:Nat) (t:BSt) (Y:List Int) (r:Nat),q+n≤40→Bm2 g i j t.S t.F G X Y r→MadeOk t→r+2*n<1024→(1≤first∧first≤(t.S.deps.last:Int)) →
 BSt.wipesC g i first (List.range' q n) t=0∧∃Y' r',r'≤r+2*n∧Bm2 g i j (BSt.wipes g i first (List.range' q n) t).S (BSt.wipes g i first (List.range' q n) t).F G X Y' r'∧MadeOk (BSt.wipes g i first (List.range' q n) t)∧sameFile t.F (BSt.wipes g i first (List.range' q n) t).F∧(BSt.wipes g i first (List.range' q n) t).F.more=t.F.more ∧
  (BSt.wipes g i first (List.range' q n) t).F.img (BSt.wipes g i first (List.range' q n) t).S.read=patchL (t.F.img t.S.read) (64*q) (zeros (64*n))∧G.img (BSt.wipes g i first (List.range' q n) t).S.read=G.img t.S.read∧t.S.deps.last≤(BSt.wipes g i first (List.range' q n) t).S.deps.last∧r' + 2*Y'.length≤r+2*Y.length∧Keeps Y Y' t.F (BSt.wipes g i first (List.range' q n) t).F
 | 0,q,t,Y,r,hq,h,hm,hr,hf=>by
   refine ⟨rfl,Y,r,by omega,h,hm,⟨rfl,rfl,rfl,rfl,rfl⟩,rfl,?_,rfl,Nat.le_refl _,Nat.le_refl _,Keeps.refl _ _⟩
   show t.F.img t.S.read=_
   unfold patchL zeros
   simp
 | n+1,q,t,Y,r,hq,h,hm,hr,hf=>by
   obtain ⟨c1,Y1,r1,e1,b1,m1,f1,i1,g1,l1,y1,kp1⟩:=two_wipe h hm hg h1 h2 (by omega) hf (q:=q) (by omega)
   obtain ⟨c2,Y2,r2,e2,b2,m2,s2,mo2,i2,g2,l2,y2,kp2⟩:=two_wipes hg h1 h2 n (q+1) (t.wipe g i first q) Y1 r1 (by omega) b1 m1 (by omega) ⟨hf.1,by omega⟩
   have ew:BSt.wipes g i first (List.range' q (n+1)) t=BSt.wipes g i first (List.range' (q+1) n) (t.wipe g i first q):=by rw [List.range'_succ]; rfl
   have ec:BSt.wipesC g i first (List.range' q (n+1)) t=0:=by
    rw [List.range'_succ]
    unfold BSt.wipesC
    rw [c1,thenC_zero rfl]
    exact c2
   rw [ew]
   rw [f1] at s2 mo2
   refine ⟨ec,Y2,r2,by omega,b2,m2,s2,mo2,?_,g2.trans g1,by omega,by omega,kp1.trans kp2⟩
   rw [i2,i1,show 64*(q+1)=64*q+64 by omega,patch_next (by rw [img_length h.a.file (h.a.sized hg)]; omega)]
   congr 2
   omega
theorem two_unlist (h:Bm2 g i j t.S t.F G X Y r) (hm:MadeOk t) (hg:g.ok) (h1:1≤i) (h2:i≤g.groups*g.inodes) (hr:r+2<1024) (hf:1≤first∧first≤(t.S.deps.last:Int)) :
 t.unlistC g i first=0∧∃Y' r',r'≤r+2∧Bm2 g i j (t.unlist g i first).S (t.unlist g i first).F G X Y' r'∧MadeOk (t.unlist g i first)∧sameFile t.F (t.unlist g i first).F ∧
  (t.unlist g i first).F.img (t.unlist g i first).S.read=t.F.img t.S.read∧G.img (t.unlist g i first).S.read=G.img t.S.read∧r' + 2*Y'.length+mz (t.unlist g i first).F≤r+2*Y.length+mz t.F+5∧Keeps Y Y' t.F (t.unlist g i first).F:=by
 refine ⟨bm_unlistC h.a hg h1 h2 hr hf,?_⟩
 by_cases h0:t.F.more≠0∧t.F.blocks.drop 8=List.replicate 32 0
 ·have hp:=h.a.setMore hg h1 h2 (by omega) (m:=0) (fun _=>h0.2) (fun e=>absurd rfl e) (ahead:=[first]) (fun n hn=>by rw [List.mem_singleton] at hn; omega)
  have hl:=Side.change_last hp.1
  have hin:t.F.more∈t.F.all:=mem_all.2 ⟨Or.inl rfl,h0.1⟩
  have hY:t.F.more∈Y:=h.a.own _ hin
  have hna:t.F.more∉({ t.F with more:=0 }:File).all:=fun hx=>by
   obtain ⟨hx,_⟩:=mem_all.1 hx
   rcases hx with e | hx
   ·exact h0.1 e
   ·exact h.a.file.more_apart h0.1 hx
  have hto:=h.touch hg h1 (by omega) (Or.inl rfl) hp.1 hp.2.1 (fun x hx=>by
   rcases all_more hx with hx | rfl
   ·exact h.dis x hx
   ·exact fun hz=>(mem_all.1 hx).2 rfl)
  have hname:(t.more g i 0 [first]).S=t.S.change (inodeSec g i) 24 (putB 2 0) [first]:=rfl
  obtain ⟨S',e1,b1,i1,g1,l1⟩:=two_free (t:=t.more g i 0 [first]) hto.1 hg (by omega) hY hna (h.dis _ hin) (ahead:=[(t.S.deps.last:Int)+1]) (fun n hn=>by rw [List.mem_singleton] at hn; rw [hname,hl.1]; omega)
  have et:t.unlist g i first=⟨S',{ t.F with more:=0 },(t.more g i 0 [first]).made ++ [(t.S.deps.last:Int)+2]⟩:=by
   unfold BSt.unlist
   rw [if_pos h0]
   unfold BSt.gone
   rw [hl.2,e1,hname,hl.1]
   rfl
  have mn:=made_file (made_chg hm hp.1) { t.F with more:=0 }
  have hfl:=filter_less hY
  rw [et]
  refine ⟨Y.filter (fun x=>decide (x≠t.F.more)),r+1+1,by omega,b1,fun n hn=>?_,⟨rfl,rfl,rfl,rfl,rfl⟩,i1.trans hp.2.2,g1.trans hto.2,?_,fun y hy=>?_⟩
  ·show 1≤n∧n≤(S'.deps.last:Int)
   rw [l1,hname]
   have hn:n∈(t.more g i 0 [first]).made ++ [(t.S.deps.last:Int)+2]:=hn
   rcases List.mem_append.1 hn with hn | hn
   ·have hn2:1≤n∧n≤((t.S.change (inodeSec g i) 24 (putB 2 0) [first]).deps.last:Int):=mn n hn
    omega
   ·rw [List.mem_singleton] at hn
    rw [hl.1]
    omega
  ·have z1:mz ({ t.F with more:=0 }:File)=5:=if_pos rfl
   have z2:mz t.F=0:=if_neg h0.1
   show r+1+1+_+mz ({ t.F with more:=0 }:File)≤_
   rw [z1,z2]
   omega
  ·rw [List.mem_filter,decide_eq_true_iff] at hy
   refine Or.inl ⟨hy.1,fun hf=>?_⟩
   obtain ⟨h3,h4⟩:=mem_all.1 hf
   exact mem_all.2 ⟨Or.inr (h3.resolve_left hy.2),h4⟩
 ·have et:t.unlist g i first=t:=if_neg h0
  rw [et]
  exact ⟨Y,r,by omega,h,hm,⟨rfl,rfl,rfl,rfl,rfl⟩,rfl,rfl,by omega,Keeps.refl _ _⟩
theorem two_rest (h:Bm2 g i j t.S t.F G X Y r) (hm:MadeOk t) (hg:g.ok) (h1:1≤i) (hr:r<1024) (hf:1≤first∧first≤(t.S.deps.last:Int)) {z:Nat} (hz:z≤2560) :
 t.restC first z=0∧∃r',r'≤r+1∧Bm2 g i j (t.rest first z).S (t.rest first z).F G X Y r'∧MadeOk (t.rest first z)∧(t.rest first z).F=t.F∧t.S.deps.last≤(t.rest first z).S.deps.last ∧
  (t.rest first z).F.img (t.rest first z).S.read=patchL (t.F.img t.S.read) z (zeros (64*upB z-z))∧G.img (t.rest first z).S.read=G.img t.S.read:=by
 refine ⟨bm_restC h.a hg hr hf hz,?_⟩
 obtain ⟨r1,e1,b1,m1,f1,l1,i1⟩:=bm_rest h.a hm hg hr hf hz
 by_cases h0:z % 64≠0∧t.F.blocks.getD (z / 64) 0≠0
 ·have hq:z / 64<40:=by omega
  have hq2:z / 64<t.F.blocks.length:=by rw [h.a.file.len]; exact hq
  have hgd:t.F.blocks.getD (z / 64) 0=t.F.blocks[z / 64]:=by rw [List.getD_eq_getElem?_getD,List.getElem?_eq_getElem hq2]; rfl
  have hx:(ofL (zeros (64-z % 64))).size=64-z % 64:=by rw [Lib.size_eq,ofL_data,zeros_length]
  have hdt:=h.a.data hg hr hq (by rw [←hgd]; exact h0.2) (off:=z % 64) (x:=ofL (zeros (64-z % 64))) (by rw [hx]; omega) (by rw [hx]; omega) (ahead:=[first]) (fun n hn=>by rw [List.mem_singleton] at hn; omega)
  rw [←hgd] at hdt
  have hto:=h.touch hg h1 hr (Or.inr (mem_all.2 ⟨Or.inr (by rw [hgd]; exact List.getElem_mem hq2),h0.2⟩)) hdt.1 hdt.2.1 h.dis
  have et:t.rest first z=t.chg (t.F.blocks.getD (z / 64) 0) ((z % 64:Nat):Int) (ofL (zeros (64-z % 64))) [first]:=if_pos h0
  rw [et] at b1 m1 f1 l1 i1 ⊢
  exact ⟨r+1,by omega,hto.1,m1,f1,l1,i1,hto.2⟩
 ·have et:t.rest first z=t:=if_neg h0
  rw [et] at b1 m1 f1 l1 i1 ⊢
  exact ⟨r,by omega,h,hm,rfl,Nat.le_refl _,i1,rfl⟩
theorem two_shrunk (h:Bm2 g i j t.S t.F G X Y r) (hm:MadeOk t) (hg:g.ok) (h1:1≤i) (h2:i≤g.groups*g.inodes) (hr:r+90<1024) (hf:1≤first∧first≤(t.S.deps.last:Int)) {z:Nat} (hz:z≤2560) :
 t.shrunkC g i first z=0∧∃Y' r',r'≤r+85∧Bm2 g i j (t.shrunk g i first z).S (t.shrunk g i first z).F G X Y' r'∧MadeOk (t.shrunk g i first z)∧sameFile t.F (t.shrunk g i first z).F ∧
  (t.shrunk g i first z).F.img (t.shrunk g i first z).S.read=patchL (t.F.img t.S.read) z (zeros (2560-z))∧G.img (t.shrunk g i first z).S.read=G.img t.S.read∧r' + 2*Y'.length+mz (t.shrunk g i first z).F≤r+2*Y.length+mz t.F+6∧Keeps Y Y' t.F (t.shrunk g i first z).F:=by
 obtain ⟨c1,r1,e1,b1,m1,f1,l1,i1,g1⟩:=two_rest h hm hg h1 (by omega) hf hz
 have hup:upB z≤40∧z≤64*upB z:=by unfold upB; split <;> omega
 obtain ⟨c2,Y2,r2,e2,b2,m2,s2,mo2,i2,g2,l2,y2,kp2⟩:=two_wipes (first:=first) hg h1 h2 (40-upB z) (upB z) (t.rest first z) Y r1 (by omega) b1 m1 (by omega) ⟨hf.1,by omega⟩
 obtain ⟨c3,Y3,r3,e3,b3,m3,s3,i3,g3,y3,kp3⟩:=two_unlist b2 m2 hg h1 h2 (by omega) (first:=first) ⟨hf.1,by omega⟩
 rw [f1] at s2 mo2
 have hmz:mz (BSt.wipes g i first (List.range' (upB z) (40-upB z)) (t.rest first z)).F=mz t.F:=by unfold mz; rw [mo2]
 rw [hmz] at y3
 refine ⟨?_,Y3,r3,by omega,b3,m3,⟨s3.1.trans s2.1,s3.2.1.trans s2.2.1,s3.2.2.1.trans s2.2.2.1,s3.2.2.2.1.trans s2.2.2.2.1,s3.2.2.2.2.trans s2.2.2.2.2⟩,?_,g3.trans (g2.trans g1),?_,?_⟩
 ·unfold BSt.shrunkC
  rw [c1,thenC_zero rfl,c2,thenC_zero rfl]
  exact c3
 ·show File.img _ _=_
  refine i3.trans ?_
  rw [i2,i1]
  have:=patch_next (l:=t.F.img t.S.read) (a:=z) (n:=64*upB z-z) (m:=64*(40-upB z)) (by rw [img_length h.a.file (h.a.sized hg)]; omega)
  rw [show z+(64*upB z-z)=64*upB z by omega] at this
  rw [this]
  congr 2
  omega
 ·show r3+_+mz (BSt.unlist _ g i first).F≤_
  omega
 ·rw [f1] at kp2
  exact kp2.trans kp3
theorem two_cut (h:Bm2 g i j t.S t.F G X Y r) (hm:MadeOk t) (hg:g.ok) (h1:1≤i) (h2:i≤g.groups*g.inodes) (hr:r+92<1024) {z:Nat} (hz:z≤2560) (h0:∀n:Nat,t.F.size≤(n:Int)→patchL (t.F.img t.S.read) n (zeros (2560-n))=t.F.img t.S.read) :
 t.cutC g i z=0∧∃Y' r',r'≤r+86∧Bm2 g i j (t.cut g i z).S (t.cut g i z).F G X Y' r'∧MadeOk (t.cut g i z)∧(t.cut g i z).F.size=z ∧
  (t.cut g i z).F.img (t.cut g i z).S.read=patchL (t.F.img t.S.read) z (zeros (2560-z))∧G.img (t.cut g i z).S.read=G.img t.S.read∧r' + 2*Y'.length+mz (t.cut g i z).F≤r+2*Y.length+mz t.F+7∧Keeps Y Y' t.F (t.cut g i z).F:=by
 refine ⟨bm_cutC h.a hm hg h1 h2 hr hz,?_⟩
 unfold BSt.cut
 by_cases e:(z:Int)=t.F.size
 ·rw [if_pos e]
  refine ⟨Y,r,by omega,h,hm,e.symm,(h0 z (by omega)).symm,rfl,by omega,Keeps.refl _ _⟩
 ·rw [if_neg e]
  obtain ⟨c1,b1,m1,i1,g1,l1⟩:=two_sized h hm hg h1 h2 (by omega) (z:Int) (ahead:=[]) (by simp)
  by_cases hlt:(z:Int)<t.F.size
  ·rw [if_pos hlt]
   obtain ⟨c2,Y2,r2,e2,b2,m2,s2,i2,g2,p2,kp2⟩:=two_shrunk b1 m1 hg h1 h2 (by omega) (first:=(t.S.deps.last:Int)+1) ⟨by omega,by rw [l1]; omega⟩ hz
   have hmz:mz (t.sized g i z []).F=mz t.F:=rfl
   rw [hmz] at p2
   exact ⟨Y2,r2,by omega,b2,m2,s2.2.2.1,i2.trans (by rw [i1]),g2.trans g1,by omega,kp2⟩
  ·rw [if_neg hlt]
   refine ⟨Y,r+1,by omega,b1,m1,rfl,i1.trans (h0 z (by omega)).symm,g1,?_,Keeps.refl _ _⟩
   show r+1+_+mz t.F≤_
   omega
end
end Go.Proofs.YtaphcmcimoloiaaGreatDoor.Sp
namespace Go.Proofs.YtaphcmcimoloiaaGreatDoor.Sp
open Go Txt
/-- The file is the text. -/
structure FText (V:Int→ByteArray) (F:File) (t:List UInt8):Prop where
 alike:Same file0 F
 size:F.size=(t.length:Int)
 few:t.length≤2560
 img:F.img V=t ++ zeros (2560-t.length)
def wrT (t:List UInt8) (off:Nat) (d:List UInt8):List UInt8:=patchL (t ++ zeros (off+d.length-t.length)) off d
def cutT (t:List UInt8) (z:Nat):List UInt8:=t.take z ++ zeros (z-t.length)
theorem wrT_length (t:List UInt8) (off:Nat) (d:List UInt8):(wrT t off d).length=max t.length (off+d.length):=by
 unfold wrT
 rw [patchL_length (by rw [List.length_append,zeros_length]; omega),List.length_append,zeros_length]
 omega
theorem cutT_length (t:List UInt8) (z:Nat):(cutT t z).length=z:=by
 unfold cutT
 rw [List.length_append,zeros_length,List.length_take]
 omega
theorem zeros_add (a b:Nat):zeros a ++ zeros b=zeros (a+b):=by unfold zeros; rw [List.replicate_append_replicate]
theorem patchL_append {a b x:List UInt8} {off:Nat} (h:off+x.length≤a.length):patchL (a ++ b) off x=patchL a off x ++ b:=by
 unfold patchL
 rw [List.take_append_of_le_length (by omega),List.drop_append_of_le_length h]
 simp only [List.append_assoc]
theorem wr_img {t d:List UInt8} {off:Nat} (ht:t.length≤2560) (h:off+d.length≤2560):patchL (t ++ zeros (2560-t.length)) off d=wrT t off d ++ zeros (2560-(wrT t off d).length):=by
 have e:zeros (2560-t.length)=zeros (off+d.length-t.length) ++ zeros (2560-max t.length (off+d.length)):=by
  rw [zeros_add]
  congr 1
  omega
 rw [wrT_length,e,←List.append_assoc,patchL_append (by rw [List.length_append,zeros_length]; omega)]
 rfl
theorem cut_img {t:List UInt8} {z:Nat} (ht:t.length≤2560) (hz:z≤2560):patchL (t ++ zeros (2560-t.length)) z (zeros (2560-z))=cutT t z ++ zeros (2560-(cutT t z).length):=by
 rw [cutT_length]
 unfold cutT patchL
 rw [List.drop_of_length_le (by rw [List.length_append,zeros_length,zeros_length]; omega),List.append_nil]
 congr 1
 rw [List.take_append]
 congr 1
 unfold zeros
 rw [List.take_replicate]
 congr 1
 omega
theorem tail_zero {t:List UInt8} (ht:t.length≤2560) {n:Nat} (hn:t.length≤n):patchL (t ++ zeros (2560-t.length)) n (zeros (2560-n))=t ++ zeros (2560-t.length):=by
 unfold patchL
 rw [List.drop_of_length_le (by rw [List.length_append,zeros_length,zeros_length]; omega),List.append_nil,List.take_append,List.take_of_length_le hn,List.append_assoc]
 congr 1
 unfold zeros
 rw [List.take_replicate,List.replicate_append_replicate]
 congr 1
 omega
theorem FText.read {V:Int→ByteArray} {F:File} {t:List UInt8} (h:FText V F t):(F.img V).take F.size.toNat=t:=by
 rw [h.img,h.size,Int.toNat_natCast,List.take_append_of_le_length (Nat.le_refl _),List.take_of_length_le (Nat.le_refl _)]
section
variable {g:Geom} {i j:Int} {S S':Side} {F G:File} {X Y:List Int} {r:Nat}
theorem Bm.stay (h:Bm g i S F X Y r) (hs:S.Stay S'):Bm g i S' F X Y r:=by
 have hr:S'.read=S.read:=funext hs.read
 have hhas:∀k,S'.disk.has k↔S.disk.has k:=fun k=>by unfold Disk.has; rw [hs.dlen]
 have hlook:∀k b,S'.look g k b=S.look g k b:=fun k b=>by
  unfold Side.look
  rw [hr]
  by_cases hc:S.disk.has (mapAtG g k b)∧mapC (S.read (mapAtG g k b)) (manyG g b)=0
  ·rw [if_pos hc,if_pos ⟨(hhas _).2 hc.1,hc.2⟩]
  ·rw [if_neg hc,if_neg (fun hh=>hc ⟨(hhas _).1 hh.1,hh.2⟩)]
 have ht:∀{b:Bool} {no:Int→Int→Int} {X:List Int},Taken S g b no X→Taken S' g b no X:=fun h=>⟨fun k h0 h1=>by rw [hlook]; exact h.look k h0 h1,h.sub,h.nodup⟩
 exact ⟨⟨hs.fl.ok,ht h.held.ti,ht h.held.tb,by have:=hs.few; have:=h.held.few; omega,by rw [hs.last]; exact h.held.last⟩,by rw [hr]; exact h.file,h.own,by rw [hs.dlen]; exact h.dlen⟩
theorem Bm2.stay (h:Bm2 g i j S F G X Y r) (hs:S.Stay S'):Bm2 g i j S' F G X Y r:=⟨h.a.stay hs,h.b.stay hs,h.apart,h.dis,hs.fl⟩
end
def Texts2 (g:Geom) (S:Side) (t0 t1:List UInt8) (m:Nat):Prop:=∃F G Y r,Bm2 g 2 3 S F G [1,2,3] Y r∧FText S.read F t0∧FText S.read G t1∧r+2*Y.length+mz F+mz G≤10+21*m∧Full Y F G
section
variable {g:Geom} {S S':Side} {t0 t1:List UInt8} {m:Nat}
theorem Texts2.stay (h:Texts2 g S t0 t1 m) (hs:S.Stay S'):Texts2 g S' t0 t1 m:=by
 obtain ⟨F,G,Y,r,hb,h0,h1,hp⟩:=h
 have hr:S'.read=S.read:=funext hs.read
 exact ⟨F,G,Y,r,hb.stay hs,by rw [hr]; exact h0,by rw [hr]; exact h1,hp⟩
theorem Texts2.pick (h:Texts2 g S t0 t1 m) (k:Bool):∃F G Y r,Bm2 g (if k then 3 else 2) (if k then 2 else 3) S F G [1,2,3] Y r∧FText S.read F (if k then t1 else t0)∧FText S.read G (if k then t0 else t1)∧r+2*Y.length+mz F+mz G≤10+21*m∧Full Y F G:=by
 obtain ⟨F,G,Y,r,hb,h0,h1,hp⟩:=h
 cases k with
 | false=>exact ⟨F,G,Y,r,hb,h0,h1,hp⟩
 | true=>exact ⟨G,F,Y,r,hb.swap,h1,h0,by omega,hp.2.swap⟩
theorem texts_put {k:Bool} {F G:File} {Y:List Int} {r:Nat} {x:List UInt8} (hb:Bm2 g (if k then 3 else 2) (if k then 2 else 3) S F G [1,2,3] Y r) (h0:FText S.read F x) (h1:FText S.read G (if k then t0 else t1)) (hp:r+2*Y.length+mz F+mz G≤10+21*m∧Full Y F G) :
 Texts2 g S (if k then t0 else x) (if k then x else t1) m:=by
 cases k with
 | false=>exact ⟨F,G,Y,r,hb,h0,h1,hp⟩
 | true=>exact ⟨G,F,Y,r,hb.swap,h1,h0,by omega,hp.2.swap⟩
theorem kb_in (hg:g.ok) (h3:3≤g.inodes) (k:Bool):1≤(if k then (3:Int) else 2)∧(if k then (3:Int) else 2)≤g.groups*g.inodes:=by
 have:=in16 hg h3
 cases k <;> simp <;> omega
theorem made_none (S:Side) (F:File):MadeOk ⟨S,F,[]⟩:=fun n hn=>absurd hn (by simp)
theorem texts_write (hg:g.ok) (h3:3≤g.inodes) {k:Bool} {F G:File} {Y:List Int} {r:Nat} (hb:Bm2 g (if k then 3 else 2) (if k then 2 else 3) S F G [1,2,3] Y r) (h0:FText S.read F (if k then t1 else t0)) (h1:FText S.read G (if k then t0 else t1)) (hp:r+2*Y.length+mz F+mz G≤10+21*m∧Full Y F G) (hm:m<12)
 {ks:List Int} (hk:∀x∈ks,0≤x∧x<g.groups) {off:Nat} {d:List UInt8} (ho:off≤2400) (hd:d.length≤160) :
 (⟨S,F,[]⟩:BSt).writeC g (if k then 3 else 2) ks 4 off d=109∨((⟨S,F,[]⟩:BSt).writeC g (if k then 3 else 2) ks 4 off d=0 ∧
   Texts2 g ((⟨S,F,[]⟩:BSt).write g (if k then 3 else 2) ks 4 off d).S (if k then t0 else wrT t0 off d) (if k then wrT t1 off d else t1) (m+1)):=by
 obtain ⟨k1,k2⟩:=kb_in hg h3 k
 rcases two_write (t:=⟨S,F,[]⟩) hb (made_none S F) hg k1 k2 hk (f:=4) (off:=off) (d:=d) (by omega) (by omega) (Or.inr (by omega)) with e | ⟨e,Y',r',e1,b1,m1,i1,g1,z1,p1,kp⟩
 ·exact Or.inl e
 ·refine Or.inr ⟨e,?_⟩
  have hal:=write_alike ⟨S,F,[]⟩ g (if k then 3 else 2) ks 4 off d
  have hG:FText ((⟨S,F,[]⟩:BSt).write g (if k then 3 else 2) ks 4 off d).S.read G (if k then t0 else t1):=⟨h1.alike,h1.size,h1.few,g1.trans h1.img⟩
  have hF:FText ((⟨S,F,[]⟩:BSt).write g (if k then 3 else 2) ks 4 off d).S.read ((⟨S,F,[]⟩:BSt).write g (if k then 3 else 2) ks 4 off d).F (wrT (if k then t1 else t0) off d):=by
   refine ⟨h0.alike.trans hal,?_,by rw [wrT_length]; have:=h0.few; omega,?_⟩
   ·rw [z1,wrT_length]
    show max F.size _=_
    rw [h0.size]
    omega
   ·rw [i1]
    show patchL (F.img S.read) off d=_
    rw [h0.img]
    exact wr_img h0.few (by omega)
  have hpp:r' + 2*Y'.length+mz ((⟨S,F,[]⟩:BSt).write g (if k then 3 else 2) ks 4 off d).F+mz G≤10+21*(m+1):=by
   have p1:r' + 2*Y'.length+mz ((⟨S,F,[]⟩:BSt).write g (if k then 3 else 2) ks 4 off d).F≤r+2*Y.length+mz F+5*4+1:=p1
   omega
  have:=texts_put (k:=k) (t0:=t0) (t1:=t1) b1 hF hG ⟨hpp,hp.2.keeps kp⟩
  cases k <;> exact this
theorem texts_cut (hg:g.ok) (h3:3≤g.inodes) {k:Bool} {F G:File} {Y:List Int} {r:Nat} (hb:Bm2 g (if k then 3 else 2) (if k then 2 else 3) S F G [1,2,3] Y r) (h0:FText S.read F (if k then t1 else t0)) (h1:FText S.read G (if k then t0 else t1)) (hp:r+2*Y.length+mz F+mz G≤10+21*m∧Full Y F G) (hm:m<12)
 {z:Nat} (hz:z≤2560) :
 (⟨S,F,[]⟩:BSt).cutC g (if k then 3 else 2) z=0∧Texts2 g ((⟨S,F,[]⟩:BSt).cut g (if k then 3 else 2) z).S (if k then t0 else cutT t0 z) (if k then cutT t1 z else t1) (m+1):=by
 obtain ⟨k1,k2⟩:=kb_in hg h3 k
 obtain ⟨c1,Y',r',e1,b1,m1,z1,i1,g1,p1,kp⟩:=two_cut (t:=⟨S,F,[]⟩) hb (made_none S F) hg k1 k2 (z:=z) (by omega) hz (fun n hn=>by
  show patchL (F.img S.read) n _=F.img S.read
  rw [h0.img]
  have hn:F.size≤(n:Int):=hn
  rw [h0.size] at hn
  exact tail_zero h0.few (by omega))
 refine ⟨c1,?_⟩
 have hal:=cut_alike ⟨S,F,[]⟩ g (if k then 3 else 2) z
 have hG:FText ((⟨S,F,[]⟩:BSt).cut g (if k then 3 else 2) z).S.read G (if k then t0 else t1):=⟨h1.alike,h1.size,h1.few,g1.trans h1.img⟩
 have hF:FText ((⟨S,F,[]⟩:BSt).cut g (if k then 3 else 2) z).S.read ((⟨S,F,[]⟩:BSt).cut g (if k then 3 else 2) z).F (cutT (if k then t1 else t0) z):=by
  refine ⟨h0.alike.trans hal,by rw [z1,cutT_length],by rw [cutT_length]; exact hz,?_⟩
  rw [i1]
  show patchL (F.img S.read) z _=_
  rw [h0.img]
  exact cut_img h0.few hz
 have hpp:r' + 2*Y'.length+mz ((⟨S,F,[]⟩:BSt).cut g (if k then 3 else 2) z).F+mz G≤10+21*(m+1):=by
  have p1:r' + 2*Y'.length+mz ((⟨S,F,[]⟩:BSt).cut g (if k then 3 else 2) z).F≤r+2*Y.length+mz F+7:=p1
  omega
 have:=texts_put (k:=k) (t0:=t0) (t1:=t1) b1 hF hG ⟨hpp,hp.2.keeps kp⟩
 cases k <;> exact this
theorem plain_fl (hg:g.ok) (h3:3≤g.inodes):(plainS (laid16L g) 0 0).Fl:=by
 have hz:=Geom.size_bd hg
 have hgi:=in16 hg h3
 refine ⟨⟨(plain_ok (laid16_size hg h3) (by rw [laid16_length]; omega) 0 0).deps,fun c hc=>absurd hc (by simp [plainS]),by simp [plainS],by simp [plainS]⟩,laid16_size hg h3,by show (laid16L g).length≤1000; rw [laid16_length]; omega,fun c hc=>absurd hc (by simp [plainS]),by simp [plainS],by simp [plainS],fun x hx=>absurd hx (by simp [plainS]),fun c hc=>absurd hc (by simp [plainS]),rfl,?_,rfl,rfl⟩
 show (laid16L g)[1]? = _
 rw [laid16_at hg h3 (by omega)]
 have hf0:=Geom.first_bd hg (k:=0) (by omega) (by omega)
 have e2:=inode_notOne hg (i:=2) (by omega)
 have e3:=inode_notOne hg (i:=3) (by omega)
 unfold sec16 secAt
 rw [if_neg (by omega),if_neg (by intro hh; rcases hh with hh | hh <;> omega),if_neg (by omega),if_pos (by omega)]
theorem texts_start (hg:g.ok) (h3:3≤g.inodes):Texts2 g (plainS (laid16L g) 0 0) [] [] 0:=by
 have hgi:=in16 hg h3
 have hi0:∀V:Int→ByteArray,file0.img V=zeros 2560:=fun V=>by
  have h:secL V 0=zeros 64:=by unfold secL; rw [if_pos rfl]
  unfold File.img
  show (List.replicate 40 0).flatMap _=_
  rw [List.flatMap,List.map_replicate,h]
  unfold zeros
  rw [List.flatten_replicate_replicate]
 have hall:file0.all=[]:=by decide
 have hF:FText (plainS (laid16L g) 0 0).read file0 []:=⟨Same.refl _,rfl,by decide,by rw [hi0]; rfl⟩
 refine ⟨file0,file0,[],0,⟨laid16_bm hg h3 (Or.inl rfl),laid16_bm hg h3 (Or.inr rfl),fun e=>?_,by rw [hall]; simp,plain_fl hg h3⟩,hF,hF,by decide,fun y hy=>absurd hy (by simp)⟩
 have e1:inodeSec g 2=g.first 0+2+1:=by
  unfold inodeSec
  rw [show (2:Int)-1=1 by omega,Int.ediv_eq_zero_of_lt (by omega) (by omega),Int.emod_eq_of_lt (by omega) (by omega)]
 have e2:inodeSec g 3=g.first 0+2+2:=by
  unfold inodeSec
  rw [show (3:Int)-1=2 by omega,Int.ediv_eq_zero_of_lt (by omega) (by omega),Int.emod_eq_of_lt (by omega) (by omega)]
 omega
end
end Go.Proofs.YtaphcmcimoloiaaGreatDoor.Sp
namespace Go.Proofs.YtaphcmcimoloiaaGreatDoor.Sp
open Go Txt
theorem takeL_disk (g:Geom) (b:Bool) (S:Side):∀ks:List Int,(S.takeL g b ks).1.disk=S.disk
 | []=>rfl
 | k :: r=>by
   unfold Side.takeL
   split
   ·rfl
   ·split
    ·exact takeL_disk g b S r
    ·exact Side.change_disk ..
theorem block_disk (g:Geom) (S:Side) (ks:List Int):(S.block g ks).1.disk=S.disk:=by
 have h:(S.take g true ks).1.disk=S.disk:=by
  unfold Side.take
  split
  ·exact takeL_disk ..
  ·rfl
 unfold Side.block
 split <;> exact h
theorem give_disk (g:Geom) (b:Bool) (S:Side) (k p:Int) (ahead:List Int):(S.give g b k p ahead).1.disk=S.disk:=by
 unfold Side.give
 split
 ·rfl
 ·split
  ·exact Side.change_disk ..
  ·rfl
theorem freeBlock_disk (g:Geom) (S:Side) (s:Int) (ahead:List Int):(S.freeBlock g s ahead).1.disk=S.disk:=by
 unfold Side.freeBlock
 split
 ·exact give_disk ..
 ·rfl
section
variable (t:BSt) (g:Geom) (i:Int) (ks:List Int)
theorem chg_disk (j off:Int) (x:ByteArray) (ahead:List Int):(t.chg j off x ahead).S.disk=t.S.disk:=Side.change_disk ..
theorem fresh_disk (x:ByteArray):(t.fresh g ks x).S.disk=t.S.disk:=(chg_disk ..).trans (block_disk ..)
theorem listed_disk (q:Nat):(t.listed g i ks q).S.disk=t.S.disk:=by
 unfold BSt.listed
 split
 ·exact (chg_disk (t.fresh g ks blank) ..).trans (fresh_disk ..)
 ·rfl
theorem put_disk (q off:Nat) (x:ByteArray):(t.put g i ks q off x).S.disk=t.S.disk:=by
 unfold BSt.put
 split
 ·exact chg_disk ..
 ·exact ((chg_disk ((t.listed g i ks q).fresh g ks (allB off x)) ..).trans (fresh_disk ..)).trans (listed_disk ..)
theorem puts_disk:∀(f:Nat) (t:BSt) (at_:Nat) (d:List UInt8),(BSt.puts g i ks f t at_ d).S.disk=t.S.disk
 | 0,_,_,_=>rfl
 | f+1,t,at_,d=>by
   unfold BSt.puts
   split
   ·rfl
   ·exact (puts_disk f _ _ _).trans (put_disk ..)
theorem write_disk (f off:Nat) (d:List UInt8):(t.write g i ks f off d).S.disk=t.S.disk:=by
 unfold BSt.write
 split
 ·exact (chg_disk (BSt.puts g i ks f t off d) ..).trans (puts_disk ..)
 ·exact puts_disk ..
theorem wipe_disk (first:Int) (q:Nat):(t.wipe g i first q).S.disk=t.S.disk:=by
 unfold BSt.wipe
 split
 ·exact (freeBlock_disk g (t.name g i q 0 [first]).S ..).trans (chg_disk t ..)
 ·rfl
theorem wipes_disk (first:Int):∀(l:List Nat) (t:BSt),(BSt.wipes g i first l t).S.disk=t.S.disk
 | [],_=>rfl
 | _ :: r,_=>(wipes_disk first r _).trans (wipe_disk ..)
theorem unlist_disk (first:Int):(t.unlist g i first).S.disk=t.S.disk:=by
 unfold BSt.unlist
 split
 ·exact (freeBlock_disk g (t.more g i 0 [first]).S ..).trans (chg_disk t ..)
 ·rfl
theorem rest_disk (first:Int) (z:Nat):(t.rest first z).S.disk=t.S.disk:=by
 unfold BSt.rest
 split
 ·exact chg_disk ..
 ·rfl
theorem cut_disk (z:Nat):(t.cut g i z).S.disk=t.S.disk:=by
 unfold BSt.cut
 split
 ·rfl
 ·split
  ·exact ((unlist_disk ..).trans (wipes_disk ..)).trans ((rest_disk (t.sized g i z []) ..).trans (chg_disk t ..))
  ·exact chg_disk t ..
end
end Go.Proofs.YtaphcmcimoloiaaGreatDoor.Sp
