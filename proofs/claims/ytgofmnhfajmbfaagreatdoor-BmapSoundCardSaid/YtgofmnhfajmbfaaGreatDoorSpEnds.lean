/-
 Layer 16 as plain data: two files beside one another: what is done to one leaves the other; and how many changes it makes. No program in this text.
-/
import Derived.Test.YtgofmnhfajmbfaaGreatDoorSpH
import Derived.Test.YtgofmnhfajmbfaaGreatDoorSpJ
namespace Go.Proofs.YtgofmnhfajmbfaaGreatDoor.Sp
open Go Txt
structure Bm2 (g:Geom) (i j:Int) (S:Side) (F G:File) (X Y:List Int) (r:Nat):Prop where
 a:Bm g i S F X Y r
 b:Bm g j S G X Y r
 apart:q1z g i≠q1z g j
 dis:∀x∈F.all,x∉G.all
 fl:S.Fl
def mz (F:File):Nat:=if F.more=0 then 5 else 0
section
variable {g:Geom} {i j:Int} {S:Side} {F F' G:File} {X Y:List Int} {r:Nat}
theorem Bm.notIn (h:Bm g i S F X Y r) (hg:g.ok) (j:Int):q1z g j∉F.all:=fun hm=>by
 obtain⟨k,p,_,hp,e⟩:=h.held.blk (h.own _ hm)
 exact q27z hg hp e
theorem Bm2.swap (h:Bm2 g i j S F G X Y r):Bm2 g j i S G F X Y r:=⟨h.b,h.a,fun e=>h.apart e.symm,fun x hx hx2=>h.dis x hx2 hx,h.fl⟩
theorem q159z (hg:g.ok) {k:Int} (hk:0≤k):2≤g.first k:=by
 have hf0:=Geom.first_bd hg (k:=0) (by omega) (by have:=hg.1; omega)
 have hlg:=Geom.long_bd hg
 have hkl:0≤k*g.long:=Int.mul_nonneg hk (by omega)
 have hfk:g.first k=g.first 0+k*g.long:=by unfold Geom.first; omega
 omega
theorem map_notOne (hg:g.ok) {k:Int} (hk:0≤k) (b:Bool):q3z g k b≠1:=by
 have:=q159z hg hk
 unfold q3z
 cases b <;> simp <;> omega
theorem takeL_fl (hg:g.ok) (hS:S.Fl) (hl:S.deps.last<1000000000) (b:Bool):∀ks:List Int,(∀k∈ks,0≤k)→(S.takeL g b ks).1.Fl
 | [],_=>hS
 | k :: r,h=>by
   unfold Side.takeL
   split
   ·exact hS
   ·split
    ·exact takeL_fl hg hS hl b r (fun k hk=>h k (List.mem_cons_of_mem _ hk))
    ·exact hS.change hl (map_notOne hg (h k (List.mem_cons_self ..)) b)
theorem block_fl (hg:g.ok) (hS:S.Fl) (hl:S.deps.last<1000000000) {ks:List Int} (hk:∀k∈ks,0≤k):(S.block g ks).1.Fl:=by
 have h:(S.take g true ks).1.Fl:=by
  unfold Side.take
  split
  ·exact takeL_fl hg hS hl true ks hk
  ·exact hS
 unfold Side.block
 split <;> exact h
theorem freeBlock_fl (hg:g.ok) (hS:S.Fl) (hl:S.deps.last<1000000000) {k p:Int} (hk:0≤k∧k<g.groups) (hp:0≤p∧p<g.blocks) (ahead:List Int):(S.freeBlock g (q2z g k p) ahead).1.Fl:=by
 obtain⟨_,_,hkd⟩:=q67z hg hk hp
 have hq:(k*g.blocks+p) / g.blocks=k:=by
  rw[Int.add_comm,Int.add_mul_ediv_right _ _ (by omega),Int.ediv_eq_zero_of_lt hp.1 hp.2]
  omega
 unfold Side.freeBlock
 split
 ·rw[hkd]
  dsimp only
  rw[hq]
  unfold Side.give
  split
  ·exact hS
  ·split
   ·exact hS.change hl (map_notOne hg hk.1 true)
   ·exact hS
 ·exact hS
theorem inode_notOne (hg:g.ok) {i:Int} (h1:1≤i):q1z g i≠1:=by
 have hi:=hg.2.2.1
 have hk:0≤(i-1) / g.inodes:=Int.ediv_nonneg (by omega) (by omega)
 have:=q159z hg hk
 have hm:0≤(i-1) % g.inodes:=Int.emod_nonneg _ (by omega)
 unfold q1z
 omega
theorem block_notOne (hg:g.ok) {k p:Int} (hk:0≤k) (hp:0≤p):q2z g k p≠1:=by
 have hi:=hg.2.2.1
 have:=q159z hg hk
 unfold q2z
 omega
theorem Bm.allNotOne (h:Bm g i S F X Y r) (hg:g.ok) {c:Int} (hc:c∈Y):c≠1:=by
 obtain⟨k,p,hk,hp,rfl⟩:=h.held.blk hc
 exact block_notOne hg hk.1 hp.1
theorem Bm2.mine (h:Bm2 g i j S F G X Y r) (hg:g.ok) {c:Int} (hc:c=q1z g i∨c∈F.all):(∀k b,c≠q3z g k b)∧c≠q1z g j∧c∉G.all:=by
 rcases hc with rfl | hc
 ·exact⟨fun k b=>q21z hg k b,h.apart,h.b.notIn hg i⟩
 ·refine⟨fun k b e=>?_,fun e=>h.a.notIn hg j (e ▸ hc),h.dis c hc⟩
  obtain⟨k',p,_,hp,e2⟩:=h.a.held.blk (h.a.own _ hc)
  exact q51z hg hp k b (e2.symm.trans e)
theorem Bm2.touch (h:Bm2 g i j S F G X Y r) (hg:g.ok) (h1:1≤i) (hr:r<1024) {c off:Int} {x:ByteArray} {ahead:List Int} (hc:c=q1z g i∨c∈F.all) (h0:S.changeC c off x ahead=0) (ha:Bm g i (S.change c off x ahead) F' X Y (r+1)) (hd:∀x∈F'.all,x∉G.all) :
 Bm2 g i j (S.change c off x ahead) F' G X Y (r+1)∧G.img (S.change c off x ahead).read=G.img S.read:=by
 obtain⟨m1,m2,m3⟩:=h.mine hg hc
 have ho:=h.b.other hr h0 m1 m2 m3
 refine⟨⟨ha,ho.1,h.apart,hd,h.fl.change (by have:=h.a.held.last; omega) ?_⟩,ho.2⟩
 rcases hc with rfl | hc
 ·exact inode_notOne hg h1
 ·exact h.a.allNotOne hg (h.a.own _ hc)
theorem point_in (g:Geom) (i:Int) (F:File) {q:Nat} (hm:8≤q→F.more≠0):q7z g i F q=q1z g i∨q7z g i F q∈F.all:=by
 unfold q7z
 by_cases hq:q<8
 ·rw[if_pos hq]; exact Or.inl rfl
 ·rw[if_neg hq]
  exact Or.inr (q6z.2 ⟨Or.inl rfl,hm (by omega)⟩)
theorem q180z {q:Nat} {b:Int} {x:Int} (hx:x∈({ F with blocks:=F.blocks.set q b }:File).all):x∈F.all∨x=b:=by
 obtain⟨h1,h2⟩:=q6z.1 hx
 rcases h1 with h1 | h1
 ·exact Or.inl (q6z.2 ⟨Or.inl h1,h2⟩)
 ·rcases List.mem_or_eq_of_mem_set h1 with h1 | h1
  ·exact Or.inl (q6z.2 ⟨Or.inr h1,h2⟩)
  ·exact Or.inr h1
theorem all_more {m:Int} {x:Int} (hx:x∈({ F with more:=m }:File).all):x∈F.all∨x=m:=by
 obtain⟨h1,h2⟩:=q6z.1 hx
 rcases h1 with h1 | h1
 ·exact Or.inr h1
 ·exact Or.inl (q6z.2 ⟨Or.inr h1,h2⟩)
def Keeps (Y Y':List Int) (F F':File):Prop:=∀y∈Y',(y∈Y∧(y∈F.all→y∈F'.all))∨y∈F'.all
theorem Keeps.refl (Y:List Int) (F:File):Keeps Y Y F F:=fun _ hy=>Or.inl ⟨hy,id⟩
theorem Keeps.trans {Y Y' Y2:List Int} {F F' F2:File} (h:Keeps Y Y' F F') (k:Keeps Y' Y2 F' F2):Keeps Y Y2 F F2:=fun y hy=>by
 rcases k y hy with ⟨h1,h2⟩ | h1
 ·rcases h y h1 with ⟨h3,h4⟩ | h3
  ·exact Or.inl ⟨h3,fun h5=>h2 (h4 h5)⟩
  ·exact Or.inr (h2 h3)
 ·exact Or.inr h1
def Full (Y:List Int) (F G:File):Prop:=∀y∈Y,y∈F.all∨y∈G.all
theorem Full.keeps {Y Y':List Int} {F F' G:File} (h:Full Y F G) (k:Keeps Y Y' F F'):Full Y' F' G:=fun y hy=>by
 rcases k y hy with ⟨h1,h2⟩ | h1
 ·exact(h y h1).imp_left h2
 ·exact Or.inl h1
theorem Full.swap {Y:List Int} {F G:File} (h:Full Y F G):Full Y G F:=fun y hy=>(h y hy).symm
theorem all_place {F:File} {q:Nat} {b y:Int} (hy:y∈F.all) (hne:y≠F.blocks.getD q 0):y∈({ F with blocks:=F.blocks.set q b }:File).all:=by
 obtain⟨h1,h2⟩:=q6z.1 hy
 refine q6z.2 ⟨h1.imp_right (fun h1=>?_),h2⟩
 obtain⟨k,hk,e⟩:=List.mem_iff_getElem.1 h1
 refine List.mem_iff_getElem.2 ⟨k,by rw[List.length_set]; exact hk,?_⟩
 rw[List.getElem_set,if_neg,e]
 intro hqk
 subst hqk
 rw[List.getD_eq_getElem?_getD,List.getElem?_eq_getElem hk] at hne
 exact hne e.symm
theorem all_placed {F:File} {q:Nat} {b:Int} (hq:q<F.blocks.length) (h0:b≠0):b∈({ F with blocks:=F.blocks.set q b }:File).all:=
 q6z.2 ⟨Or.inr (List.mem_iff_getElem.2 ⟨q,by rw[List.length_set]; exact hq,by rw[List.getElem_set,if_pos rfl]⟩),h0⟩
end
section
variable {g:Geom} {i j:Int} {G:File} {X Y:List Int} {r:Nat} {t:BSt}
theorem two_fresh (h:Bm2 g i j t.S t.F G X Y r) (hg:g.ok) (hr:r+1<1024) {ks:List Int} (hk:∀k∈ks,0≤k∧k<g.groups) {x:ByteArray} (hx:x.size=64) :
 t.freshC g ks x=109∨(t.freshC g ks x=0∧∃N,N∉Y∧N≠0∧t.newN g ks=N∧t.newA g ks x=[(t.S.deps.last:Int)+1,(t.S.deps.last:Int)+2]∧Bm2 g i j (t.fresh g ks x).S t.F G X (Y ++ [N]) (r+2) ∧
  t.F.img (t.fresh g ks x).S.read=t.F.img t.S.read∧G.img (t.fresh g ks x).S.read=G.img t.S.read∧(t.fresh g ks x).S.read N=x∧(t.fresh g ks x).S.deps.last=t.S.deps.last+2 ∧
  (t.fresh g ks x).made=t.made ++ [(t.S.deps.last:Int)+1] ++ [(t.S.deps.last:Int)+2]):=by
 rcases h.a.block hg (by omega) hk with ⟨N,S1,e1,n1,⟨k,p,hkk,hpp,hN⟩,b1,i1,l1⟩ | ⟨e1,_⟩
 ·right
  obtain⟨c1,k1⟩:Bm g j S1 G X (Y ++ [N]) (r+1)∧G.img S1.read=G.img t.S.read:=by
   rcases h.b.block hg (by omega) hk with ⟨N',S1',e1',_,_,b1',i1',_⟩ | ⟨e1',_⟩
   ·rw[e1] at e1'
    cases e1'
    exact⟨b1',i1'⟩
   ·rw[e1] at e1'
    cases e1'
  have hb0:N≠0:=by
   have hbk:=q67z hg hkk hpp
   have hf0:=Geom.first_bd hg (k:=0) (by omega) (by omega)
   have hlg:=Geom.long_bd hg
   have hkl:0≤k*g.long:=Int.mul_nonneg hkk.1 (by omega)
   have hi:=hg.2.2.1
   rw[hN]
   unfold q2z
   have hfk:g.first k=g.first 0+k*g.long:=by unfold Geom.first; omega
   omega
  have hfl1:S1.Fl:=by
   have:=block_fl hg h.fl (by have:=h.a.held.last; omega) (ks:=ks) (fun k hk'=>(hk k hk').1)
   rw[e1] at this
   exact this
  have hNF:N∉t.F.all:=fun hm=>n1 (h.a.own _ hm)
  have hNG:N∉G.all:=fun hm=>n1 (h.b.own _ hm)
  have hf:=b1.fill hg (by omega) (N:=N) (List.mem_append_right _ (List.mem_singleton.2 rfl)) hNF hx (ahead:=[(t.S.deps.last:Int)+1]) (fun n hn=>by rw[List.mem_singleton] at hn; omega)
  have hg2:=c1.fill hg (by omega) (N:=N) (List.mem_append_right _ (List.mem_singleton.2 rfl)) hNG hx (ahead:=[(t.S.deps.last:Int)+1]) (fun n hn=>by rw[List.mem_singleton] at hn; omega)
  have hl:=Side.change_last hf.1
  have eS:(t.fresh g ks x).S=S1.change N 0 x [(t.S.deps.last:Int)+1]:=by unfold BSt.fresh BSt.chg BSt.newN BSt.took; dsimp only; rw[e1]
  have eN:t.newN g ks=N:=by unfold BSt.newN; rw[e1]
  have eA:t.newA g ks x=[(t.S.deps.last:Int)+1,(t.S.deps.last:Int)+2]:=by
   unfold BSt.newA BSt.newN BSt.took
   dsimp only
   rw[e1]
   dsimp only
   rw[hl.2,l1]
   rfl
  have eC:t.freshC g ks x=0:=by
   unfold BSt.freshC BSt.newN BSt.took
   dsimp only
   rw[e1]
   dsimp only
   rw[q11z rfl]
   exact hf.1
  have eM:(t.fresh g ks x).made=t.made ++ [(t.S.deps.last:Int)+1] ++ [(t.S.deps.last:Int)+2]:=by
   unfold BSt.fresh BSt.chg BSt.newN BSt.took
   dsimp only
   rw[e1]
   dsimp only
   rw[hl.2,l1]
   rfl
  refine⟨eC,N,n1,hb0,eN,eA,by rw[eS]; exact⟨hf.2.1,hg2.2.1,h.apart,h.dis,hfl1.change (by rw[l1]; have:=h.a.held.last; omega) (b1.allNotOne hg (List.mem_append_right _ (List.mem_singleton.2 rfl)))⟩,by rw[eS]; exact hf.2.2.1.trans i1,by rw[eS]; exact hg2.2.2.1.trans k1,by rw[eS]; exact hf.2.2.2,by rw[eS,hl.1,l1],eM⟩
 ·left
  unfold BSt.freshC
  rw[e1]
  exact q37z (show(109:Int)≠0 by decide)
theorem two_list (h:Bm2 g i j t.S t.F G X Y r) (hm:q15z t) (hg:g.ok) (h1:1≤i) (h2:i≤g.groups*g.inodes) (hr:r+4<1024) {ks:List Int} (hk:∀k∈ks,0≤k∧k<g.groups) (q:Nat) :
 t.listedC g i ks q=109∨(t.listedC g i ks q=0∧∃Y' r',r'≤r+3∧Bm2 g i j (t.listed g i ks q).S (t.listed g i ks q).F G X Y' r'∧q15z (t.listed g i ks q)∧(t.listed g i ks q).F.img (t.listed g i ks q).S.read=t.F.img t.S.read∧G.img (t.listed g i ks q).S.read=G.img t.S.read ∧
  (t.listed g i ks q).F.blocks=t.F.blocks∧(8≤q→(t.listed g i ks q).F.more≠0)∧q63z t.F (t.listed g i ks q).F∧r' + 2*Y'.length+mz (t.listed g i ks q).F≤r+2*Y.length+mz t.F∧Keeps Y Y' t.F (t.listed g i ks q).F):=by
 by_cases hq:8≤q∧t.F.more=0
 ·rcases two_fresh h hg (by omega) hk (x:=blank) (by unfold blank; rw[Lib.size_eq,q8z,zeros_length]) with e | ⟨e0,N,n1,n0,eN,eA,b2,i2,g2,rd,l2,em⟩
  ·left
   unfold BSt.listedC
   rw[if_pos hq,e]
   exact q37z (by decide)
  ·right
   have hnb:N∉t.F.blocks:=fun hmm=>n1 (h.a.own N (q6z.2 ⟨Or.inr hmm,n0⟩))
   have hset:=b2.a.setMore hg h1 h2 (by omega) (m:=N) (fun e=>absurd e n0) (fun _=>⟨List.mem_append_right _ (List.mem_singleton.2 rfl),hnb,by rw[rd,h.a.file.none hq.2,q130z]⟩) (ahead:=[(t.S.deps.last:Int)+1,(t.S.deps.last:Int)+2]) (fun n hn=>by
    rw[l2]
    simp only[List.mem_cons,List.not_mem_nil,or_false] at hn
    omega)
   have hto:=b2.touch hg h1 (by omega) (Or.inl rfl) hset.1 hset.2.1 (fun x hx=>by
    rcases all_more hx with hx | rfl
    ·exact h.dis x hx
    ·exact fun hmm=>n1 (h.b.own _ hmm))
   have et:t.listed g i ks q=(t.fresh g ks blank).more g i N [(t.S.deps.last:Int)+1,(t.S.deps.last:Int)+2]:=by
    unfold BSt.listed
    rw[if_pos hq,eN,eA]
   have eC:t.listedC g i ks q=0:=by
    unfold BSt.listedC BSt.moreC
    rw[if_pos hq,e0,q11z rfl,eN,eA]
    exact hset.1
   have hmf:q15z (t.fresh g ks blank):=fun n hn=>by
    rw[em] at hn
    rw[l2]
    simp only[List.mem_append,List.mem_singleton] at hn
    rcases hn with (hn | hn) | hn
    ·have:=hm n hn; omega
    ·omega
    ·omega
   rw[et]
   refine⟨eC,Y ++ [N],r+2+1,by omega,hto.1,q86z (q62z hmf hset.1) _,hset.2.2.trans i2,hto.2.trans g2,rfl,fun _=>n0,⟨rfl,rfl,rfl,rfl,rfl⟩,?_,fun y hy=>?_⟩
   ·rw[List.length_append,List.length_singleton]
    have z1:mz ((t.fresh g ks blank).more g i N [(t.S.deps.last:Int)+1,(t.S.deps.last:Int)+2]).F=0:=if_neg n0
    have z2:mz t.F=5:=if_pos hq.2
    rw[z1,z2]
    omega
   ·rcases List.mem_append.1 hy with hy | hy
    ·refine Or.inl ⟨hy,fun hf=>?_⟩
     obtain⟨h3,h4⟩:=q6z.1 hf
     exact q6z.2 ⟨Or.inr (h3.resolve_left (fun e=>h4 (e.trans hq.2))),h4⟩
    ·rw[List.mem_singleton] at hy
     subst hy
     exact Or.inr (q6z.2 ⟨Or.inl rfl,n0⟩)
 ·right
  have et:t.listed g i ks q=t:=if_neg hq
  rw[et]
  exact⟨if_neg hq,Y,r,by omega,h,hm,rfl,rfl,rfl,fun h8 e=>hq ⟨h8,e⟩,⟨rfl,rfl,rfl,rfl,rfl⟩,Nat.le_refl _,Keeps.refl _ _⟩
theorem two_named (h:Bm2 g i j t.S t.F G X Y r) (hm:q15z t) (hg:g.ok) (h1:1≤i) (h2:i≤g.groups*g.inodes) (hr:r+4<1024) {ks:List Int} (hk:∀k∈ks,0≤k∧k<g.groups) {q off:Nat} (hq:q<40) (hmo:8≤q→t.F.more≠0) (h0:t.F.blocks.getD q 0=0) {x:ByteArray} (hx:off+x.size≤64) :
 t.namedC g i ks q off x=109∨(t.namedC g i ks q off x=0∧∃N,N≠0∧N∉Y∧Bm2 g i j (t.named g i ks q off x).S (t.named g i ks q off x).F G X (Y ++ [N]) (r+3)∧q15z (t.named g i ks q off x)∧(t.named g i ks q off x).F = { t.F with blocks:=t.F.blocks.set q N } ∧
  (t.named g i ks q off x).F.img (t.named g i ks q off x).S.read=q5z (t.F.img t.S.read) (64*q+off) x.data.toList∧G.img (t.named g i ks q off x).S.read=G.img t.S.read):=by
 rcases two_fresh h hg (by omega) hk (q95z hx) with e | ⟨e0,N,n1,n0,eN,eA,b2,i2,g2,rd,l2,em⟩
 ·left
  unfold BSt.namedC
  rw[e]
  exact q37z (by decide)
 ·right
  have hp:=b2.a.point hg h1 h2 (by omega) hq (b:=N) (Or.inr ⟨List.mem_append_right _ (List.mem_singleton.2 rfl),fun hmm=>n1 (h.a.own N hmm)⟩) hmo (ahead:=[(t.S.deps.last:Int)+1,(t.S.deps.last:Int)+2]) (fun n hn=>by
   rw[l2]
   simp only[List.mem_cons,List.not_mem_nil,or_false] at hn
   omega)
  have hto:=b2.touch hg h1 (by omega) (point_in g i t.F hmo) hp.1 hp.2.1 (fun x hx=>by
   rcases q180z hx with hx | rfl
   ·exact h.dis x hx
   ·exact fun hmm=>n1 (h.b.own _ hmm))
  have et:t.named g i ks q off x=(t.fresh g ks (allB off x)).name g i q N [(t.S.deps.last:Int)+1,(t.S.deps.last:Int)+2]:=by
   unfold BSt.named
   rw[eN,eA]
  have eF:(t.fresh g ks (allB off x)).F=t.F:=rfl
  have eC:t.namedC g i ks q off x=0:=by
   unfold BSt.namedC BSt.nameC
   rw[e0,q11z rfl,eN,eA,eF]
   exact hp.1
  have hmf:q15z (t.fresh g ks (allB off x)):=fun n hn=>by
   rw[em] at hn
   rw[l2]
   simp only[List.mem_append,List.mem_singleton] at hn
   rcases hn with (hn | hn) | hn
   ·have:=hm n hn; omega
   ·omega
   ·omega
  have hq2:q<t.F.blocks.length:=by rw[h.a.file.len]; exact hq
  have hb0:t.F.blocks[q]=0:=by
   rw[List.getD_eq_getElem?_getD,List.getElem?_eq_getElem hq2] at h0
   exact h0
  refine⟨eC,N,n0,n1,?_⟩
  rw[et]
  refine⟨hto.1,q86z (q62z hmf hp.1) _,rfl,?_,hto.2.trans g2⟩
  refine Eq.trans hp.2.2 ?_
  have hs:secL (t.fresh g ks (allB off x)).S.read N=q5z (zeros 64) off x.data.toList:=by
   unfold secL
   rw[if_neg n0,rd]
   unfold allB
   rw[q8z]
  rw[hs,i2]
  exact img_new h.a.file (h.a.sized hg) hq hb0 hx
theorem two_put (h:Bm2 g i j t.S t.F G X Y r) (hm:q15z t) (hg:g.ok) (h1:1≤i) (h2:i≤g.groups*g.inodes) (hr:r+8<1024) {ks:List Int} (hk:∀k∈ks,0≤k∧k<g.groups) {q off:Nat} (hq:q<40) {x:ByteArray} (hx:off+x.size≤64) (hx1:1≤x.size) :
 t.putC g i ks q off x=109∨(t.putC g i ks q off x=0∧∃Y' r',r'≤r+6∧Bm2 g i j (t.put g i ks q off x).S (t.put g i ks q off x).F G X Y' r'∧q15z (t.put g i ks q off x)∧(t.put g i ks q off x).F.img (t.put g i ks q off x).S.read=q5z (t.F.img t.S.read) (64*q+off) x.data.toList ∧
  G.img (t.put g i ks q off x).S.read=G.img t.S.read∧q63z t.F (t.put g i ks q off x).F∧r' + 2*Y'.length+mz (t.put g i ks q off x).F≤r+2*Y.length+mz t.F+5∧Keeps Y Y' t.F (t.put g i ks q off x).F):=by
 have hq2:q<t.F.blocks.length:=by rw[h.a.file.len]; exact hq
 have hgd:t.F.blocks.getD q 0=t.F.blocks[q]:=by rw[List.getD_eq_getElem?_getD,List.getElem?_eq_getElem hq2]; rfl
 by_cases h0:t.F.blocks.getD q 0≠0
 ·right
  have et:t.put g i ks q off x=t.chg (t.F.blocks.getD q 0) off x []:=if_pos h0
  have eC:t.putC g i ks q off x=t.S.changeC (t.F.blocks.getD q 0) off x []:=if_pos h0
  have hdt:=h.a.data hg (by omega) hq (by rw[←hgd]; exact h0) hx hx1 (ahead:=[]) (by simp)
  rw[←hgd] at hdt
  have hto:=h.touch hg h1 (by omega) (Or.inr (q6z.2 ⟨Or.inr (by rw[hgd]; exact List.getElem_mem hq2),h0⟩)) hdt.1 hdt.2.1 h.dis
  rw[et]
  exact⟨eC.trans hdt.1,Y,r+1,by omega,hto.1,q62z hm hdt.1,hdt.2.2,hto.2,⟨rfl,rfl,rfl,rfl,rfl⟩,by show r+1+_+mz t.F≤_; omega,Keeps.refl _ _⟩
 ·have h00:t.F.blocks.getD q 0=0:=Classical.byContradiction h0
  have et:t.put g i ks q off x=(t.listed g i ks q).named g i ks q off x:=if_neg h0
  have eC:t.putC g i ks q off x=thenC (t.listedC g i ks q) ((t.listed g i ks q).namedC g i ks q off x):=if_neg h0
  rw[et,eC]
  rcases two_list h hm hg h1 h2 (by omega) hk q with e | ⟨e,Y1,r1,hr1,b1,m1,i1,g1,bl1,mo1,s1,p1,kp1⟩
  ·left
   rw[e]
   exact q37z (by decide)
  ·rw[q11z e]
   rcases two_named b1 m1 hg h1 h2 (by omega) hk hq mo1 (by rw[bl1]; exact h00) hx with e2 | ⟨e2,N,n0,nY,b2,m2,f2,i2,g2⟩
   ·exact Or.inl e2
   ·right
    refine⟨e2,Y1 ++ [N],r1+3,by omega,b2,m2,by rw[i2,i1],g2.trans g1,?_,?_,?_⟩
    ·rw[f2]; exact s1
    ·rw[List.length_append,List.length_singleton,f2]
     show _+mz (t.listed g i ks q).F≤_
     omega
    ·rw[f2]
     refine kp1.trans fun y hy=>?_
     rcases List.mem_append.1 hy with hy | hy
     ·exact Or.inl ⟨hy,fun hf=>all_place hf (fun e=>(q6z.1 hf).2 (e.trans (by rw[bl1]; exact h00)))⟩
     ·rw[List.mem_singleton] at hy
      subst hy
      exact Or.inr (all_placed (by rw[bl1]; exact hq2) n0)
end
theorem takeL_disk (g:Geom) (b:Bool) (S:Side):∀ks:List Int,(S.takeL g b ks).1.disk=S.disk
 | []=>rfl
 | k :: r=>by
   unfold Side.takeL
   split
   ·rfl
   ·split
    ·exact takeL_disk g b S r
    ·exact Side.change_disk ..
theorem block_disk (g:Geom) (S:Side) (ks:List Int):(S.block g ks).1.disk=S.disk:=by
 have h:(S.take g true ks).1.disk=S.disk:=by
  unfold Side.take
  split
  ·exact takeL_disk ..
  ·rfl
 unfold Side.block
 split <;> exact h
theorem give_disk (g:Geom) (b:Bool) (S:Side) (k p:Int) (ahead:List Int):(S.give g b k p ahead).1.disk=S.disk:=by
 unfold Side.give
 split
 ·rfl
 ·split
  ·exact Side.change_disk ..
  ·rfl
theorem freeBlock_disk (g:Geom) (S:Side) (s:Int) (ahead:List Int):(S.freeBlock g s ahead).1.disk=S.disk:=by
 unfold Side.freeBlock
 split
 ·exact give_disk ..
 ·rfl
section
variable (t:BSt) (g:Geom) (i:Int) (ks:List Int)
theorem q92z (j off:Int) (x:ByteArray) (ahead:List Int):(t.chg j off x ahead).S.disk=t.S.disk:=Side.change_disk ..
theorem fresh_disk (x:ByteArray):(t.fresh g ks x).S.disk=t.S.disk:=(q92z ..).trans (block_disk ..)
theorem listed_disk (q:Nat):(t.listed g i ks q).S.disk=t.S.disk:=by
 unfold BSt.listed
 split
 ·exact(q92z (t.fresh g ks blank) ..).trans (fresh_disk ..)
 ·rfl
theorem put_disk (q off:Nat) (x:ByteArray):(t.put g i ks q off x).S.disk=t.S.disk:=by
 unfold BSt.put
 split
 ·exact q92z ..
 ·exact((q92z ((t.listed g i ks q).fresh g ks (allB off x)) ..).trans (fresh_disk ..)).trans (listed_disk ..)
theorem puts_disk:∀(f:Nat) (t:BSt) (at_:Nat) (d:List UInt8),(BSt.puts g i ks f t at_ d).S.disk=t.S.disk
 | 0,_,_,_=>rfl
 | f+1,t,at_,d=>by
   unfold BSt.puts
   split
   ·rfl
   ·exact(puts_disk f _ _ _).trans (put_disk ..)
theorem write_disk (f off:Nat) (d:List UInt8):(t.write g i ks f off d).S.disk=t.S.disk:=by
 unfold BSt.write
 split
 ·exact(q92z (BSt.puts g i ks f t off d) ..).trans (puts_disk ..)
 ·exact puts_disk ..
theorem wipe_disk (first:Int) (q:Nat):(t.wipe g i first q).S.disk=t.S.disk:=by
 unfold BSt.wipe
 split
 ·exact(freeBlock_disk g (t.name g i q 0 [first]).S ..).trans (q92z t ..)
 ·rfl
theorem wipes_disk (first:Int):∀(l:List Nat) (t:BSt),(BSt.wipes g i first l t).S.disk=t.S.disk
 | [],_=>rfl
 | _ :: r,_=>(wipes_disk first r _).trans (wipe_disk ..)
theorem unlist_disk (first:Int):(t.unlist g i first).S.disk=t.S.disk:=by
 unfold BSt.unlist
 split
 ·exact(freeBlock_disk g (t.more g i 0 [first]).S ..).trans (q92z t ..)
 ·rfl
theorem rest_disk (first:Int) (z:Nat):(t.rest first z).S.disk=t.S.disk:=by
 unfold BSt.rest
 split
 ·exact q92z ..
 ·rfl
theorem cut_disk (z:Nat):(t.cut g i z).S.disk=t.S.disk:=by
 unfold BSt.cut
 split
 ·rfl
 ·split
  ·exact((unlist_disk ..).trans (wipes_disk ..)).trans ((rest_disk (t.sized g i z []) ..).trans (q92z t ..))
  ·exact q92z t ..
end
def Side.may (S:Side) (i:Int):Prop:=S.disk.has i∧(∃c∈S.deps.l,c.at_=i)∧¬S.deps.under i∧S.deps.ready i≠[]
theorem ats_of_send (d:Deps) (i j:Int):(∃c∈(d.send i).l,c.at_=j)↔∃c∈d.l,c.at_=j:=by
 unfold Deps.send
 constructor
 ·rintro⟨c,hc,rfl⟩
  obtain⟨b,hb,rfl⟩:=List.mem_map.1 hc
  exact⟨b,hb,(q68z b).1.symm⟩
 ·rintro⟨c,hc,rfl⟩
  exact⟨_,List.mem_map.2 ⟨c,hc,rfl⟩,(q68z c).1⟩
theorem Side.may.write {S:Side} (h:S.Fl) {i j:Int} (hj:j≠i) (hm:S.may j):(S.write i).may j:=by
 obtain⟨h1,h2,h3,h4⟩:=hm
 refine⟨h1,(ats_of_send S.deps i j).2 h2,fun hu=>h3 ((under_send h.tied.ok hj).1 hu),?_⟩
 show(S.deps.send i).ready j≠[]
 rw[ready_send h.tied.ok hj]
 exact h4
theorem Side.Fl.fly_few {S:Side} (h:S.Fl) {i:Int} (hm:S.may i):S.fly.length<1024:=by
 have hni:i∉S.fly.map Prod.snd:=fun hi=>by
  obtain⟨x,hx,e⟩:=List.mem_map.1 hi
  have:=(h.flyB x hx).2
  rw[e] at this
  exact hm.2.2.1 this
 have h1:(i :: S.fly.map Prod.snd).Nodup:=List.nodup_cons.2 ⟨hni,h.flyI⟩
 have h2:(i :: S.fly.map Prod.snd) ⊆ S.deps.l.map Chg.at_:=fun j hj=>by
  rcases List.mem_cons.1 hj with rfl | hj
  ·obtain⟨c,hc,e⟩:=hm.2.1
   exact List.mem_map.2 ⟨c,hc,e⟩
  ·obtain⟨x,hx,rfl⟩:=List.mem_map.1 hj
   obtain⟨c,hc,e,_⟩:=(h.flyB x hx).2
   exact List.mem_map.2 ⟨c,hc,e⟩
 have h3:=h1.length_le_of_subset h2
 rw[List.length_cons,List.length_map,List.length_map] at h3
 have:=h.tied.ok.few
 omega
theorem writes_at:∀(l:List Int) (S:Side),S.Fl→l.Nodup→(∀i∈l,S.may i)→∀k,k≤l.length →
 let T:=(l.take k).foldl Side.write S
 T.Fl∧(∀i∈l.drop k,T.may i)∧T.disk.last=S.disk.last+k
 | l,S,hf,_,hm,0,_=>by
   rw[List.take_zero,List.drop_zero]
   exact⟨hf,hm,rfl⟩
 | [],S,hf,_,hm,k+1,hk=>absurd hk (by simp)
 | i :: r,S,hf,hn,hm,k+1,hk=>by
   obtain⟨hi,hr⟩:=List.nodup_cons.1 hn
   obtain⟨m1,m2,m3,m4⟩:=hm i (List.mem_cons_self ..)
   have hf2:=hf.write m1 m3 m4
   have ih:=writes_at r (S.write i) hf2 hr (fun j hj=>(hm j (List.mem_cons_of_mem _ hj)).write hf (fun e=>hi (e ▸ hj))) k (by rw[List.length_cons] at hk; omega)
   rw[List.take_succ_cons,List.drop_succ_cons]
   refine⟨ih.1,ih.2.1,?_⟩
   have h3:=ih.2.2
   rw[show(S.write i).disk.last=S.disk.last+1 from rfl] at h3
   show((r.take k).foldl Side.write (S.write i)).disk.last=_
   rw[h3]
   omega
theorem Side.Fl.may_of {S:Side} (h:S.Fl):∀i∈S.deps.sectors,S.may i:=fun i hi=>
 ⟨(h.sectors i hi).1,(sectors_mem.1 hi).1,(h.sectors i hi).2.1,(h.sectors i hi).2.2⟩
theorem sectors_len {S:Side} (h:S.Fl):S.deps.sectors.length≤1024:=by
 have h1:=(q80z S.deps).length_le_of_subset (l₂:=S.deps.l.map Chg.at_) (fun i hi=>by
  obtain⟨c,hc,e⟩:=(sectors_mem.1 hi).1
  exact List.mem_map.2 ⟨c,hc,e⟩)
 rw[List.length_map] at h1
 have:=h.tied.ok.few
 omega
theorem ends_snoc (pick:Nat→Int):∀(l:List Int) (S:Side) (j:Nat) (n:Int),Side.ends pick S j (l ++ [n])=(Side.ends pick S j l).endK (pick (j+l.length)) n
 | [],S,j,n=>rfl
 | m :: r,S,j,n=>by
   show Side.ends pick (S.endK (pick j) m) (j+1) (r ++ [n])=_
   rw[ends_snoc pick r]
   show(Side.ends pick (S.endK (pick j) m) (j+1) r).endK _ n=(Side.ends pick (S.endK (pick j) m) (j+1) r).endK _ n
   congr 2
   rw[List.length_cons]
   omega
theorem endK_last (S:Side) (k n:Int):(S.endK k n).disk.last=S.disk.last:=by
 unfold Side.endK
 split
 ·split
  ·rfl
  ·split <;> rfl
 ·rfl
theorem ends_at (pick:Nat→Int) {S:Side} (h:S.Fl) {l:List Int} (hn:l.Nodup) (hl:∀n∈l,∃i,(n,i)∈S.fly):∀k,k≤l.length →
 (Side.ends pick S 0 (l.take k)).Fl∧(∀n∈l.drop k,∃i,(n,i)∈(Side.ends pick S 0 (l.take k)).fly)∧(Side.ends pick S 0 (l.take k)).disk.last=S.disk.last
 | 0,_=>by
   rw[List.take_zero,List.drop_zero]
   exact⟨h,hl,rfl⟩
 | k+1,hk=>by
   obtain⟨h1,h2,h3⟩:=ends_at pick h hn hl k (by omega)
   have hk':k<l.length:=hk
   rw[List.take_add_one,List.getElem?_eq_getElem hk',Option.toList_some,ends_snoc]
   have hd:l.drop k=l[k] :: l.drop (k+1):=List.drop_eq_getElem_cons hk'
   have hnd:(l.drop k).Nodup:=hn.sublist (List.drop_sublist k l)
   rw[hd] at hnd h2
   obtain⟨q1,q2⟩:=List.nodup_cons.1 hnd
   refine⟨(q163z h1 _ _).fl,fun n hm=>?_,by rw[endK_last,h3]⟩
   obtain⟨i,hi⟩:=h2 n (List.mem_cons_of_mem _ hm)
   exact⟨i,endK_fly _ _ hi (fun e=>q1 (e ▸ hm))⟩
theorem unders_fly {S:Side}:∀n∈S.unders,∃i,(n,i)∈S.fly:=fun n hn=>by
 obtain⟨x,hx,rfl⟩:=List.mem_map.1 (unders_mem.1 hn)
 exact⟨x.2,hx⟩
theorem fly_most {S:Side} (h:S.Fl):S.fly.length≤1024:=by
 have h2:S.fly.map Prod.snd ⊆ S.deps.l.map Chg.at_:=fun j hj=>by
  obtain⟨x,hx,rfl⟩:=List.mem_map.1 hj
  obtain⟨c,hc,e,_⟩:=(h.flyB x hx).2
  exact List.mem_map.2 ⟨c,hc,e⟩
 have h3:=h.flyI.length_le_of_subset h2
 rw[List.length_map,List.length_map] at h3
 have:=h.tied.ok.few
 omega
theorem q160z {S:Side} (h:S.Fl) {n i:Int} (hm:(n,i)∈S.fly):S.disk.has i∧S.deps.under i∧S.whose n=some i:=by
 obtain⟨c,hc,e,hs⟩:=(h.flyB _ hm).2
 refine⟨?_,⟨c,hc,e,hs⟩,(q162z h).2 hm⟩
 have:=(h.at_ c hc).1
 rw[e] at this
 exact this
theorem waits_get {S:Side} (h:S.Fl) {n i:Int} (hm:(n,i)∈S.fly):(S.disk.waits.find? (fun x=>decide (x.1=n))).map (·.2)=some ⟨0,0,i,S.deps.sent i (S.disk.get i)⟩:=by
 have hw:=(q162z h).2 hm
 unfold Side.whose at hw
 rw[h.waits,List.find?_map]
 obtain⟨x,hx,rfl⟩:=Option.map_eq_some_iff.1 hw
 have e:((fun x:Int×Wr=>decide (x.1=n)) ∘ fun x:Int×Int=>(x.1,(⟨S.node,S.epoch,x.2,S.deps.sent x.2 (S.disk.get x.2)⟩:Wr)))=fun x=>decide (x.1=n):=rfl
 rw[e,hx]
 show some (⟨S.node,S.epoch,x.2,_⟩:Wr)=_
 rw[h.node.1,h.node.2]
theorem flush_last {S:Side} (h:S.Fl) (pick:Nat→Int):(S.flush pick).disk.last≤S.disk.last+1024:=by
 have hf1:=(q82z h).fl
 have h1:=ends_at pick hf1 (unders_nodup hf1) unders_fly S.writeAll.unders.length (Nat.le_refl _)
 rw[List.take_length] at h1
 have h2:=writes_at S.deps.sectors S h (q80z _) h.may_of S.deps.sectors.length (Nat.le_refl _)
 rw[List.take_length] at h2
 have h3:=sectors_len h
 have h4:=h1.2.2
 have h5:=h2.2.2
 show(Side.ends pick S.writeAll 0 S.writeAll.unders).disk.last≤_
 rw[h4]
 show(S.deps.sectors.foldl Side.write S).disk.last≤_
 rw[h5]
 omega
