/-
 Layer 16 as plain data: what the disk itself may have of two files,at any moment: the blocks that it names are taken,and none twice. No program in this text.
-/
import Derived.Test.YtgofmnhfajmbfaaGreatDoorSpCrash
import Derived.Test.YtgofmnhfajmbfaaGreatDoorSpTwoB
namespace Go.Proofs.YtgofmnhfajmbfaaGreatDoor.Sp
open Go Txt
def bitT (g:Geom) (k:Int) (p:Nat):Int→Int→Int→Prop:=ovT (q3z g k true) p 1
def InG (g:Geom) (k:Int) (p:Nat):Prop:=(0≤k∧k<g.groups)∧(p:Int)<g.blocks
abbrev AllT:=(Int→Int→Int→Prop)→Prop
/-- A file on the disk as it is (V: FK), and as it is to be (F): what surely is there of a block's bit tells that just the place that names the block now may name it. -/
structure HalfV (g:Geom) (i:Int) (F:File) (A:AllT) (V:Int→ByteArray) (FK:File):Prop where
 file:FileOk V (q1z g i) FK
 kind:FK.kind=1
 links:FK.links=1
 parent:FK.parent=0
 gen:FK.gen=1
 size:0≤FK.size∧FK.size≤2560
 blk:∀b∈FK.all,∃k p,InG g k p∧b=q2z g k p∧bitAt (V (q3z g k true)) p=1
 cur:∀k p,InG g k p→A (bitT g k p)→(∀q,FK.blocks.getD q 0=q2z g k p→F.blocks.getD q 0=q2z g k p∧(8≤q→FK.more=F.more))∧(FK.more=q2z g k p→F.more=q2z g k p)
/-- What touches a file's blocks, or their places, comes behind their bits. -/
structure KnowsF (g:Geom) (i:Int) (F:File) (A:AllT):Prop where
 data:∀k p,InG g k p→q2z g k p∈F.all→∀o n:Int,0≤o→0<n→o+n≤64→A (ovT (q2z g k p) o n)→A (bitT g k p)
 point:∀k p,InG g k p→∀q,F.blocks.getD q 0=q2z g k p→A (ovT (q7z g i F q) (q9z q) 2)→A (bitT g k p)
 more:∀k p,InG g k p→F.more=q2z g k p→A (ovT (q1z g i) 24 2)→A (bitT g k p)
section
variable {g:Geom} {i j:Int} {F FK G GK:File} {A A':AllT} {V V':Int→ByteArray}
theorem q26z (hg:g.ok) {k:Int} {p:Nat} (h:InG g k p):q2z g k p≠0:=by
 have:=q159z hg h.1.1
 have hi:=hg.2.2.1
 unfold q2z
 omega
theorem q158z {l:List Int} {k:Nat} (h:l.getD k 0≠0):l.getD k 0∈l:=by
 rw[List.getD_eq_getElem?_getD] at h ⊢
 cases hk:l[k]? with
 | none=>rw[hk] at h; exact absurd rfl h
 | some y=>exact List.mem_of_getElem? hk
theorem q113z {q:Nat} {b:Int} (h:F.blocks.getD q 0=b) (h0:b≠0):b∈F.all:=by
 rw[List.getD_eq_getElem?_getD] at h
 cases hk:F.blocks[q]? with
 | none=>rw[hk] at h; exact absurd h.symm h0
 | some y=>
   rw[hk] at h
   have h:y=b:=h
   rw[←h] at h0 ⊢
   exact q6z.2 ⟨Or.inr (List.mem_of_getElem? hk),h0⟩
theorem q152z {b:Int} (h:b∈F.all):b≠0∧(b=F.more∨∃q,q<F.blocks.length∧F.blocks.getD q 0=b):=by
 obtain⟨h1,h2⟩:=q6z.1 h
 refine⟨h2,h1.imp_right fun h=>?_⟩
 obtain⟨q,hq,rfl⟩:=List.mem_iff_getElem.1 h
 exact⟨q,hq,by rw[List.getD_eq_getElem?_getD,List.getElem?_eq_getElem hq]; rfl⟩
theorem q169z (hg:g.ok) {k k':Int} {p p':Nat} (h:InG g k p) (h':InG g k' p') (e:q2z g k p=q2z g k' p'):k=k'∧p=p':=by
 have:=q48z hg k p k' p' h.1 ⟨by omega,h.2⟩ h'.1 ⟨by omega,h'.2⟩ e
 exact⟨this.1,by omega⟩
theorem bitT_other (hg:g.ok) {k k':Int} {p p':Nat} (h:¬(k=k'∧p=p')) {n:Int} (hn:n=1):¬bitT g k p (q3z g k' true) (p':Int) n:=by
 rintro⟨h1,h2⟩
 have:=(q122z hg h1).1
 subst hn
 exact h ⟨this.symm,by omega⟩
theorem q135z {k:Int} {p:Nat} {s o n:Int} (h:s≠q3z g k true):¬bitT g k p s o n:=fun h1=>h h1.1
theorem HalfV.weak (h:HalfV g i F A V FK) (hA:∀T,A' T→A T):HalfV g i F A' V FK:=⟨h.file,h.kind,h.links,h.parent,h.gen,h.size,h.blk,fun k p hin ha=>h.cur k p hin (hA _ ha)⟩
theorem KnowsF.chg (h:KnowsF g i F A) (hA:∀T,A' T→A T) (hb:∀k p,InG g k p→q2z g k p∈F.all→A (bitT g k p)→A' (bitT g k p)) (hg:g.ok):KnowsF g i F A':=
 ⟨fun k p hin hm o n h0 h1 h2 ha=>hb k p hin hm (h.data k p hin hm o n h0 h1 h2 (hA _ ha)),fun k p hin q hq ha=>hb k p hin (q113z hq (q26z hg hin)) (h.point k p hin q hq (hA _ ha)),
  fun k p hin hm ha=>hb k p hin (q6z.2 ⟨Or.inl hm.symm,q26z hg hin⟩) (h.more k p hin hm (hA _ ha))⟩
theorem FileOk.of_eq {s:Int} (h:FileOk V s FK) (h1:V' s=V s) (h2:FK.more≠0→V' FK.more=V FK.more):FileOk V' s FK:=⟨h.len,h1.trans h.node,h.none,fun hm=>(h2 hm).trans (h.list hm),h.nod,h.apart⟩
theorem HalfV.more_map (hg:g.ok) (h:HalfV g i F A V FK) (h0:FK.more≠0) (k:Int):FK.more≠q3z g k true:=fun e=>by
 obtain⟨k',p,hin,e2,_⟩:=h.blk _ (q6z.2 ⟨Or.inl rfl,h0⟩)
 exact q51z hg ⟨by omega,hin.2⟩ k true (e2.symm.trans e)
theorem HalfV.other (h:HalfV g i F A V FK) {s:Int} (h1:s≠q1z g i) (h2:FK.more≠0→s≠FK.more) (h3:∀k,s≠q3z g k true) (o:Nat) (x:List UInt8):HalfV g i F A (upd V s o x) FK:=
 ⟨h.file.of_eq (q10z V (Ne.symm h1) ..) (fun h0=>q10z V (Ne.symm (h2 h0)) ..),h.kind,h.links,h.parent,h.gen,h.size,fun b hb=>by
  obtain⟨k,p,hin,e,hbit⟩:=h.blk b hb
  exact⟨k,p,hin,e,by rw[q10z V (Ne.symm (h3 k))]; exact hbit⟩,h.cur⟩
theorem HalfV.bit (hg:g.ok) (h:HalfV g i F A V FK) {k:Int} {p:Nat} (hp:p<64) (hm:(V (q3z g k true)).size=64) {v:UInt8} (hv:v=1∨(InG g k p∧q2z g k p∉FK.all)):HalfV g i F A (upd V (q3z g k true) p [v]) FK:=by
 refine⟨h.file.of_eq (q10z V (q21z hg k true) ..) (fun h0=>q10z V (h.more_map hg h0 k) ..),h.kind,h.links,h.parent,h.gen,h.size,fun b hb=>?_,h.cur⟩
 obtain⟨k',p',hin,e,hbit⟩:=h.blk b hb
 refine⟨k',p',hin,e,?_⟩
 by_cases hk:k' = k
 ·subst hk
  rw[upd_same,q181z hm hp v p']
  split
  ·rename_i hpp
   rcases hv with hv | ⟨hv1,hv2⟩
   ·exact hv
   ·exact absurd (by rw[←hpp,←e]; exact hb) hv2
  ·exact hbit
 ·rw[q10z V (fun e=>hk (q122z hg e).1)]
  exact hbit
theorem HalfV.toF (h:HalfV g i F A V FK) {F':File} (hA:∀T,A' T→A T)
 (hc:∀k p,InG g k p→A' (bitT g k p)→(∀q,FK.blocks.getD q 0=q2z g k p→F.blocks.getD q 0=q2z g k p→(8≤q→FK.more=F.more)→F'.blocks.getD q 0=q2z g k p∧(8≤q→FK.more=F'.more))∧(FK.more=q2z g k p→F.more=q2z g k p→F'.more=q2z g k p)):HalfV g i F' A' V FK:=
 ⟨h.file,h.kind,h.links,h.parent,h.gen,h.size,h.blk,fun k p hin ha=>by
  obtain⟨c1,c2⟩:=h.cur k p hin (hA _ ha)
  obtain⟨d1,d2⟩:=hc k p hin ha
  exact⟨fun q hq=>d1 q hq (c1 q hq).1 (c1 q hq).2,fun hm=>d2 hm (c2 hm)⟩⟩
theorem q136z (l:List Int) (q q':Nat) (b:Int) (hq:q<l.length):(l.set q b).getD q' 0=if q' = q then b else l.getD q' 0:=by
 rw[List.getD_eq_getElem?_getD,List.getElem?_set,List.getD_eq_getElem?_getD]
 by_cases h:q=q'
 ·subst h
  rw[if_pos rfl,if_pos rfl,if_pos hq]
  rfl
 ·rw[if_neg h,if_neg (Ne.symm h)]
theorem HalfV.point (hg:g.ok) (h:HalfV g i F A V FK) {q:Nat} (hq:q<40) (hmo:8≤q→F.more≠0) (hFl:F.blocks.length=40) (hFb:F.more≠0→∃k p,InG g k p∧F.more=q2z g k p) {N:Int} (hN:N=0∨(N∉FK.all∧∃k p,InG g k p∧N=q2z g k p∧bitAt (V (q3z g k true)) p=1)) (hA:∀T,A' T→A T) :
 ∃FK',HalfV g i { F with blocks:=F.blocks.set q N } A' (upd V (q7z g i F q) (q9z q) (textL 2 N.toNat)) FK'∧(∀b∈FK'.all,b=N∨b∈FK.all) ∧
  (∀b,b≠0→b≠N→b∉({ FK with blocks:=FK.blocks.set q 0 }:File).all→((8≤q→FK.more=F.more)∨b∉FK.all)→b∉FK'.all):=by
 have hl:=h.file.len
 have hNj:N=0∨(N∉FK.all∧N≠q1z g i):=hN.imp_right fun⟨h1,k,p,hin,e,_⟩=>⟨h1,fun e2=>q27z hg ⟨by omega,hin.2⟩ (e2.symm.trans e)⟩
 have hms:∀k,q7z g i F q≠q3z g k true:=fun k=>by
  unfold q7z
  split
  ·exact q21z hg k true
  ·obtain⟨k',p,hin,e⟩:=hFb (hmo (by omega))
   rw[e]
   exact q51z hg ⟨by omega,hin.2⟩ k true
 by_cases hs:8≤q→FK.more=F.more
 ·have hpt:=h.file.point hq N hNj (fun h8=>by rw[hs h8]; exact hmo h8)
  have e1:(if q<8 then q1z g i else FK.more)=q7z g i F q:=by
   unfold q7z
   by_cases h8:q<8
   ·rw[if_pos h8,if_pos h8]
   ·rw[if_neg h8,if_neg h8]; exact hs (by omega)
  have e2:(if q<8 then 8+2*q else 2*(q-8))=q9z q:=rfl
  rw[e1,e2] at hpt
  obtain⟨_,hset⟩:=set_all (F:=FK) (i:=q) (by omega) N h.file.nod (hNj.imp_right fun h=>h.1)
  refine⟨{ FK with blocks:=FK.blocks.set q N },⟨hpt,h.kind,h.links,h.parent,h.gen,h.size,fun b hb=>?_,fun k p hin ha=>?_⟩,hset,fun b h0 hbN hb _ hm=>?_⟩
  ·rcases hset b hb with rfl | hb
   ·rcases hN with h0 | ⟨_,k,p,hin,e,hbit⟩
    ·exact absurd h0 (q6z.1 hb).2
    ·exact⟨k,p,hin,e,by rw[q10z V (Ne.symm (hms k))]; exact hbit⟩
   ·obtain⟨k,p,hin,e,hbit⟩:=h.blk b hb
    exact⟨k,p,hin,e,by rw[q10z V (Ne.symm (hms k))]; exact hbit⟩
  ·obtain⟨c1,c2⟩:=h.cur k p hin (hA _ ha)
   refine⟨fun q' hq'=>?_,c2⟩
   dsimp only at hq' ⊢
   rw[q136z _ _ _ _ (by omega)] at hq' ⊢
   by_cases e:q' = q
   ·rw[if_pos e] at hq' ⊢
    exact⟨hq',fun h8=>hs (by omega)⟩
   ·rw[if_neg e] at hq' ⊢
    exact c1 q' hq'
  ·obtain⟨h1,h2⟩:=q6z.1 hm
   refine hb (q6z.2 ⟨h1.imp_right fun h1=>?_,h0⟩)
   obtain⟨q',hq',e⟩:=List.mem_iff_getElem.1 h1
   dsimp only at hq'
   rw[List.length_set] at hq'
   refine List.mem_iff_getElem.2 ⟨q',by rw[List.length_set]; exact hq',?_⟩
   rw[List.getElem_set] at e ⊢
   split at e
   ·exact absurd e.symm hbN
   ·rename_i hne
    rw[if_neg hne]
    exact e
 ·have h8:8≤q:=Classical.byContradiction fun h8=>hs (fun h=>absurd h h8)
  have hne:FK.more≠F.more:=fun e=>hs (fun _=>e)
  have hps:q7z g i F q=F.more:=if_neg (by omega)
  obtain⟨k0,p0,hin0,e0⟩:=hFb (hmo h8)
  have hni:q7z g i F q≠q1z g i:=by
   rw[hps,e0]
   exact fun e=>q27z hg ⟨by omega,hin0.2⟩ e.symm
  have ho:=h.other (s:=q7z g i F q) hni (fun _=>by rw[hps]; exact Ne.symm hne) hms (q9z q) (textL 2 N.toNat)
  refine⟨FK,ho.toF hA (fun k p hin ha=>⟨fun q' hq' hF hm=>?_,fun _ hF=>hF⟩),fun b hb=>Or.inr hb,fun b _ _ _ hb=>hb.resolve_left hs⟩
  dsimp only
  by_cases e:q' = q
  ·subst e
   exact absurd (hm h8) hne
  ·rw[q136z _ _ _ _ (by omega),if_neg e]
   exact⟨hF,hm⟩
theorem HalfV.relist (hg:g.ok) (h:HalfV g i F A V FK) {N:Int} (hN:N=0∨(N∉FK.all∧V N=listB (List.replicate 32 0)∧∃k p,InG g k p∧N=q2z g k p∧bitAt (V (q3z g k true)) p=1)) (hA:∀T,A' T→A T) :
 ∃FK',HalfV g i { F with more:=N } A' (upd V (q1z g i) 24 (textL 2 N.toNat)) FK'∧(∀b∈FK'.all,b=N∨(b∈FK.all∧∃q,q<8∧FK.blocks.getD q 0=b)):=by
 have hl:=h.file.len
 have hlt:(FK.blocks.take 8).length=8:=by rw[List.length_take,hl]; rfl
 have hms:∀k,q1z g i≠q3z g k true:=fun k=>q21z hg k true
 have hNj:N≠0→N≠q1z g i:=fun h0=>by
  obtain⟨_,_,k,p,hin,e,_⟩:=hN.resolve_left h0
  exact fun e2=>q27z hg ⟨by omega,hin.2⟩ (e2.symm.trans e)
 obtain⟨BL,hBL⟩:=zx (FK.blocks.take 8 ++ List.replicate 32 0)
 have hblen:BL.length=40:=by rw[←hBL,List.length_append,hlt,List.length_replicate]
 have hbt:BL.take 8=FK.blocks.take 8:=by rw[←hBL,List.take_left' hlt]
 have hbd:BL.drop 8=List.replicate 32 0:=by rw[←hBL,List.drop_left' hlt]
 have hgd:∀q,BL.getD q 0=if q<8 then FK.blocks.getD q 0 else 0:=fun q=>by
  rw[List.getD_eq_getElem?_getD,←hBL,List.getElem?_append,hlt]
  split
  ·rename_i h8
   rw[List.getElem?_take,if_pos h8,List.getD_eq_getElem?_getD]
  ·rw[List.getElem?_replicate]
   split <;> rfl
 have hmem:∀b∈BL,b≠0→b∈FK.all∧∃q,q<8∧FK.blocks.getD q 0=b:=fun b hb h0=>by
  obtain⟨q,hq,rfl⟩:=List.mem_iff_getElem.1 hb
  have e:BL.getD q 0=BL[q]:=by rw[List.getD_eq_getElem?_getD,List.getElem?_eq_getElem hq]; rfl
  rw[hgd] at e
  split at e
  ·exact⟨q113z e h0,q,by assumption,e⟩
  ·exact absurd e.symm h0
 have hall:∀b∈({ FK with more:=N,blocks:=BL }:File).all,b=N∨(b∈FK.all∧∃q,q<8∧FK.blocks.getD q 0=b):=fun b hb=>by
  obtain⟨h1,h2⟩:=q6z.1 hb
  exact h1.imp_right fun h1=>hmem b h1 h2
 have hnodB:(BL.filter (fun b=>decide (b≠0))).Nodup:=by
  have hn:=h.file.nod
  unfold File.all at hn
  have hs:(FK.blocks.take 8).filter (fun b=>decide (b≠0))=BL.filter (fun b=>decide (b≠0)):=by
   have hz:(List.replicate 32 (0:Int)).filter (fun b=>decide (b≠0))=[]:=List.filter_eq_nil_iff.2 (fun b hb=>by rw[List.mem_replicate] at hb; simp[hb.2])
   rw[←hBL,List.filter_append,hz,List.append_nil]
  rw[←hs]
  refine List.Nodup.sublist (List.Sublist.filter _ ?_) hn
  exact((List.take_sublist 8 _)).trans (List.sublist_cons_self _ _)
 have hfile:FileOk (upd V (q1z g i) 24 (textL 2 N.toNat)) (q1z g i) { FK with more:=N,blocks:=BL }:=by
  refine⟨hblen,?_,fun _=>hbd,fun h0=>?_,?_,fun hj=>?_⟩
  ·rw[upd_same,h.file.node,inodeB_more (n:=FK.node) hlt]
   unfold File.node
   dsimp only
   rw[hbt]
  ·dsimp only at h0 ⊢
   rw[q10z V (hNj h0),hbd]
   exact(hN.resolve_left h0).2.1
  ·unfold File.all
   dsimp only
   rw[List.filter_cons]
   split
   ·rename_i h0
    have h0:N≠0:=by simpa using h0
    rw[List.nodup_cons]
    exact⟨fun hx=>(hN.resolve_left h0).1 (hmem N (List.mem_filter.1 hx).1 h0).1,hnodB⟩
   ·exact hnodB
  ·rcases hall _ hj with e | ⟨hj,_⟩
   ·exact hNj (e ▸ (q6z.1 hj).2) e.symm
   ·exact h.file.apart hj
 refine⟨{ FK with more:=N,blocks:=BL },⟨hfile,h.kind,h.links,h.parent,h.gen,h.size,fun b hb=>?_,fun k p hin ha=>?_⟩,hall⟩
 ·rcases hall b hb with rfl | ⟨hb,_⟩
  ·obtain⟨_,_,k,p,hin,e,hbit⟩:=hN.resolve_left (q6z.1 hb).2
   exact⟨k,p,hin,e,by rw[q10z V (Ne.symm (hms k))]; exact hbit⟩
  ·obtain⟨k,p,hin,e,hbit⟩:=h.blk b hb
   exact⟨k,p,hin,e,by rw[q10z V (Ne.symm (hms k))]; exact hbit⟩
 ·obtain⟨c1,_⟩:=h.cur k p hin (hA _ ha)
  refine⟨fun q hq=>?_,fun hm=>hm⟩
  dsimp only at hq ⊢
  rw[hgd] at hq
  split at hq
  ·exact⟨(c1 q hq).1,fun h8=>by omega⟩
  ·exact absurd hq.symm (q26z hg hin)
theorem HalfV.sized (hg:g.ok) (h:HalfV g i F A V FK) {z:Int} (hz:0≤z∧z≤2560):HalfV g i { F with size:=z } A (upd V (q1z g i) 2 (textL 2 z.toNat)) { FK with size:=z }:=
 ⟨h.file.setSize z,h.kind,h.links,h.parent,h.gen,hz,fun b hb=>by
  obtain⟨k,p,hin,e,hbit⟩:=h.blk b hb
  exact⟨k,p,hin,e,by rw[q10z V (Ne.symm (q21z hg k true))]; exact hbit⟩,h.cur⟩
end
structure CrashV (g:Geom) (i j:Int) (F G:File) (V0:Int→ByteArray) (A:AllT) (V:Int→ByteArray) (FK GK:File):Prop where
 f:HalfV g i F A V FK
 s:HalfV g j G A V GK
 dis:∀x∈FK.all,x∉GK.all
 kf:KnowsF g i F A
 ks:KnowsF g j G A
 maps:∀k,0≤k∧k<g.groups→mapC (V (q3z g k true)) g.blocks=0
 rest:∀s,(∀k,s≠q3z g k true)→s≠q1z g i→s≠q1z g j→(∀k p,InG g k p→s≠q2z g k p)→V s=V0 s
def q25z (g:Geom) (i j:Int) (F G:File) (V0:Int→ByteArray):AllT→(Int→ByteArray)→Prop:=fun A V=>∃FK GK,CrashV g i j F G V0 A V FK GK
section
variable {g:Geom} {i j:Int} {F FK G GK:File} {A A':AllT} {V V' V0:Int→ByteArray} {X Y:List Int} {r:Nat} {S:Side} {K:Nat→Bool}
theorem CrashV.swap (h:CrashV g i j F G V0 A V FK GK):CrashV g j i G F V0 A V GK FK:=⟨h.s,h.f,fun x h1 h2=>h.dis x h2 h1,h.ks,h.kf,h.maps,fun s h1 h2 h3=>h.rest s h1 h3 h2⟩
theorem q25z.swap (h:q25z g i j F G V0 A V):q25z g j i G F V0 A V:=by
 obtain⟨FK,GK,h⟩:=h
 exact⟨GK,FK,h.swap⟩
theorem keptR_swap (h:S.KeptR (q25z g i j F G V0)):S.KeptR (q25z g j i G F V0):=⟨h.1,fun K hK=>(h.2 K hK).swap⟩
theorem Bm.ing (h:Bm g i S F X Y r) {b:Int} (hb:b∈Y):∃k p,InG g k p∧b=q2z g k p:=by
 obtain⟨k,p,hk,hp,e⟩:=h.held.blk hb
 obtain⟨q,rfl⟩:∃q:Nat,p=(q:Int):=⟨p.toNat,by omega⟩
 exact⟨k,q,⟨hk,hp.2⟩,e⟩
theorem ing64 (hg:g.ok) {k:Int} {p:Nat} (h:InG g k p):p<64:=by
 have:=(manyG_ok hg true).2
 have h2:=h.2
 have e:manyG g true=g.blocks:=rfl
 omega
theorem crash_data (h:Bm2 g i j S F G X Y r) (hg:g.ok) {k:Int} {p:Nat} (hin:InG g k p) (hb:q2z g k p∈F.blocks) {off:Int} {x:ByteArray} {ahead:List Int} (h0:0≤off) (h1:0<x.size) (h2:off+x.size≤64) (hc:S.changeC (q2z g k p) off x ahead=0) (hS:S.KeptR (q25z g i j F G V0)):(S.change (q2z g k p) off x ahead).KeptR (q25z g i j F G V0):=by
 refine⟨q58z hS.1 h.fl hc,fun K hK=>?_⟩
 obtain⟨hadm,hk⟩:=q66z hc hK
 obtain⟨FK,GK,c⟩:=hS.2 K hadm
 have hb0:=q26z hg hin
 have hbF:q2z g k p∈F.all:=q6z.2 ⟨Or.inr hb,hb0⟩
 have hbm:∀k',q2z g k p≠q3z g k' true:=fun k'=>q51z hg ⟨by omega,hin.2⟩ k' true
 have hbi:∀n,q2z g k p≠q1z g n:=fun n e=>q27z hg ⟨by omega,hin.2⟩ e.symm
 have hA:∀T,(S.change (q2z g k p) off x ahead).All K T→S.All K T:=fun T ht=>((q52z hc T).1 ht).1
 have hbits:∀k' p',S.All K (bitT g k' p')→(S.change (q2z g k p) off x ahead).All K (bitT g k' p'):=fun k' p' ha=>(q52z hc _).2 ⟨ha,fun ht=>absurd ht (q135z (hbm k'))⟩
 have kf:=c.kf.chg hA (fun k p _ _ ha=>hbits k p ha) hg
 have ks:=c.ks.chg hA (fun k p _ _ ha=>hbits k p ha) hg
 refine⟨FK,GK,?_⟩
 rw[part_change hc]
 by_cases hkn:K (S.deps.last+1)=true
 ·rw[if_pos hkn]
  have hbit:=c.kf.data k p hin hbF off x.size h0 (by omega) h2 (hk hkn).2
  refine⟨(c.f.weak hA).other (hbi i) (fun hm e=>?_) hbm _ _,(c.s.weak hA).other (hbi j) (fun hm e=>?_) hbm _ _,c.dis,kf,ks,fun k' hk'=>?_,fun s s1 s2 s3 s4=>?_⟩
  ·have:=(c.f.cur k p hin hbit).2 e.symm
   exact h.a.file.more_apart (by rw[this]; exact hb0) (by rw[this]; exact hb)
  ·have:=(c.s.cur k p hin hbit).2 e.symm
   exact h.dis _ hbF (q6z.2 ⟨Or.inl this.symm,hb0⟩)
  ·rw[q10z _ (Ne.symm (hbm k'))]
   exact c.maps k' hk'
  ·rw[q10z _ (s4 k p hin)]
   exact c.rest s s1 s2 s3 s4
 ·rw[if_neg hkn]
  exact⟨c.f.weak hA,c.s.weak hA,c.dis,kf,ks,c.maps,c.rest⟩
theorem crash_sized (h:Bm2 g i j S F G X Y r) (hg:g.ok) {z:Int} (hz:0≤z∧z≤2560) {ahead:List Int} (hc:S.changeC (q1z g i) 2 (putB 2 z) ahead=0) (hS:S.KeptR (q25z g i j F G V0)):(S.change (q1z g i) 2 (putB 2 z) ahead).KeptR (q25z g i j { F with size:=z } G V0):=by
 refine⟨q58z hS.1 h.fl hc,fun K hK=>?_⟩
 obtain⟨hadm,hk⟩:=q66z hc hK
 obtain⟨FK,GK,c⟩:=hS.2 K hadm
 have hbm:∀k',q1z g i≠q3z g k' true:=fun k'=>q21z hg k' true
 have hA:∀T,(S.change (q1z g i) 2 (putB 2 z) ahead).All K T→S.All K T:=fun T ht=>((q52z hc T).1 ht).1
 have hbits:∀k' p',S.All K (bitT g k' p')→(S.change (q1z g i) 2 (putB 2 z) ahead).All K (bitT g k' p'):=fun k' p' ha=>(q52z hc _).2 ⟨ha,fun ht=>absurd ht (q135z (hbm k'))⟩
 have kf:=c.kf.chg hA (fun k p _ _ ha=>hbits k p ha) hg
 have ks:=c.ks.chg hA (fun k p _ _ ha=>hbits k p ha) hg
 have kf':KnowsF g i { F with size:=z } ((S.change (q1z g i) 2 (putB 2 z) ahead).All K):=⟨kf.data,kf.point,kf.more⟩
 rw[part_change hc]
 by_cases hkn:K (S.deps.last+1)=true
 ·rw[if_pos hkn]
  have hf:=(c.f.weak hA).sized hg hz
  rw[(putB2 _).1]
  refine⟨{ FK with size:=z },GK,hf,(c.s.weak hA).other h.apart (fun hm e=>?_) hbm _ _,c.dis,kf',ks,fun k' hk'=>?_,fun s s1 s2 s3 s4=>?_⟩
  ·obtain⟨k,p,hin,e2,_⟩:=c.s.blk _ (q6z.2 ⟨Or.inl rfl,hm⟩)
   exact q27z hg ⟨by omega,hin.2⟩ (e.trans e2)
  ·rw[q10z _ (Ne.symm (hbm k'))]
   exact c.maps k' hk'
  ·rw[q10z _ s2]
   exact c.rest s s1 s2 s3 s4
 ·rw[if_neg hkn]
  have hf:=c.f.weak hA
  exact⟨FK,GK,⟨hf.file,hf.kind,hf.links,hf.parent,hf.gen,hf.size,hf.blk,hf.cur⟩,c.s.weak hA,c.dis,kf',ks,c.maps,c.rest⟩
theorem crash_fresh (h:Bm2 g i j S F G X Y r) (hg:g.ok) {k:Int} {p:Nat} (hin:InG g k p) (hY:q2z g k p∉Y) {x:ByteArray} (hx:x.size=64) (hc1:S.changeC (q3z g k true) p oneB []=0) {S1:Side} (hS1:S.change (q3z g k true) p oneB []=S1) (hc2:S1.changeC (q2z g k p) 0 x [(S.deps.last:Int)+1]=0) {S2:Side} (hS2:S1.change (q2z g k p) 0 x [(S.deps.last:Int)+1]=S2) (hfl:S1.Fl) (hfl2:S2.Fl) (hrd:S2.read (q2z g k p)=x)
 (hK:Adm NoP S2.deps.l K) (hadm:Adm NoP S.deps.l K→CrashV g i j F G V0 (S.All K) (S.part K) FK GK) :
 Adm NoP S.deps.l K∧CrashV g i j F G V0 (S2.All K) (S2.part K) FK GK∧(K (S.deps.last+2)=true→q2z g k p∉FK.all∧q2z g k p∉GK.all∧bitAt (S2.part K (q3z g k true)) p=1∧S2.part K (q2z g k p)=x∧S2.All K (bitT g k p)) ∧
  (∀o n:Int,0≤o→0<n→o+n≤64→S2.All K (ovT (q2z g k p) o n)→K (S.deps.last+2)=true):=by
 have hl1:=(Side.change_last hc1).1
 rw[hS1] at hl1
 have hK2:=hK
 rw[←hS2] at hK2
 obtain⟨hadm1,hk2⟩:=q66z hc2 hK2
 rw[hl1] at hk2
 have hadm1':=hadm1
 rw[←hS1] at hadm1'
 obtain⟨hadm0,hk1⟩:=q66z hc1 hadm1'
 have c:=hadm hadm0
 have hb0:=q26z hg hin
 have hbm:∀k',q2z g k p≠q3z g k' true:=fun k'=>q51z hg ⟨by omega,hin.2⟩ k' true
 have hbi:∀n,q2z g k p≠q1z g n:=fun n e=>q27z hg ⟨by omega,hin.2⟩ e.symm
 have hp64:=ing64 hg hin
 have hNF:q2z g k p∉F.all:=fun hm=>hY (h.a.own _ hm)
 have hNG:q2z g k p∉G.all:=fun hm=>hY (h.b.own _ hm)
 have a1:∀T,S1.All K T↔S.All K T∧(T (q3z g k true) p oneB.size→K (S.deps.last+1)=true):=fun T=>by rw[←hS1]; exact q52z hc1 T
 have a2:∀T,S2.All K T↔S1.All K T∧(T (q2z g k p) 0 x.size→K (S.deps.last+2)=true):=fun T=>by
  rw[←hS2]
  have:=q52z (K:=K) hc2 T
  rw[hl1] at this
  exact this
 have one1:((oneB.size:Nat):Int)=1:=rfl
 have hA:∀T,S2.All K T→S.All K T:=fun T ht=>((a1 T).1 ((a2 T).1 ht).1).1
 have hk21:K (S.deps.last+2)=true→K (S.deps.last+1)=true:=fun hkk=>by
  obtain⟨c1,hc1m,hn⟩:=q146z hc1
  rw[hS1] at hc1m
  have:=(hk2 hkk).1 c1 hc1m (by rw[hn]; exact List.mem_singleton.2 (by omega))
  rw[hn] at this
  exact this
 have hbits:∀k' p',InG g k' p'→q2z g k' p'≠q2z g k p→S.All K (bitT g k' p')→S2.All K (bitT g k' p'):=fun k' p' hin' hne ha=>
  (a2 _).2 ⟨(a1 _).2 ⟨ha,fun ht=>absurd ht (bitT_other hg (fun e=>hne (by rw[e.1,e.2])) one1)⟩,fun ht=>absurd ht (q135z (hbm k'))⟩
 have kf:=c.kf.chg hA (fun k' p' hin' hm ha=>hbits k' p' hin' (fun e=>hNF (e ▸ hm)) ha) hg
 have ks:=c.ks.chg hA (fun k' p' hin' hm ha=>hbits k' p' hin' (fun e=>hNG (e ▸ hm)) ha) hg
 have e1:S1.part K=if K (S.deps.last+1)=true then upd (S.part K) (q3z g k true) p [1] else S.part K:=by
  rw[←hS1,part_change hc1,Int.toNat_natCast]
  rfl
 have e2:S2.part K=if K (S.deps.last+2)=true then upd (S1.part K) (q2z g k p) 0 x.data.toList else S1.part K:=by
  rw[←hS2,part_change hc2,hl1]
  rfl
 have hnamed:K (S.deps.last+1)=true→q2z g k p∉FK.all∧q2z g k p∉GK.all:=fun hkk=>by
  have hbit:S.All K (bitT g k p):=(hk1 hkk).2
  obtain⟨f1,f2⟩:=c.f.cur k p hin hbit
  obtain⟨g1,g2⟩:=c.s.cur k p hin hbit
  refine⟨fun hm=>?_,fun hm=>?_⟩
  ·obtain⟨_,hm | ⟨q,_,hq⟩⟩:=q152z hm
   ·exact hNF (q6z.2 ⟨Or.inl (f2 hm.symm).symm,hb0⟩)
   ·exact hNF (q113z (f1 q hq).1 hb0)
  ·obtain⟨_,hm | ⟨q,_,hq⟩⟩:=q152z hm
   ·exact hNG (q6z.2 ⟨Or.inl (g2 hm.symm).symm,hb0⟩)
   ·exact hNG (q113z (g1 q hq).1 hb0)
 have hmz:=q42z (c.maps k hin.1)
 -- behind the bit
 have c1:HalfV g i F (S2.All K) (S1.part K) FK∧HalfV g j G (S2.All K) (S1.part K) GK∧(∀k',0≤k'∧k' < g.groups→mapC (S1.part K (q3z g k' true)) g.blocks=0)∧(∀s,(∀k,s≠q3z g k true)→S1.part K s=S.part K s)∧(K (S.deps.last+1)=true→bitAt (S1.part K (q3z g k true)) p=1):=by
  rw[e1]
  by_cases hkk:K (S.deps.last+1)=true
  ·rw[if_pos hkk]
   refine⟨(c.f.weak hA).bit hg hp64 hmz.2.2.1 (Or.inl rfl),(c.s.weak hA).bit hg hp64 hmz.2.2.1 (Or.inl rfl),fun k' hk'=>?_,fun s hs=>q10z _ (hs k) ..,fun _=>?_⟩
   ·by_cases e:k' = k
    ·subst e
     rw[upd_same]
     exact mapC_set (c.maps k' hk') hin.2 (Or.inr rfl)
    ·rw[q10z _ (fun e2=>e (q122z hg e2).1)]
     exact c.maps k' hk'
   ·rw[upd_same,q181z hmz.2.2.1 hp64,if_pos rfl]
  ·rw[if_neg hkk]
   exact⟨c.f.weak hA,c.s.weak hA,c.maps,fun _ _=>rfl,fun h=>absurd h hkk⟩
 obtain⟨cf,cs,cm,cr,cb⟩:=c1
 refine⟨hadm0,?_,fun hkk=>?_,fun o n ho hn hon ha=>((a2 _).1 ha).2 ⟨rfl,by rw[hx]; omega⟩⟩
 ·rw[e2]
  by_cases hkk:K (S.deps.last+2)=true
  ·rw[if_pos hkk]
   obtain⟨n1,n2⟩:=hnamed (hk21 hkk)
   exact⟨cf.other (hbi i) (fun hm e=>n1 (q6z.2 ⟨Or.inl e,hb0⟩)) hbm _ _,cs.other (hbi j) (fun hm e=>n2 (q6z.2 ⟨Or.inl e,hb0⟩)) hbm _ _,c.dis,kf,ks,fun k' hk'=>by rw[q10z _ (Ne.symm (hbm k'))]; exact cm k' hk',fun s s1 s2 s3 s4=>by rw[q10z _ (s4 k p hin),cr s s1]; exact c.rest s s1 s2 s3 s4⟩
  ·rw[if_neg hkk]
   exact⟨cf,cs,c.dis,kf,ks,cm,fun s s1 s2 s3 s4=>by rw[cr s s1]; exact c.rest s s1 s2 s3 s4⟩
 ·obtain⟨n1,n2⟩:=hnamed (hk21 hkk)
  refine⟨n1,n2,?_,?_,(a2 _).2 ⟨(a1 _).2 ⟨(hk1 (hk21 hkk)).2,fun _=>hk21 hkk⟩,fun _=>hkk⟩⟩
  ·rw[e2,if_pos hkk,q10z _ (Ne.symm (hbm k))]
   exact cb (hk21 hkk)
  ·obtain⟨cw,hcw⟩:∃c:Chg,c=⟨S1.deps.last+1,q2z g k p,0,x,[(S.deps.last:Int)+1] ++ S1.deps.overs (q2z g k p) 0 x,1⟩:=⟨_,rfl⟩
   have hmem:cw∈S2.deps.l:=by
    rw[←hS2,q123z hc2,hcw]
    exact List.mem_append_right _ (List.mem_singleton.2 rfl)
   rw[←hrd]
   refine part_view hfl2.ok (all_of_last hfl2.tied hK hmem (by rw[hcw]; show K (S1.deps.last+1)=true; rw[hl1]; exact hkk) (by rw[hcw]) (by rw[hcw]; exact⟨rfl,hx⟩) (fun y hy _=>?_))
   rw[hcw]
   show y.num≤S1.deps.last+1
   rw[←hS2,q123z hc2] at hy
   rcases List.mem_append.1 hy with hy | hy
   ·have:=(hfl.tied.ok.num y hy).2
    omega
   ·rw[List.mem_singleton.1 hy]
    exact Nat.le_refl _
end
