/-
 Layer 16 as plain data: two files beside one another: Write and Cut. No program in this text.
-/
import Derived.Test.YtgofmnhfajmbfaaGreatDoorSpEnds
namespace Go.Proofs.YtgofmnhfajmbfaaGreatDoor.Sp
open Go Txt
section
variable {g:Geom} {i j:Int} {G:File} {X Y:List Int} {r:Nat} {t:BSt} {first:Int}
theorem two_sized (h:Bm2 g i j t.S t.F G X Y r) (hm:q15z t) (hg:g.ok) (h1:1≤i) (h2:i≤g.groups*g.inodes) (hr:r<1024) (z:Int) {ahead:List Int} (ha:∀n∈ahead,1≤n∧n≤(t.S.deps.last:Int)) :
 t.sizedC g i z ahead=0∧Bm2 g i j (t.sized g i z ahead).S (t.sized g i z ahead).F G X Y (r+1)∧q15z (t.sized g i z ahead)∧(t.sized g i z ahead).F.img (t.sized g i z ahead).S.read=t.F.img t.S.read∧G.img (t.sized g i z ahead).S.read=G.img t.S.read∧(t.sized g i z ahead).S.deps.last=t.S.deps.last+1:=by
 have hs:=h.a.setSize hg h1 h2 hr z ha
 have hl:=Side.change_last hs.1
 have hto:=h.touch hg h1 hr (Or.inl rfl) hs.1 hs.2.1 h.dis
 exact⟨hs.1,hto.1,q86z (q62z hm hs.1) _,hs.2.2,hto.2,hl.1⟩
theorem two_puts (hg:g.ok) (h1:1≤i) (h2:i≤g.groups*g.inodes) {ks:List Int} (hk:∀k∈ks,0≤k∧k<g.groups) :
 ∀(f:Nat) (t:BSt) (Y:List Int) (r:Nat) (at_:Nat) (d:List UInt8),Bm2 g i j t.S t.F G X Y r→q15z t→r+6*f+2<1024→at_+d.length≤2560→(d=[]∨at_ % 64+d.length≤64*f) →
 BSt.putsC g i ks f t at_ d=109∨(BSt.putsC g i ks f t at_ d=0∧∃Y' r',r'≤r+6*f∧Bm2 g i j (BSt.puts g i ks f t at_ d).S (BSt.puts g i ks f t at_ d).F G X Y' r'∧q15z (BSt.puts g i ks f t at_ d) ∧
  (BSt.puts g i ks f t at_ d).F.img (BSt.puts g i ks f t at_ d).S.read=q5z (t.F.img t.S.read) at_ d∧G.img (BSt.puts g i ks f t at_ d).S.read=G.img t.S.read∧q63z t.F (BSt.puts g i ks f t at_ d).F∧r' + 2*Y'.length+mz (BSt.puts g i ks f t at_ d).F≤r+2*Y.length+mz t.F+5*f∧Keeps Y Y' t.F (BSt.puts g i ks f t at_ d).F)
 | 0,t,Y,r,at_,d,h,hm,hr,hat,hf=>by
   have hd0:d=[]:=hf.elim id (fun hf=>List.length_eq_zero_iff.1 (by omega))
   subst hd0
   refine Or.inr ⟨rfl,Y,r,by omega,h,hm,?_,rfl,⟨rfl,rfl,rfl,rfl,rfl⟩,Nat.le_refl _,Keeps.refl _ _⟩
   show t.F.img t.S.read=_
   unfold q5z
   simp
 | f+1,t,Y,r,at_,d,h,hm,hr,hat,hf=>by
   unfold BSt.puts BSt.putsC
   by_cases hd0:d=[]
   ·subst hd0
    rw[if_pos rfl,if_pos rfl]
    refine Or.inr ⟨rfl,Y,r,by omega,h,hm,?_,rfl,⟨rfl,rfl,rfl,rfl,rfl⟩,by omega,Keeps.refl _ _⟩
    unfold q5z
    simp
   ·rw[if_neg hd0,if_neg hd0]
    have hpos:0<d.length:=List.length_pos_iff.2 hd0
    have hmod:=Nat.mod_lt at_ (show 0<64 by decide)
    have hx:(ofL (d.take (64-at_ % 64))).size=min d.length (64-at_ % 64):=by rw[Lib.size_eq,q8z,List.length_take,Nat.min_comm]
    have hq:at_ / 64<40:=by omega
    have hdl:(d.drop (64-at_ % 64)).length=d.length-(64-at_ % 64):=List.length_drop
    rcases two_put h hm hg h1 h2 (by omega) hk hq (off:=at_ % 64) (x:=ofL (d.take (64-at_ % 64))) (by rw[hx]; omega) (by rw[hx]; omega) with e | ⟨e,Y1,r1,e1,b1,m1,i1,g1,s1,p1,kp1⟩
    ·left
     rw[e]
     exact q37z (by decide)
    ·rw[q11z e]
     rcases two_puts hg h1 h2 hk f _ Y1 r1 (at_+min d.length (64-at_ % 64)) (d.drop (64-at_ % 64)) b1 m1 (by omega) (by rw[hdl]; omega) (by
      have hf:=hf.resolve_left hd0
      rw[hdl]
      by_cases hle:d.length≤64-at_ % 64
      ·exact Or.inl (List.length_eq_zero_iff.1 (by rw[hdl]; omega))
      ·right
       have e:min d.length (64-at_ % 64)=64-at_ % 64:=by omega
       rw[e]
       have e2:(at_+(64-at_ % 64)) % 64=0:=by omega
       omega) with e3 | ⟨e3,Y2,r2,e4,b2,m2,i2,g2,s2,p2,kp2⟩
     ·exact Or.inl e3
     ·refine Or.inr ⟨e3,Y2,r2,by omega,b2,m2,?_,g2.trans g1,⟨s2.1.trans s1.1,s2.2.1.trans s1.2.1,s2.2.2.1.trans s1.2.2.1,s2.2.2.2.1.trans s1.2.2.2.1,s2.2.2.2.2.trans s1.2.2.2.2⟩,by omega,kp1.trans kp2⟩
      rw[i2,i1,q8z,show 64*(at_ / 64)+at_ % 64=at_ from Nat.div_add_mod at_ 64]
      have ht:(d.take (64-at_ % 64)).length=min d.length (64-at_ % 64):=by rw[List.length_take,Nat.min_comm]
      rw[←ht,patch_two (by rw[ht,hdl,q124z h.a.file (h.a.sized hg)]; omega),List.take_append_drop]
theorem two_write (h:Bm2 g i j t.S t.F G X Y r) (hm:q15z t) (hg:g.ok) (h1:1≤i) (h2:i≤g.groups*g.inodes) {ks:List Int} (hk:∀k∈ks,0≤k∧k<g.groups) {f off:Nat} {d:List UInt8}
 (hr:r+6*f+2<1024) (hat:off+d.length≤2560) (hf:d=[]∨off % 64+d.length≤64*f) :
 t.writeC g i ks f off d=109∨(t.writeC g i ks f off d=0∧∃Y' r',r'≤r+6*f+1∧Bm2 g i j (t.write g i ks f off d).S (t.write g i ks f off d).F G X Y' r'∧q15z (t.write g i ks f off d) ∧
  (t.write g i ks f off d).F.img (t.write g i ks f off d).S.read=q5z (t.F.img t.S.read) off d∧G.img (t.write g i ks f off d).S.read=G.img t.S.read∧(t.write g i ks f off d).F.size=max t.F.size ((off+d.length:Nat):Int) ∧
  r' + 2*Y'.length+mz (t.write g i ks f off d).F≤r+2*Y.length+mz t.F+5*f+1∧Keeps Y Y' t.F (t.write g i ks f off d).F):=by
 unfold BSt.write BSt.writeC
 rcases two_puts hg h1 h2 hk f t Y r off d h hm hr hat hf with e | ⟨e,Y1,r1,e1,b1,m1,i1,g1,s1,p1,kp1⟩
 ·left
  rw[e]
  exact q37z (by decide)
 ·right
  rw[q11z e]
  by_cases hz:t.F.size<((off+d.length:Nat):Int)
  ·rw[if_pos hz,if_pos hz]
   obtain⟨c2,b2,m2,i2,g2,_⟩:=two_sized b1 m1 hg h1 h2 (by omega) ((off+d.length:Nat):Int) (ahead:=(BSt.puts g i ks f t off d).made) m1
   refine⟨c2,Y1,r1+1,by omega,b2,m2,i2.trans i1,g2.trans g1,?_,?_,kp1⟩
   ·show((off+d.length:Nat):Int)=_
    omega
   ·show r1+1+_+mz (BSt.puts g i ks f t off d).F≤_
    omega
  ·rw[if_neg hz,if_neg hz]
   refine⟨rfl,Y1,r1,by omega,b1,m1,i1,g1,?_,by omega,kp1⟩
   rw[s1.2.2.1]
   omega
theorem filter_less {Y:List Int} {b:Int} (hb:b∈Y):(Y.filter (fun x=>decide (x≠b))).length+1≤Y.length:=by
 have:(Y.filter (fun x=>decide (x≠b))).length<Y.length:=by
  rw[List.length_filter_lt_length_iff_exists]
  exact⟨b,hb,by simp⟩
 omega
theorem two_free (h:Bm2 g i j t.S t.F G X Y r) (hg:g.ok) (hr:r<1024) {b:Int} (hb:b∈Y) (hn:b∉t.F.all) (hn2:b∉G.all) {ahead:List Int} (ha:∀n∈ahead,1≤n∧n≤(t.S.deps.last:Int)) :
 ∃S',t.S.freeBlock g b ahead=(S',(t.S.deps.last:Int)+1,0)∧Bm2 g i j S' t.F G X (Y.filter (fun x=>decide (x≠b))) (r+1)∧t.F.img S'.read=t.F.img t.S.read∧G.img S'.read=G.img t.S.read∧S'.deps.last=t.S.deps.last+1:=by
 obtain⟨S',e1,b1,i1,l1⟩:=h.a.free hg hr hb hn ha
 obtain⟨S2,e2,b2,i2,_⟩:=h.b.free hg hr hb hn2 ha
 rw[e1] at e2
 cases e2
 have hf:S'.Fl:=by
  obtain⟨k,p,hk,hp,e⟩:=h.a.held.blk hb
  have:=freeBlock_fl hg h.fl (by have:=h.a.held.last; omega) hk hp ahead
  rw[←e,e1] at this
  exact this
 exact⟨S',e1,⟨b1,b2,h.apart,h.dis,hf⟩,i1,i2,l1⟩
theorem two_wipe (h:Bm2 g i j t.S t.F G X Y r) (hm:q15z t) (hg:g.ok) (h1:1≤i) (h2:i≤g.groups*g.inodes) (hr:r+2<1024) (hf:1≤first∧first≤(t.S.deps.last:Int)) {q:Nat} (hq:q<40) :
 t.wipeC g i first q=0∧∃Y' r',r'≤r+2∧Bm2 g i j (t.wipe g i first q).S (t.wipe g i first q).F G X Y' r'∧q15z (t.wipe g i first q)∧(t.wipe g i first q).F = { t.F with blocks:=t.F.blocks.set q 0 } ∧
  (t.wipe g i first q).F.img (t.wipe g i first q).S.read=q5z (t.F.img t.S.read) (64*q) (zeros 64)∧G.img (t.wipe g i first q).S.read=G.img t.S.read∧t.S.deps.last≤(t.wipe g i first q).S.deps.last∧r' + 2*Y'.length≤r+2*Y.length∧Keeps Y Y' t.F (t.wipe g i first q).F:=by
 have hcc:=bm_wipeC h.a hg h1 h2 hr hf hq
 refine⟨hcc,?_⟩
 have hq2:q<t.F.blocks.length:=by rw[h.a.file.len]; exact hq
 have hgd:t.F.blocks.getD q 0=t.F.blocks[q]:=by rw[List.getD_eq_getElem?_getD,List.getElem?_eq_getElem hq2]; rfl
 have hs0:secL t.S.read 0=zeros 64:=if_pos rfl
 by_cases h0:t.F.blocks.getD q 0≠0
 ·have hb0:t.F.blocks[q]≠0:=by rw[←hgd]; exact h0
  have hmo:8≤q→t.F.more≠0:=fun h8 e=>hb0 (by
   have hz:=h.a.file.none e
   have:(t.F.blocks.drop 8)[q-8]? = some 0:=by rw[hz,List.getElem?_replicate,if_pos (by omega)]
   rw[List.getElem?_drop,show 8+(q-8)=q by omega,List.getElem?_eq_getElem hq2] at this
   exact Option.some.inj this)
  have hp:=h.a.point hg h1 h2 (by omega) hq (b:=0) (Or.inl rfl) hmo (ahead:=[first]) (fun n hn=>by rw[List.mem_singleton] at hn; omega)
  have hl:=Side.change_last hp.1
  have hin:t.F.blocks[q]∈t.F.all:=q6z.2 ⟨Or.inr (List.getElem_mem hq2),hb0⟩
  have hY:t.F.blocks[q]∈Y:=h.a.own _ hin
  have hto:=h.touch hg h1 (by omega) (point_in g i t.F hmo) hp.1 hp.2.1 (fun x hx=>by
   rcases q180z hx with hx | rfl
   ·exact h.dis x hx
   ·exact fun hz=>(q6z.1 hx).2 rfl)
  have hname:(t.name g i q 0 [first]).S=t.S.change (q7z g i t.F q) (q9z q) (putB 2 0) [first]:=rfl
  obtain⟨S',e1,b1,i1,g1,l1⟩:=two_free (t:=t.name g i q 0 [first]) hto.1 hg (by omega) hY (all_wiped h.a.file hq hb0) (h.dis _ hin) (ahead:=[(t.S.deps.last:Int)+1]) (fun n hn=>by rw[List.mem_singleton] at hn; rw[hname,hl.1]; omega)
  have et:t.wipe g i first q=⟨S',{ t.F with blocks:=t.F.blocks.set q 0 },(t.name g i q 0 [first]).made ++ [(t.S.deps.last:Int)+2]⟩:=by
   unfold BSt.wipe
   rw[if_pos h0]
   unfold BSt.gone
   rw[hgd,hl.2,e1,hname,hl.1]
   rfl
  have mn:=q86z (q62z hm hp.1) { t.F with blocks:=t.F.blocks.set q 0 }
  have hfl:=filter_less hY
  refine⟨Y.filter (fun x=>decide (x≠t.F.blocks[q])),r+1+1,by omega,by rw[et]; exact b1,?_,by rw[et],?_,by rw[et]; exact g1.trans hto.2,by rw[et]; show _≤S'.deps.last; rw[l1,hname,hl.1]; omega,by omega,?_⟩
  rotate_left 2
  ·rw[et]
   intro y hy
   rw[List.mem_filter,decide_eq_true_iff] at hy
   exact Or.inl ⟨hy.1,fun hf=>all_place hf (by rw[hgd]; exact hy.2)⟩
  ·rw[et]
   intro n hn
   show 1≤n∧n≤(S'.deps.last:Int)
   rw[l1,hname]
   have hn:n∈(t.name g i q 0 [first]).made ++ [(t.S.deps.last:Int)+2]:=hn
   rcases List.mem_append.1 hn with hn | hn
   ·have hn2:=mn n hn
    have hn2:1≤n∧n≤((t.S.change (q7z g i t.F q) (q9z q) (putB 2 0) [first]).deps.last:Int):=hn2
    omega
   ·rw[List.mem_singleton] at hn
    rw[hl.1]
    omega
  ·rw[et]
   show File.img _ S'.read=_
   refine i1.trans ?_
   rw[←hs0]
   exact hp.2.2
 ·have h00:t.F.blocks.getD q 0=0:=Classical.byContradiction h0
  have hb0:t.F.blocks[q]=0:=by rw[←hgd]; exact h00
  have et:t.wipe g i first q=t:=if_neg h0
  have hset:t.F.blocks.set q 0=t.F.blocks:=by
   have:=List.set_getElem_self hq2
   rw[hb0] at this
   exact this
  rw[et]
  refine⟨Y,r,by omega,h,hm,by rw[hset],?_,rfl,Nat.le_refl _,Nat.le_refl _,Keeps.refl _ _⟩
  have hsec:=img_sec h.a.file (h.a.sized hg) hq
  rw[hb0,hs0] at hsec
  have hself:q5z (t.F.img t.S.read) (64*q) (((t.F.img t.S.read).drop (64*q)).take 64)=t.F.img t.S.read:=by
   unfold q5z
   have ht:(((t.F.img t.S.read).drop (64*q)).take 64).length=64:=by rw[hsec]; exact zeros_length 64
   rw[ht,←List.drop_drop,List.append_assoc,List.take_append_drop,List.take_append_drop]
  rw[hsec] at hself
  exact hself.symm
theorem two_wipes (hg:g.ok) (h1:1≤i) (h2:i≤g.groups*g.inodes):∀(n q:Nat) (t:BSt) (Y:List Int) (r:Nat),q+n≤40→Bm2 g i j t.S t.F G X Y r→q15z t→r+2*n<1024→(1≤first∧first≤(t.S.deps.last:Int)) →
 BSt.wipesC g i first (List.range' q n) t=0∧∃Y' r',r'≤r+2*n∧Bm2 g i j (BSt.wipes g i first (List.range' q n) t).S (BSt.wipes g i first (List.range' q n) t).F G X Y' r'∧q15z (BSt.wipes g i first (List.range' q n) t)∧q63z t.F (BSt.wipes g i first (List.range' q n) t).F∧(BSt.wipes g i first (List.range' q n) t).F.more=t.F.more ∧
  (BSt.wipes g i first (List.range' q n) t).F.img (BSt.wipes g i first (List.range' q n) t).S.read=q5z (t.F.img t.S.read) (64*q) (zeros (64*n))∧G.img (BSt.wipes g i first (List.range' q n) t).S.read=G.img t.S.read∧t.S.deps.last≤(BSt.wipes g i first (List.range' q n) t).S.deps.last∧r' + 2*Y'.length≤r+2*Y.length∧Keeps Y Y' t.F (BSt.wipes g i first (List.range' q n) t).F
 | 0,q,t,Y,r,hq,h,hm,hr,hf=>by
   refine⟨rfl,Y,r,by omega,h,hm,⟨rfl,rfl,rfl,rfl,rfl⟩,rfl,?_,rfl,Nat.le_refl _,Nat.le_refl _,Keeps.refl _ _⟩
   show t.F.img t.S.read=_
   unfold q5z zeros
   simp
 | n+1,q,t,Y,r,hq,h,hm,hr,hf=>by
   obtain⟨c1,Y1,r1,e1,b1,m1,f1,i1,g1,l1,y1,kp1⟩:=two_wipe h hm hg h1 h2 (by omega) hf (q:=q) (by omega)
   obtain⟨c2,Y2,r2,e2,b2,m2,s2,mo2,i2,g2,l2,y2,kp2⟩:=two_wipes hg h1 h2 n (q+1) (t.wipe g i first q) Y1 r1 (by omega) b1 m1 (by omega) ⟨hf.1,by omega⟩
   have ew:BSt.wipes g i first (List.range' q (n+1)) t=BSt.wipes g i first (List.range' (q+1) n) (t.wipe g i first q):=by rw[List.range'_succ]; rfl
   have ec:BSt.wipesC g i first (List.range' q (n+1)) t=0:=by
    rw[List.range'_succ]
    unfold BSt.wipesC
    rw[c1,q11z rfl]
    exact c2
   rw[ew]
   rw[f1] at s2 mo2
   refine⟨ec,Y2,r2,by omega,b2,m2,s2,mo2,?_,g2.trans g1,by omega,by omega,kp1.trans kp2⟩
   rw[i2,i1,show 64*(q+1)=64*q+64 by omega,patch_next (by rw[q124z h.a.file (h.a.sized hg)]; omega)]
   congr 2
   omega
theorem two_unlist (h:Bm2 g i j t.S t.F G X Y r) (hm:q15z t) (hg:g.ok) (h1:1≤i) (h2:i≤g.groups*g.inodes) (hr:r+2<1024) (hf:1≤first∧first≤(t.S.deps.last:Int)) :
 t.unlistC g i first=0∧∃Y' r',r'≤r+2∧Bm2 g i j (t.unlist g i first).S (t.unlist g i first).F G X Y' r'∧q15z (t.unlist g i first)∧q63z t.F (t.unlist g i first).F ∧
  (t.unlist g i first).F.img (t.unlist g i first).S.read=t.F.img t.S.read∧G.img (t.unlist g i first).S.read=G.img t.S.read∧r' + 2*Y'.length+mz (t.unlist g i first).F≤r+2*Y.length+mz t.F+5∧Keeps Y Y' t.F (t.unlist g i first).F:=by
 refine⟨bm_unlistC h.a hg h1 h2 hr hf,?_⟩
 by_cases h0:t.F.more≠0∧t.F.blocks.drop 8=List.replicate 32 0
 ·have hp:=h.a.setMore hg h1 h2 (by omega) (m:=0) (fun _=>h0.2) (fun e=>absurd rfl e) (ahead:=[first]) (fun n hn=>by rw[List.mem_singleton] at hn; omega)
  have hl:=Side.change_last hp.1
  have hin:t.F.more∈t.F.all:=q6z.2 ⟨Or.inl rfl,h0.1⟩
  have hY:t.F.more∈Y:=h.a.own _ hin
  have hna:t.F.more∉({ t.F with more:=0 }:File).all:=fun hx=>by
   obtain⟨hx,_⟩:=q6z.1 hx
   rcases hx with e | hx
   ·exact h0.1 e
   ·exact h.a.file.more_apart h0.1 hx
  have hto:=h.touch hg h1 (by omega) (Or.inl rfl) hp.1 hp.2.1 (fun x hx=>by
   rcases all_more hx with hx | rfl
   ·exact h.dis x hx
   ·exact fun hz=>(q6z.1 hx).2 rfl)
  have hname:(t.more g i 0 [first]).S=t.S.change (q1z g i) 24 (putB 2 0) [first]:=rfl
  obtain⟨S',e1,b1,i1,g1,l1⟩:=two_free (t:=t.more g i 0 [first]) hto.1 hg (by omega) hY hna (h.dis _ hin) (ahead:=[(t.S.deps.last:Int)+1]) (fun n hn=>by rw[List.mem_singleton] at hn; rw[hname,hl.1]; omega)
  have et:t.unlist g i first=⟨S',{ t.F with more:=0 },(t.more g i 0 [first]).made ++ [(t.S.deps.last:Int)+2]⟩:=by
   unfold BSt.unlist
   rw[if_pos h0]
   unfold BSt.gone
   rw[hl.2,e1,hname,hl.1]
   rfl
  have mn:=q86z (q62z hm hp.1) { t.F with more:=0 }
  have hfl:=filter_less hY
  rw[et]
  refine⟨Y.filter (fun x=>decide (x≠t.F.more)),r+1+1,by omega,b1,fun n hn=>?_,⟨rfl,rfl,rfl,rfl,rfl⟩,i1.trans hp.2.2,g1.trans hto.2,?_,fun y hy=>?_⟩
  ·show 1≤n∧n≤(S'.deps.last:Int)
   rw[l1,hname]
   have hn:n∈(t.more g i 0 [first]).made ++ [(t.S.deps.last:Int)+2]:=hn
   rcases List.mem_append.1 hn with hn | hn
   ·have hn2:1≤n∧n≤((t.S.change (q1z g i) 24 (putB 2 0) [first]).deps.last:Int):=mn n hn
    omega
   ·rw[List.mem_singleton] at hn
    rw[hl.1]
    omega
  ·have z1:mz ({ t.F with more:=0 }:File)=5:=if_pos rfl
   have z2:mz t.F=0:=if_neg h0.1
   show r+1+1+_+mz ({ t.F with more:=0 }:File)≤_
   rw[z1,z2]
   omega
  ·rw[List.mem_filter,decide_eq_true_iff] at hy
   refine Or.inl ⟨hy.1,fun hf=>?_⟩
   obtain⟨h3,h4⟩:=q6z.1 hf
   exact q6z.2 ⟨Or.inr (h3.resolve_left hy.2),h4⟩
 ·have et:t.unlist g i first=t:=if_neg h0
  rw[et]
  exact⟨Y,r,by omega,h,hm,⟨rfl,rfl,rfl,rfl,rfl⟩,rfl,rfl,by omega,Keeps.refl _ _⟩
theorem two_rest (h:Bm2 g i j t.S t.F G X Y r) (hm:q15z t) (hg:g.ok) (h1:1≤i) (hr:r<1024) (hf:1≤first∧first≤(t.S.deps.last:Int)) {z:Nat} (hz:z≤2560) :
 t.restC first z=0∧∃r',r'≤r+1∧Bm2 g i j (t.rest first z).S (t.rest first z).F G X Y r'∧q15z (t.rest first z)∧(t.rest first z).F=t.F∧t.S.deps.last≤(t.rest first z).S.deps.last ∧
  (t.rest first z).F.img (t.rest first z).S.read=q5z (t.F.img t.S.read) z (zeros (64*upB z-z))∧G.img (t.rest first z).S.read=G.img t.S.read:=by
 refine⟨bm_restC h.a hg hr hf hz,?_⟩
 obtain⟨r1,e1,b1,m1,f1,l1,i1⟩:=bm_rest h.a hm hg hr hf hz
 by_cases h0:z % 64≠0∧t.F.blocks.getD (z / 64) 0≠0
 ·have hq:z / 64<40:=by omega
  have hq2:z / 64<t.F.blocks.length:=by rw[h.a.file.len]; exact hq
  have hgd:t.F.blocks.getD (z / 64) 0=t.F.blocks[z / 64]:=by rw[List.getD_eq_getElem?_getD,List.getElem?_eq_getElem hq2]; rfl
  have hx:(ofL (zeros (64-z % 64))).size=64-z % 64:=by rw[Lib.size_eq,q8z,zeros_length]
  have hdt:=h.a.data hg hr hq (by rw[←hgd]; exact h0.2) (off:=z % 64) (x:=ofL (zeros (64-z % 64))) (by rw[hx]; omega) (by rw[hx]; omega) (ahead:=[first]) (fun n hn=>by rw[List.mem_singleton] at hn; omega)
  rw[←hgd] at hdt
  have hto:=h.touch hg h1 hr (Or.inr (q6z.2 ⟨Or.inr (by rw[hgd]; exact List.getElem_mem hq2),h0.2⟩)) hdt.1 hdt.2.1 h.dis
  have et:t.rest first z=t.chg (t.F.blocks.getD (z / 64) 0) ((z % 64:Nat):Int) (ofL (zeros (64-z % 64))) [first]:=if_pos h0
  rw[et] at b1 m1 f1 l1 i1 ⊢
  exact⟨r+1,by omega,hto.1,m1,f1,l1,i1,hto.2⟩
 ·have et:t.rest first z=t:=if_neg h0
  rw[et] at b1 m1 f1 l1 i1 ⊢
  exact⟨r,by omega,h,hm,rfl,Nat.le_refl _,i1,rfl⟩
theorem two_shrunk (h:Bm2 g i j t.S t.F G X Y r) (hm:q15z t) (hg:g.ok) (h1:1≤i) (h2:i≤g.groups*g.inodes) (hr:r+90<1024) (hf:1≤first∧first≤(t.S.deps.last:Int)) {z:Nat} (hz:z≤2560) :
 t.shrunkC g i first z=0∧∃Y' r',r'≤r+85∧Bm2 g i j (t.shrunk g i first z).S (t.shrunk g i first z).F G X Y' r'∧q15z (t.shrunk g i first z)∧q63z t.F (t.shrunk g i first z).F ∧
  (t.shrunk g i first z).F.img (t.shrunk g i first z).S.read=q5z (t.F.img t.S.read) z (zeros (2560-z))∧G.img (t.shrunk g i first z).S.read=G.img t.S.read∧r' + 2*Y'.length+mz (t.shrunk g i first z).F≤r+2*Y.length+mz t.F+6∧Keeps Y Y' t.F (t.shrunk g i first z).F:=by
 obtain⟨c1,r1,e1,b1,m1,f1,l1,i1,g1⟩:=two_rest h hm hg h1 (by omega) hf hz
 have hup:upB z≤40∧z≤64*upB z:=by unfold upB; split <;> omega
 obtain⟨c2,Y2,r2,e2,b2,m2,s2,mo2,i2,g2,l2,y2,kp2⟩:=two_wipes (first:=first) hg h1 h2 (40-upB z) (upB z) (t.rest first z) Y r1 (by omega) b1 m1 (by omega) ⟨hf.1,by omega⟩
 obtain⟨c3,Y3,r3,e3,b3,m3,s3,i3,g3,y3,kp3⟩:=two_unlist b2 m2 hg h1 h2 (by omega) (first:=first) ⟨hf.1,by omega⟩
 rw[f1] at s2 mo2
 have hmz:mz (BSt.wipes g i first (List.range' (upB z) (40-upB z)) (t.rest first z)).F=mz t.F:=by unfold mz; rw[mo2]
 rw[hmz] at y3
 refine⟨?_,Y3,r3,by omega,b3,m3,⟨s3.1.trans s2.1,s3.2.1.trans s2.2.1,s3.2.2.1.trans s2.2.2.1,s3.2.2.2.1.trans s2.2.2.2.1,s3.2.2.2.2.trans s2.2.2.2.2⟩,?_,g3.trans (g2.trans g1),?_,?_⟩
 ·unfold BSt.shrunkC
  rw[c1,q11z rfl,c2,q11z rfl]
  exact c3
 ·show File.img _ _=_
  refine i3.trans ?_
  rw[i2,i1]
  have:=patch_next (l:=t.F.img t.S.read) (a:=z) (n:=64*upB z-z) (m:=64*(40-upB z)) (by rw[q124z h.a.file (h.a.sized hg)]; omega)
  rw[show z+(64*upB z-z)=64*upB z by omega] at this
  rw[this]
  congr 2
  omega
 ·show r3+_+mz (BSt.unlist _ g i first).F≤_
  omega
 ·rw[f1] at kp2
  exact kp2.trans kp3
theorem two_cut (h:Bm2 g i j t.S t.F G X Y r) (hm:q15z t) (hg:g.ok) (h1:1≤i) (h2:i≤g.groups*g.inodes) (hr:r+92<1024) {z:Nat} (hz:z≤2560) (h0:∀n:Nat,t.F.size≤(n:Int)→q5z (t.F.img t.S.read) n (zeros (2560-n))=t.F.img t.S.read) :
 t.cutC g i z=0∧∃Y' r',r'≤r+86∧Bm2 g i j (t.cut g i z).S (t.cut g i z).F G X Y' r'∧q15z (t.cut g i z)∧(t.cut g i z).F.size=z ∧
  (t.cut g i z).F.img (t.cut g i z).S.read=q5z (t.F.img t.S.read) z (zeros (2560-z))∧G.img (t.cut g i z).S.read=G.img t.S.read∧r' + 2*Y'.length+mz (t.cut g i z).F≤r+2*Y.length+mz t.F+7∧Keeps Y Y' t.F (t.cut g i z).F:=by
 refine⟨bm_cutC h.a hm hg h1 h2 hr hz,?_⟩
 unfold BSt.cut
 by_cases e:(z:Int)=t.F.size
 ·rw[if_pos e]
  refine⟨Y,r,by omega,h,hm,e.symm,(h0 z (by omega)).symm,rfl,by omega,Keeps.refl _ _⟩
 ·rw[if_neg e]
  obtain⟨c1,b1,m1,i1,g1,l1⟩:=two_sized h hm hg h1 h2 (by omega) (z:Int) (ahead:=[]) (by simp)
  by_cases hlt:(z:Int)<t.F.size
  ·rw[if_pos hlt]
   obtain⟨c2,Y2,r2,e2,b2,m2,s2,i2,g2,p2,kp2⟩:=two_shrunk b1 m1 hg h1 h2 (by omega) (first:=(t.S.deps.last:Int)+1) ⟨by omega,by rw[l1]; omega⟩ hz
   have hmz:mz (t.sized g i z []).F=mz t.F:=rfl
   rw[hmz] at p2
   exact⟨Y2,r2,by omega,b2,m2,s2.2.2.1,i2.trans (by rw[i1]),g2.trans g1,by omega,kp2⟩
  ·rw[if_neg hlt]
   refine⟨Y,r+1,by omega,b1,m1,rfl,i1.trans (h0 z (by omega)).symm,g1,?_,Keeps.refl _ _⟩
   show r+1+_+mz t.F≤_
   omega
end
