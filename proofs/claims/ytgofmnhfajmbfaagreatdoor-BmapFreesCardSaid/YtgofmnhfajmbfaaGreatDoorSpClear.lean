/-
 Layer 16 as plain data: an inode is cleared,and all that it has is freed. No program in this text.
-/
import Derived.Test.YtgofmnhfajmbfaaGreatDoorSpTwoB
namespace Go.Proofs.YtgofmnhfajmbfaaGreatDoor.Sp
open Go Txt
def bare (gen:Int):File:=⟨0,0,0,0,(gen+1) % 65536,List.replicate 40 0,0⟩
theorem q136z (n:Int):(bare n).all=[]:=by
 show((0:Int) :: List.replicate 40 0).filter (fun b=>decide (b≠0))=[]
 decide
def BSt.wiped (t:BSt) (g:Geom) (i:Int) (ahead:List Int):BSt:=t.chg (q2z g i) 0 (q19z (bare t.F.gen).node) ahead
def BSt.wipedC (t:BSt) (g:Geom) (i:Int) (ahead:List Int):Int:=t.S.changeC (q2z g i) 0 (q19z (bare t.F.gen).node) ahead
def BSt.gones (g:Geom) (first:Int):List Int→BSt→BSt
 | [],t=>t
 | b :: r,t=>if b≠0 then BSt.gones g first r (t.gone g b [first]) else BSt.gones g first r t
def BSt.gonesC (g:Geom) (first:Int):List Int→BSt→Int
 | [],_=>0
 | b :: r,t=>if b≠0 then thenC (t.goneC g b [first]) (BSt.gonesC g first r (t.gone g b [first])) else BSt.gonesC g first r t
def BSt.left (t:BSt) (g:Geom) (i first:Int):BSt:=⟨(t.S.freeInode g i [first]).1,t.F,t.made ++ [(t.S.freeInode g i [first]).2.1]⟩
def BSt.leftC (t:BSt) (g:Geom) (i first:Int):Int:=(t.S.freeInode g i [first]).2.2
def BSt.clear (t:BSt) (g:Geom) (i:Int) (ahead:List Int):BSt:=(BSt.gones g ((t.S.deps.last:Int)+1) (t.F.blocks ++ [t.F.more]) (t.wiped g i ahead)).left g i ((t.S.deps.last:Int)+1)
def BSt.clearC (t:BSt) (g:Geom) (i:Int) (ahead:List Int):Int:=
 thenC (t.wipedC g i ahead) (thenC (BSt.gonesC g ((t.S.deps.last:Int)+1) (t.F.blocks ++ [t.F.more]) (t.wiped g i ahead)) ((BSt.gones g ((t.S.deps.last:Int)+1) (t.F.blocks ++ [t.F.more]) (t.wiped g i ahead)).leftC g i ((t.S.deps.last:Int)+1)))
section
variable {g:Geom} {i j:Int} {S:Side} {F G:File} {X Y:List Int} {r:Nat}
theorem Bm.freeInode (h:Bm g i S F X Y r) (hg:g.ok) (hr:r<1024) {n:Int} (h1:1≤n) (h2:n≤g.groups*g.inodes) (hx:n∈X) {ahead:List Int} (ha:∀n∈ahead,1≤n∧n≤(S.deps.last:Int)) :
 ∃S',S.freeInode g n ahead=(S',(S.deps.last:Int)+1,0)∧Bm g i S' F (X.filter (fun x=>decide (x≠n))) Y (r+1)∧F.img S'.read=F.img S.read∧S'.deps.last=S.deps.last+1:=by
 obtain⟨hc,hk,hp,hn⟩:=q142z hg h1 h2
 obtain⟨k,hkd⟩:∃k,(n-1) / g.inodes=k:=⟨_,rfl⟩
 obtain⟨p,hpd⟩:∃p,(n-1) % g.inodes=p:=⟨_,rfl⟩
 rw[hkd,hpd] at hn
 rw[hkd] at hk
 rw[hpd] at hp
 obtain⟨q,rfl⟩:∃q:Nat,p=(q:Int):=⟨p.toNat,by omega⟩
 obtain⟨s,hs,hbits⟩:=h.held.ti.look k hk.1 hk.2
 have hbit:=hbits q hp.2
 rw[hn,if_pos hx] at hbit
 have hls:=q68z hs
 have hm:=manyG_ok hg false
 have h3:S.changeC (q6z g k false) q zeroB ahead=0:=q78z h.held.ok hls.1 (by unfold inside; show 0≤(q:Int)∧0<((1:Nat):Int)∧((1:Nat):Int)≤64∧(q:Int)≤64-((1:Nat):Int); have:(q:Int)<manyG g false:=hp.2; omega) ha (by have:=h.held.few; omega)
 have hl:=Side.change_last h3
 refine⟨S.change (q6z g k false) q zeroB ahead,?_,?_,?_,hl.1⟩
 ·unfold Side.freeInode
  rw[if_pos hc,hkd,hpd]
  unfold Side.give
  rw[hs]
  dsimp only
  rw[if_pos ⟨hp.1,hp.2,hbit⟩,h3,hl.2]
 ·obtain⟨n1,n2⟩:=h.not_map hg k false
  have hrd:=q72z h.held.ok h3
  have he:=h.file.elsewhere n1 n2 ((q:Nat):Int).toNat zeroB.data.toList
  have hf:=change_few (S:=S) (i:=q6z g k false) (off:=q) (b:=zeroB) (ahead:=ahead) h.held.few h.held.last
  have hti:=h.held.ti.less (inodeNo_inj g) hg h.held.ok hk hs hp.2 h3
  rw[hn] at hti
  exact⟨⟨Side.change_ok h.held.ok (by have:=h.held.last; omega),hti,h.held.tb.other hg h.held.ok (by decide) hs hp.2 (Or.inl rfl) h3,hf.1,hf.2⟩,by rw[hrd]; exact he.1,h.own,by rw[Side.change_disk]; exact h.dlen⟩
 ·obtain⟨n1,n2⟩:=h.not_map hg k false
  have hrd:=q72z h.held.ok h3
  rw[hrd]
  exact(h.file.elsewhere n1 n2 _ _).2.1
theorem freeInode_fl (hg:g.ok) (hS:S.Fl) (hl:S.deps.last<1000000000) {n:Int} (h1:1≤n) (h2:n≤g.groups*g.inodes) (ahead:List Int):(S.freeInode g n ahead).1.Fl:=by
 obtain⟨hc,hk,_,_⟩:=q142z hg h1 h2
 unfold Side.freeInode
 rw[if_pos hc]
 unfold Side.give
 split
 ·exact hS
 ·split
  ·exact hS.change hl (map_notOne hg hk.1 false)
  ·exact hS
theorem two_freeInode (h:Bm2 g i j S F G X Y r) (hg:g.ok) (hr:r<1024) {n:Int} (h1:1≤n) (h2:n≤g.groups*g.inodes) (hx:n∈X) {ahead:List Int} (ha:∀n∈ahead,1≤n∧n≤(S.deps.last:Int)) :
 ∃S',S.freeInode g n ahead=(S',(S.deps.last:Int)+1,0)∧Bm2 g i j S' F G (X.filter (fun x=>decide (x≠n))) Y (r+1)∧F.img S'.read=F.img S.read∧G.img S'.read=G.img S.read∧S'.deps.last=S.deps.last+1:=by
 obtain⟨S',e1,b1,i1,l1⟩:=h.a.freeInode hg hr h1 h2 hx ha
 obtain⟨S2,e2,b2,i2,_⟩:=h.b.freeInode hg hr h1 h2 hx ha
 rw[e1] at e2
 cases e2
 have hf:S'.Fl:=by
  have:=freeInode_fl hg h.fl (by have:=h.a.held.last; omega) h1 h2 ahead
  rw[e1] at this
  exact this
 exact⟨S',e1,⟨b1,b2,h.apart,h.dis,hf⟩,i1,i2,l1⟩
theorem bare_node (n:Int):(bare n).node.direct.length=8:=rfl
theorem two_bare (h:Bm2 g i j S F G X Y r) (hg:g.ok) (h1:1≤i) (h2:i≤g.groups*g.inodes) (hr:r<1024) (n:Int) {ahead:List Int} (ha:∀n∈ahead,1≤n∧n≤(S.deps.last:Int)) :
 S.changeC (q2z g i) 0 (q19z (bare n).node) ahead=0∧Bm2 g i j (S.change (q2z g i) 0 (q19z (bare n).node) ahead) (bare n) G X Y (r+1)∧G.img (S.change (q2z g i) 0 (q19z (bare n).node) ahead).read=G.img S.read:=by
 have hsz:(q19z (bare n).node).data.toList.length=64:=by
  rw[q104z _ (bare_node n)]
  simp only[List.length_append,q14z,q58z,zeros_length,q110z]
  rfl
 have hc:S.changeC (q2z g i) 0 (q19z (bare n).node) ahead=0:=q78z h.a.held.ok (h.a.inode_in hg h1 h2) (by unfold inside; rw[Lib.size_eq,hsz]; omega) ha (by have:=h.a.held.few; omega)
 have hrd:=q72z h.a.held.ok hc
 have hnode:(S.change (q2z g i) 0 (q19z (bare n).node) ahead).read (q2z g i)=q19z (bare n).node:=by
  rw[hrd,upd_same]
  have hz:(S.read (q2z g i)).data.toList.length=64:=q143z h.a.held.ok (h.a.inode_in hg h1 h2)
  show ofL (q5z _ 0 _)=_
  rw[whole hz hsz,q131z]
 have hb:Bm g i (S.change (q2z g i) 0 (q19z (bare n).node) ahead) (bare n) X Y (r+1):=
  ⟨h.a.held.elsewhere (by omega) hc (fun k b=>q43z hg k b),⟨rfl,hnode,fun _=>rfl,fun e=>absurd rfl e,by rw[q136z]; exact List.nodup_nil,by rw[q136z]; exact List.not_mem_nil⟩,by rw[q136z]; exact fun b hb=>absurd hb List.not_mem_nil,by rw[Side.change_disk]; exact h.a.dlen⟩
 have:=h.touch hg h1 hr (Or.inl rfl) hc hb (by rw[q136z]; exact fun b hb=>absurd hb List.not_mem_nil)
 exact⟨hc,this.1,this.2⟩
theorem two_gones (hg:g.ok) {n first:Int}:∀(l:List Int) (t:BSt) (Y:List Int) (r:Nat),Bm2 g i j t.S (bare n) G X Y r→(l.filter (fun b=>decide (b≠0))).Nodup→(∀b∈l,b≠0→b∈Y∧b∉G.all)→r+l.length<1024→(1≤first∧first≤(t.S.deps.last:Int)) →
 BSt.gonesC g first l t=0∧∃Y' r',r'≤r+l.length∧Bm2 g i j (BSt.gones g first l t).S (bare n) G X Y' r'∧(∀y∈Y',y∈Y∧(y∈l→y=0))∧G.img (BSt.gones g first l t).S.read=G.img t.S.read∧t.S.deps.last≤(BSt.gones g first l t).S.deps.last∧(BSt.gones g first l t).F=t.F
 | [],t,Y,r,h,_,_,_,_=>⟨rfl,Y,r,Nat.le_refl _,h,fun y hy=>⟨hy,fun hm=>absurd hm List.not_mem_nil⟩,rfl,Nat.le_refl _,rfl⟩
 | b :: l,t,Y,r,h,hn,hy,hr,hf=>by
   rw[List.length_cons] at hr
   by_cases h0:b≠0
   ·have e1:BSt.gones g first (b :: l) t=BSt.gones g first l (t.gone g b [first]):=if_pos h0
    have e2:BSt.gonesC g first (b :: l) t=thenC (t.goneC g b [first]) (BSt.gonesC g first l (t.gone g b [first])):=if_pos h0
    rw[List.filter_cons_of_pos (p:=fun b=>decide (b≠0)) (decide_eq_true h0),List.nodup_cons] at hn
    obtain⟨hbY,hbG⟩:=hy b (List.mem_cons_self ..) h0
    obtain⟨S',q1,q2,_,q4,q5⟩:=two_free (t:=⟨t.S,bare n,[]⟩) h hg (by omega) hbY (by rw[q136z]; exact List.not_mem_nil) hbG (ahead:=[first]) (fun m hm=>by rw[List.mem_singleton] at hm; rw[hm]; exact hf)
    have q1:t.S.freeBlock g b [first]=(S',(t.S.deps.last:Int)+1,0):=q1
    have eS:(t.gone g b [first]).S=S':=by unfold BSt.gone; rw[q1]
    have eC:t.goneC g b [first]=0:=by unfold BSt.goneC; rw[q1]
    have q5:S'.deps.last=t.S.deps.last+1:=q5
    have q4:G.img S'.read=G.img t.S.read:=q4
    obtain⟨p1,Y',r',p2,p3,p4,p5,p6,p7⟩:=two_gones hg l (t.gone g b [first]) (Y.filter (fun x=>decide (x≠b))) (r+1) (by rw[eS]; exact q2) hn.2 (fun c hc hc0=>⟨List.mem_filter.2 ⟨(hy c (List.mem_cons_of_mem _ hc) hc0).1,decide_eq_true (fun e=>hn.1 (List.mem_filter.2 ⟨e ▸ hc,decide_eq_true h0⟩))⟩,(hy c (List.mem_cons_of_mem _ hc) hc0).2⟩) (by omega) ⟨hf.1,by rw[eS,q5]; have:=hf.2; omega⟩
    rw[eS] at p5 p6
    rw[e1,e2,eC,q8z rfl]
    refine⟨p1,Y',r',by rw[List.length_cons]; omega,p3,fun y hm=>?_,p5.trans q4,by omega,p7⟩
    obtain⟨m1,m2⟩:=p4 y hm
    obtain⟨m3,m4⟩:=List.mem_filter.1 m1
    exact⟨m3,fun hm2=>(List.mem_cons.1 hm2).elim (fun e=>absurd e (of_decide_eq_true m4)) m2⟩
   ·have e1:BSt.gones g first (b :: l) t=BSt.gones g first l t:=if_neg h0
    have e2:BSt.gonesC g first (b :: l) t=BSt.gonesC g first l t:=if_neg h0
    rw[List.filter_cons_of_neg (p:=fun b=>decide (b≠0)) (by rw[decide_eq_true_eq]; exact h0)] at hn
    obtain⟨p1,Y',r',p2,p3,p4,p5,p6,p7⟩:=two_gones hg l t Y r h hn (fun c hc=>hy c (List.mem_cons_of_mem _ hc)) (by omega) hf
    rw[e1,e2]
    refine⟨p1,Y',r',by rw[List.length_cons]; omega,p3,fun y hm=>⟨(p4 y hm).1,fun hm2=>(List.mem_cons.1 hm2).elim (fun e=>e.trans (Decidable.not_not.1 h0)) (p4 y hm).2⟩,p5,p6,p7⟩
theorem two_clear (h:Bm2 g i j S F G X Y r) (hfull:Full Y F G) (hg:g.ok) (h1:1≤i) (h2:i≤g.groups*g.inodes) (hx:i∈X) (hr:r+43<1024) :
 (⟨S,F,[]⟩:BSt).clearC g i []=0∧∃Y' r',r'≤r+43∧Bm2 g i j ((⟨S,F,[]⟩:BSt).clear g i []).S (bare F.gen) G (X.filter (fun x=>decide (x≠i))) Y' r'∧Full Y' (bare F.gen) G∧G.img ((⟨S,F,[]⟩:BSt).clear g i []).S.read=G.img S.read:=by
 obtain⟨c1,b1,i1⟩:=two_bare h hg h1 h2 (by omega) F.gen (ahead:=[]) (fun _ h=>absurd h List.not_mem_nil)
 have hl:=Side.change_last c1
 have eW:((⟨S,F,[]⟩:BSt).wiped g i []).S=S.change (q2z g i) 0 (q19z (bare F.gen).node) []:=rfl
 have hperm:(F.blocks ++ [F.more]).Perm (F.more :: F.blocks):=List.perm_append_singleton ..
 have hmem:∀b∈F.blocks ++ [F.more],b≠0→b∈F.all:=fun b hb h0=>q11z.2 ⟨(List.mem_append.1 hb).elim Or.inr (fun h=>Or.inl (List.mem_singleton.1 h)),h0⟩
 obtain⟨c2,Y',r',p2,p3,p4,p5,p6,p7⟩:=two_gones hg (first:=(S.deps.last:Int)+1) (F.blocks ++ [F.more]) ((⟨S,F,[]⟩:BSt).wiped g i []) Y (r+1) b1 ((hperm.filter _).symm.nodup h.a.file.nod)
  (fun b hb h0=>⟨h.a.own b (hmem b hb h0),h.dis b (hmem b hb h0)⟩) (by rw[List.length_append,h.a.file.len,List.length_singleton]; omega) (by rw[eW,hl.1]; omega)
 rw[List.length_append,h.a.file.len,List.length_singleton] at p2
 rw[eW,hl.1] at p6
 obtain⟨S',e1,b2,_,i2,_⟩:=two_freeInode p3 hg (by omega) h1 h2 hx (ahead:=[(S.deps.last:Int)+1]) (fun m hm=>by rw[List.mem_singleton] at hm; rw[hm]; omega)
 have eC:((⟨S,F,[]⟩:BSt).clear g i []).S=S':=by
  unfold BSt.clear BSt.left
  dsimp only
  rw[e1]
 refine⟨?_,Y',r' + 1,by omega,by rw[eC]; exact b2,fun y hy=>?_,by rw[eC,i2,p5,eW,i1]⟩
 ·unfold BSt.clearC BSt.wipedC BSt.leftC
  dsimp only
  rw[c1,q8z rfl,c2,q8z rfl,e1]
 ·obtain⟨m1,m2⟩:=p4 y hy
  rcases hfull y m1 with hF | hG
  ·obtain⟨n1,n2⟩:=q11z.1 hF
   exact absurd (m2 (List.mem_append.2 (n1.elim (fun e=>Or.inr (List.mem_singleton.2 e)) Or.inl))) n2
  ·exact Or.inr hG
end
end Go.Proofs.YtgofmnhfajmbfaaGreatDoor.Sp
