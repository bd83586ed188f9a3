/-
 Layers 12,14 as plain data: what may be on the disk behind a change. No program in this text.
-/
import Derived.Test.YtaphcmcimoloiaaGreatDoorSpIdeal
import Derived.Test.YtaphcmcimoloiaaGreatDoorSpDirAsk
import Derived.Test.YtaphcmcimoloiaaGreatDoorSpReads
namespace Go.Proofs.YtaphcmcimoloiaaGreatDoor.Sp
open Go Txt
section
variable {S:Side} {P:Int→Prop} {T:Int→Int→Int→Prop} {Q Q':(Int→ByteArray)→Prop} {i off:Int} {b:ByteArray} {ahead:List Int}
theorem addC_of (hc:S.changeC i off b ahead=0):S.disk.has i∧S.deps.addC i off b ahead=0:=by
 unfold Side.changeC at hc
 split at hc
 ·exact⟨by assumption,hc⟩
 ·exact absurd hc (by decide)
theorem q162z (hc:S.changeC i off b ahead=0):(S.change i off b ahead).deps.l=S.deps.l ++ [⟨S.deps.last+1,i,off,b,ahead ++ S.deps.overs i off b,1⟩]:=by
 unfold Side.change
 rw[if_pos hc]
 show(S.deps.add i off b ahead).l=_
 unfold Deps.add
 rw[if_pos (addC_of hc).2]
theorem change_no (hc:¬S.changeC i off b ahead=0):S.change i off b ahead=S:=if_neg hc
theorem ahead_of (hc:S.changeC i off b ahead=0):∀n∈ahead,1≤n∧n≤(S.deps.last:Int):=fun n hn=>by
 have h:=(addC_of hc).2
 unfold Deps.addC at h
 split at h
 ·split at h
  ·exact absurd h (by decide)
  ·rename_i h2
   refine⟨Classical.byContradiction fun h3=>h2 ⟨n,hn,Or.inl (by omega)⟩,Classical.byContradiction fun h3=>h2 ⟨n,hn,Or.inr (by omega)⟩⟩
 ·exact absurd h (by decide)
theorem part_change (hc:S.changeC i off b ahead=0) (K:Nat→Bool):(S.change i off b ahead).part K=if K (S.deps.last+1)=true then upd (S.part K) i off.toNat b.data.toList else S.part K:=by
 have hi:=(addC_of hc).1
 have hsome:∀j s,(S.change i off b ahead).deps.some K j s=ofL (q18z s.data.toList ((S.deps.l.filter (fun c=>decide (c.at_=j) && K c.num)).map Chg.pat ++ (if i=j∧K (S.deps.last+1)=true then [(off,b)] else []))):=fun j s=>by
  unfold Deps.some
  rw[q162z hc,List.filter_append,List.map_append]
  congr 3
  by_cases hj:i=j∧K (S.deps.last+1)=true
  ·rw[if_pos hj,List.filter_cons,if_pos (by rw[decide_eq_true hj.1,hj.2]; rfl)]
   rfl
  ·rw[if_neg hj,List.filter_cons,if_neg]
   ·rfl
   ·intro h
    rw[Bool.and_eq_true,decide_eq_true_iff] at h
    exact hj h
 have hp:∀j,(S.change i off b ahead).part K j=if S.disk.has j then(S.change i off b ahead).deps.some K j (S.disk.get j) else⟨#[]⟩:=fun j=>by
  unfold Side.part
  rw[Side.change_disk]
 funext j
 rw[hp,hsome]
 by_cases hk:K (S.deps.last+1)=true
 ·rw[if_pos hk]
  by_cases hj:j=i
  ·subst hj
   rw[if_pos hi,if_pos ⟨rfl,hk⟩,upd_same,patchedL_snoc]
   unfold Side.part
   rw[if_pos hi]
   unfold Deps.some
   rw[q11z]
  ·have e:(if i=j∧K (S.deps.last+1)=true then [(off,b)] else [])=[]:=if_neg (fun h=>hj h.1.symm)
   rw[q35z _ hj,e,List.append_nil]
   rfl
 ·have e:(if i=j∧K (S.deps.last+1)=true then [(off,b)] else [])=[]:=if_neg (fun h=>hk h.2)
  rw[if_neg hk,e,List.append_nil]
  rfl
theorem Side.Ever.change (h:S.Ever P T Q) (hc:S.changeC i off b ahead=0)
 (h1:∀K,Adm P S.deps.l K→(∀c∈S.deps.l,T c.at_ c.off c.bytes.size→K c.num=true)→¬T i off b.size→Q (S.part K)→Q' (S.part K))
 (h2:∀K,Adm P S.deps.l K→(∀c∈S.deps.l,T c.at_ c.off c.bytes.size→K c.num=true)→(∀c∈S.deps.l,(c.num:Int)∈ahead∨(c.at_=i∧c.over off b)→K c.num=true)→(P i→∀c∈S.deps.l,c.at_=i→K c.num=true)→Q (S.part K)→Q' (upd (S.part K) i off.toNat b.data.toList))
 (hok:S.deps.Ok):(S.change i off b ahead).Ever P T Q':=by
 intro K hK hT
 rw[q162z hc] at hK hT
 have hl:∀{c},c∈S.deps.l→c∈S.deps.l ++ [⟨S.deps.last+1,i,off,b,ahead ++ S.deps.overs i off b,1⟩]:=fun hc=>List.mem_append_left _ hc
 have hnew:(⟨S.deps.last+1,i,off,b,ahead ++ S.deps.overs i off b,1⟩:Chg)∈S.deps.l ++ [⟨S.deps.last+1,i,off,b,ahead ++ S.deps.overs i off b,1⟩]:=List.mem_append_right _ (List.mem_singleton.2 rfl)
 have hadm:Adm P S.deps.l K:=⟨fun c hc hk c' hc' hn=>hK.closed c (hl hc) hk c' (hl hc') hn,fun c hc c' hc' hp ha hlt hk=>hK.pre c (hl hc) c' (hl hc') hp ha hlt hk⟩
 have hT':∀c∈S.deps.l,T c.at_ c.off c.bytes.size→K c.num=true:=fun c hc ht=>hT c (hl hc) ht
 have hq:=h K hadm hT'
 rw[part_change hc]
 by_cases hk:K (S.deps.last+1)=true
 ·rw[if_pos hk]
  refine h2 K hadm hT' (fun c hcm ha=>hK.closed _ hnew hk c (hl hcm) ?_) (fun hp c hcm hat=>hK.pre _ hnew c (hl hcm) hp hat (by have:=(hok.num c hcm).2; show c.num<S.deps.last+1; omega) hk) hq
  show(c.num:Int)∈ahead ++ S.deps.overs i off b
  rcases ha with ha | ha
  ·exact List.mem_append_left _ ha
  ·refine List.mem_append_right _ ?_
   unfold Deps.overs
   exact List.mem_map.2 ⟨c,List.mem_filter.2 ⟨hcm,by rw[decide_eq_true_iff]; exact ha⟩,rfl⟩
 ·rw[if_neg hk]
  exact h1 K hadm hT' (fun ht=>hk (hT _ hnew ht)) hq
theorem Side.Cl.change (h:S.Cl P) (ht:S.deps.Tied) (hc:S.changeC i off b ahead=0) (hP:P i→(off=0∧b.size=64)∨∀c∈S.deps.l,(c.num:Int)∈ahead→c.at_=i):(S.change i off b ahead).Cl P:=by
 have hok:=ht.ok
 have hlast:∀c∈S.deps.l,c.num≤S.deps.last:=fun c hc=>(hok.num c hc).2
 have hold:∀c∈S.deps.l,((S.deps.last+1:Nat):Int)∉c.ahead:=fun c hc hn=>by
  have h1:=(ht.older c hc _ hn).2
  have h2:=hlast c hc
  omega
 have hm:∀{c},c∈S.deps.l ++ [(⟨S.deps.last+1,i,off,b,ahead ++ S.deps.overs i off b,1⟩:Chg)]→c∈S.deps.l∨c=⟨S.deps.last+1,i,off,b,ahead ++ S.deps.overs i off b,1⟩:=fun h=>(List.mem_append.1 h).imp_right List.mem_singleton.1
 refine⟨fun c hcm h2 c' hcm' hn=>?_,fun c hcm c' hcm' hp ha hlt h2=>?_,fun c hcm hp=>?_⟩
 ·rw[q162z hc] at hcm hcm'
  rcases hm hcm with hcm | rfl
  ·rcases hm hcm' with hcm' | rfl
   ·exact h.going c hcm h2 c' hcm' hn
   ·exact absurd hn (hold c hcm)
  ·exact absurd h2 (show(1:Int)≠2 by decide)
 ·rw[q162z hc] at hcm hcm'
  rcases hm hcm with hcm | rfl
  ·rcases hm hcm' with hcm' | rfl
   ·exact h.pre c hcm c' hcm' hp ha hlt h2
   ·have:=hlast c hcm
    have hlt:S.deps.last+1<c.num:=hlt
    omega
  ·exact absurd h2 (show(1:Int)≠2 by decide)
 ·rw[q162z hc] at hcm ⊢
  rcases hm hcm with hcm | rfl
  ·refine(h.chain c hcm hp).imp_right (fun hh c' hcm' hn=>?_)
   rcases hm hcm' with hcm' | rfl
   ·exact hh c' hcm' hn
   ·exact absurd hn (hold c hcm)
  ·refine(hP hp).imp_right (fun hh c' hcm' hn=>?_)
   have hn:(c'.num:Int)∈ahead ++ S.deps.overs i off b:=hn
   rcases hm hcm' with hcm' | rfl
   ·rcases List.mem_append.1 hn with hn | hn
    ·exact hh c' hcm' hn
    ·unfold Deps.overs at hn
     obtain⟨c2,hc2,he⟩:=List.mem_map.1 hn
     obtain⟨h3,h4⟩:=List.mem_filter.1 hc2
     rw[decide_eq_true_iff] at h4
     have:=q176z hok h3 hcm' (by omega)
     subst this
     exact h4.1
   ·rcases List.mem_append.1 hn with hn | hn
    ·have:=(ahead_of hc _ hn).2
     have e:((S.deps.last+1:Nat):Int)≤(S.deps.last:Int):=this
     omega
    ·unfold Deps.overs at hn
     obtain⟨c2,hc2,he⟩:=List.mem_map.1 hn
     have:=hlast c2 (List.mem_filter.1 hc2).1
     have he:(c2.num:Int)=((S.deps.last+1:Nat):Int):=he
     omega
theorem all_of_last {K:Nat→Bool} {N:Int} (ht:S.deps.Tied) (hadm:Adm P S.deps.l K) {c:Chg} (hc:c∈S.deps.l) (hk:K c.num=true) (hat:c.at_=N) (hw:c.off=0∧c.bytes.size=64) (hl:∀x∈S.deps.l,x.at_=N→x.num≤c.num):∀x∈S.deps.l,x.at_=N→K x.num=true:=fun x hx hxa=>by
 by_cases e:x.num=c.num
 ·rw[e]; exact hk
 ·refine hadm.closed c hc hk x hx (pair_num ht.ok ht.knows hx hc (by have:=hl x hx hxa; omega) (hxa.trans hat.symm) ?_)
  have hf:=ht.ok.fit x hx
  unfold inside at hf
  unfold overP Chg.pat
  dsimp only
  omega
end
def IsB (g:Geom) (b:Int):Prop:=∃k p:Int,(0≤k∧k<g.groups)∧(0≤p∧p<g.blocks)∧b=q22z g k p
/-- What the disk has of the directory: some of its blocks, each a directory's sector. -/
structure DirV (g:Geom) (i:Int) (F:File) (V:Int→ByteArray) (FK:File):Prop where
 file:FileOk V (q5z g i) FK
 kind:FK.kind=F.kind
 links:FK.links=F.links
 parent:FK.parent=F.parent
 gen:FK.gen=F.gen
 more:FK.more=0
 size:∃q,q≤40∧FK.size=((64*q:Nat):Int)
 blk:∀k,FK.blocks.getD k 0=0∨FK.blocks.getD k 0=F.blocks.getD k 0
 sect:∀b∈FK.blocks,b≠0→q55z (V b)
def DirQ (g:Geom) (i:Int) (F:File) (V:Int→ByteArray):Prop:=∃FK,DirV g i F V FK
def q29z (g:Geom) (i:Int) (S:Side) (F:File):Prop:=S.Kept (IsB g) (fun _ _ _=>False) (DirQ g i F)
section
variable {g:Geom} {i:Int} {F FK:File} {V:Int→ByteArray} {S:Side} {c off:Int} {x:ByteArray} {ahead:List Int}
theorem getD_mem {l:List Int} {k:Nat} (h:l.getD k 0≠0):l.getD k 0∈l:=by
 rw[List.getD_eq_getElem?_getD] at h ⊢
 cases hk:l[k]? with
 | none=>rw[hk] at h; exact absurd rfl h
 | some y=>exact List.mem_of_getElem? hk
theorem mem_getD {l:List Int} {b:Int} (h:b∈l):∃k,k<l.length∧l.getD k 0=b:=by
 obtain⟨k,hk,rfl⟩:=List.mem_iff_getElem.1 h
 exact⟨k,hk,by rw[List.getD_eq_getElem?_getD,List.getElem?_eq_getElem hk]; rfl⟩
theorem DirV.sub (h:DirV g i F V FK) {b:Int} (hb:b∈FK.blocks) (h0:b≠0):b∈F.all:=by
 obtain⟨k,hk,e⟩:=mem_getD hb
 rcases h.blk k with hz | hz
 ·exact absurd (e.symm.trans hz) h0
 ·have he:F.blocks.getD k 0=b:=hz.symm.trans e
  have:=getD_mem (l:=F.blocks) (k:=k) (by rw[he]; exact h0)
  rw[he] at this
  exact q43z.2 ⟨Or.inr this,h0⟩
theorem DirV.all (h:DirV g i F V FK) {b:Int} (hb:b∈FK.all):b∈F.all:=by
 obtain⟨h1,h2⟩:=q43z.1 hb
 rcases h1 with h1 | h1
 ·exact absurd (h1.trans h.more) h2
 ·exact h.sub h1 h2
theorem DirV.other (h:DirV g i F V FK) (h1:c≠q5z g i) (h2:c∉F.all) (off:Nat) (x:List UInt8):DirV g i F (upd V c off x) FK:=by
 refine⟨(h.file.elsewhere h1 (fun hm=>h2 (h.all hm)) off x).1,h.kind,h.links,h.parent,h.gen,h.more,h.size,h.blk,fun b hb h0=>?_⟩
 have hne:b≠c:=fun e=>h2 (by rw[←e]; exact h.sub hb h0)
 rw[q35z _ hne]
 exact h.sect b hb h0
theorem q29z.other (h:q29z g i S F) (hf:S.Fl) (h1:c≠q5z g i) (h2:c∉F.all) (hP:IsB g c→off=0∧x.size=64):q29z g i (S.change c off x ahead) F:=by
 by_cases hc:S.changeC c off x ahead=0
 ·refine⟨h.1.change hf.tied hc (fun hp=>Or.inl (hP hp)),h.2.change hc (fun _ _ _ _ hq=>hq) (fun K _ _ _ _ hq=>?_) hf.tied.ok⟩
  obtain⟨FK,hv⟩:=hq
  exact⟨FK,hv.other h1 h2 _ _⟩
 ·rw[change_no hc]
  exact h
theorem inode_noB (hg:g.ok):¬IsB g (q5z g i):=fun⟨_,_,_,hp,e⟩=>inode_not_block hg hp e
theorem map_noB (hg:g.ok) (k:Int) (b:Bool):¬IsB g (q12z g k b):=fun⟨_,_,_,hp,e⟩=>block_not_map hg hp k b e.symm
theorem q29z.sized (h:q29z g i S F) (hf:S.Fl) (hg:g.ok) {q:Nat} (hq:q≤40):q29z g i (S.change (q5z g i) 2 (putB 2 ((64*q:Nat):Int)) ahead) { F with size:=((64*q:Nat):Int) }:=by
 have hm:∀V FK,DirV g i F V FK→DirV g i { F with size:=((64*q:Nat):Int) } V FK:=fun V FK h=>⟨h.file,h.kind,h.links,h.parent,h.gen,h.more,h.size,h.blk,h.sect⟩
 by_cases hc:S.changeC (q5z g i) 2 (putB 2 ((64*q:Nat):Int)) ahead=0
 ·refine⟨h.1.change hf.tied hc (fun hp=>absurd hp (inode_noB hg)),h.2.change hc (fun _ _ _ _ ⟨FK,hv⟩=>⟨FK,hm _ FK hv⟩) (fun K _ _ _ _ hq=>?_) hf.tied.ok⟩
  obtain⟨FK,hv⟩:=hq
  refine⟨{ FK with size:=((64*q:Nat):Int) },?_,hv.kind,hv.links,hv.parent,hv.gen,hv.more,⟨q,by omega,rfl⟩,hv.blk,fun b hb h0=>?_⟩
  ·rw[(putB2 _).1]
   exact hv.file.setSize _
  ·have hne:b≠q5z g i:=fun e=>hv.file.apart (by rw[←e]; exact q43z.2 ⟨Or.inr hb,h0⟩)
   rw[q35z _ hne]
   exact hv.sect b hb h0
 ·rw[change_no hc]
  exact⟨h.1,fun K hK hT=>by obtain⟨FK,hv⟩:=h.2 K hK hT; exact⟨FK,hm _ FK hv⟩⟩
theorem q29z.name (h:q29z g i S F) (hf:S.Fl) (hg:g.ok) {q:Nat} (hq:q<8) {N:Int} (hN:N∉F.all) (hNj:N≠q5z g i) (h0:F.blocks.getD q 0=0) (hlen:F.blocks.length=40) (hrd:q55z (S.read N)) {w:Chg} (hw:w∈S.deps.l) (hwa:(w.num:Int)∈ahead) (hwN:w.at_=N) (hwf:w.off=0∧w.bytes.size=64) (hwl:∀y∈S.deps.l,y.at_=N→y.num≤w.num)
 (hc:S.changeC (q5z g i) ((8+2*q:Nat):Int) (putB 2 N) ahead=0):q29z g i (S.change (q5z g i) ((8+2*q:Nat):Int) (putB 2 N) ahead) { F with blocks:=F.blocks.set q N }:=by
 have hget:∀(l:List Int) k,k≠q→(l.set q N).getD k 0=l.getD k 0:=fun l k hk=>by
  rw[List.getD_eq_getElem?_getD,List.getElem?_set,if_neg (Ne.symm hk),←List.getD_eq_getElem?_getD]
 refine⟨h.1.change hf.tied hc (fun hp=>absurd hp (inode_noB hg)),h.2.change hc (fun _ _ _ _ ⟨FK,hv⟩=>⟨FK,?_⟩) (fun K hK _ ha _ hq2=>?_) hf.tied.ok⟩
 ·refine⟨hv.file,hv.kind,hv.links,hv.parent,hv.gen,hv.more,hv.size,fun k=>?_,hv.sect⟩
  by_cases hk:k=q
  ·subst hk
   have:=hv.blk k
   rw[h0] at this
   exact Or.inl (this.elim id id)
  ·show _∨_=(F.blocks.set q N).getD k 0
   rw[hget _ _ hk]
   exact hv.blk k
 ·obtain⟨FK,hv⟩:=hq2
  have hNK:N∉FK.all:=fun hm=>hN (hv.all hm)
  have hseen:S.part K N=S.read N:=part_view hf.ok (all_of_last hf.tied hK hw (ha w hw (Or.inl hwa)) hwN hwf hwl)
  have hp:=hv.file.point (i:=q) (by omega) N (Or.inr ⟨hNK,hNj⟩) (fun h8=>by omega)
  rw[if_pos hq,if_pos hq] at hp
  refine⟨{ FK with blocks:=FK.blocks.set q N },?_,hv.kind,hv.links,hv.parent,hv.gen,hv.more,hv.size,fun k=>?_,fun b hb hb0=>?_⟩
  ·rw[(putB2 N).1,Int.toNat_natCast]
   exact hp
  ·show(FK.blocks.set q N).getD k 0=0∨_=(F.blocks.set q N).getD k 0
   by_cases hk:k=q
   ·subst hk
    right
    have hl:=hv.file.len
    rw[List.getD_eq_getElem?_getD,List.getD_eq_getElem?_getD,List.getElem?_set,List.getElem?_set,if_pos rfl,if_pos rfl,if_pos (by omega),if_pos (by omega)]
   ·rw[hget _ _ hk,hget _ _ hk]
    exact hv.blk k
  ·have hne:b≠q5z g i:=fun e=>hp.apart (by rw[←e]; exact q43z.2 ⟨Or.inr hb,hb0⟩)
   rw[q35z _ hne]
   rcases List.mem_or_eq_of_mem_set hb with hb | rfl
   ·exact hv.sect b hb hb0
   ·rw[hseen]
    exact hrd
theorem q29z.slot (h:q29z g i S F) (hf:S.Fl) (hB:IsB g c) (h1:c≠q5z g i) (hc:S.changeC c off x []=0) (hrd:q55z ((S.change c off x []).read c)):q29z g i (S.change c off x []) F:=by
 refine⟨h.1.change hf.tied hc (fun _=>Or.inr (fun _ _ hn=>absurd hn (by simp))),h.2.change hc (fun _ _ _ _ hq=>hq) (fun K _ _ _ hp hq=>?_) hf.tied.ok⟩
 obtain⟨FK,hv⟩:=hq
 have hseen:S.part K c=S.read c:=part_view hf.ok (hp hB)
 have hr:=q115z hf.ok hc
 have hcs:upd (S.part K) c off.toNat x.data.toList c=(S.change c off x []).read c:=by
  rw[hr,upd_same,upd_same,hseen]
 refine⟨FK,?_,hv.kind,hv.links,hv.parent,hv.gen,hv.more,hv.size,hv.blk,fun b hb hb0=>?_⟩
 ·have hf2:=hv.file
  exact⟨hf2.len,by rw[q35z _ (Ne.symm h1)]; exact hf2.node,hf2.none,fun hm=>absurd hv.more hm,hf2.nod,hf2.apart⟩
 ·by_cases e:b=c
  ·subst e
   rw[hcs]
   exact hrd
  ·rw[q35z _ e]
   exact hv.sect b hb hb0
theorem takeL_ever (hg:g.ok) (h:q29z g i S F) (hf:S.Fl) (hnm:∀k,q12z g k true∉F.all):∀ks:List Int,q29z g i (S.takeL g true ks).1 F
 | []=>h
 | k :: r=>by
   unfold Side.takeL
   split
   ·exact h
   ·split
    ·exact takeL_ever hg h hf hnm r
    ·exact h.other hf (fun e=>inode_not_map hg k true e.symm) (hnm k) (fun hp=>absurd hp (map_noB hg k true))
theorem block_ever (hg:g.ok) (h:q29z g i S F) (hf:S.Fl) (hnm:∀k,q12z g k true∉F.all) (ks:List Int):q29z g i (S.block g ks).1 F:=by
 have h1:q29z g i (S.take g true ks).1 F:=by
  unfold Side.take
  split
  ·exact takeL_ever hg h hf hnm ks
  ·exact h
 unfold Side.block
 split <;> exact h1
end
section
variable {g:Geom} {i:Int} {X Y:List Int} {r q:Nat} {S:Side} {F:File}
theorem Dir.put_ever (h:Dir g i S F X Y r q) (hg:g.ok) (hr:r<1024) (hf:S.Fl) (he:q29z g i S F) {p:Ent} (hp:p∈ents S.read F) {x:Entry} (hx:x.may) (hn:∀e∈ents S.read F,¬(e.sec=p.sec∧e.slot=p.slot)→e.name=x.name→x.name.size=0) :
 (S.change p.sec ((p.slot:Int)*16) (ofL (slotL x)) []).Fl∧q29z g i (S.change p.sec ((p.slot:Int)*16) (ofL (slotL x)) []) F:=by
 obtain⟨hc,hd,-⟩:=h.put hg hr hp hx hn (ahead:=[]) (by simp)
 obtain⟨b,hb,k,hk,rfl⟩:=h.mem.1 hp
 have hbY:=h.own hb
 have hbB:IsB g b:=h.bm.held.blk hbY
 have hbj:b≠q5z g i:=fun e=>h.bm.file.apart (e ▸ q43z.2 ⟨Or.inr (List.mem_of_mem_take hb),h.all hb⟩)
 refine⟨hf.change (by have:=h.bm.held.last; omega) (h.bm.allNotOne hg hbY),he.slot hf hbB hbj hc ?_⟩
 exact hd.sect b hb
theorem grow_ever (h:Dir g i S F X Y r q) (hg:g.ok) (h1:1≤i) (h2:i≤g.groups*g.inodes) (hr:r+5<1024) {ks:List Int} (hk:∀k∈ks,0≤k∧k<g.groups) (hd:ks.Nodup) (hroom:Y.length<ks.length*g.blocks.toNat) (hq:q<8) (hf:S.Fl) (he:q29z g i S F) :
 ((⟨S,F,[]⟩:BSt).write g i ks 1 (64*q) blank.data.toList).S.Fl∧q29z g i ((⟨S,F,[]⟩:BSt).write g i ks 1 (64*q) blank.data.toList).S ((⟨S,F,[]⟩:BSt).write g i ks 1 (64*q) blank.data.toList).F:=by
 have hlast:=h.bm.held.last
 have hsz:S.deps.last<1000000000:=by omega
 have h0:F.blocks.getD q 0=0:=Classical.byContradiction fun hn=>by
  have:=(h.full q (by omega)).1 hn
  omega
 have hnm:∀k,q12z g k true∉F.all:=fun k=>(h.bm.not_map hg k true).2
 obtain⟨t,ht⟩:∃t:BSt,(⟨S,F,[]⟩:BSt)=t:=⟨_,rfl⟩
 have hS:t.S=S:=by rw[←ht]
 have hF:t.F=F:=by rw[←ht]
 have e1:t.write g i ks 1 (64*q) blank.data.toList=((t.fresh g ks (allB 0 blank)).name g i q (t.newN g ks) (t.newA g ks (allB 0 blank))).sized g i ((64*q+blank.data.toList.length:Nat):Int) ((t.fresh g ks (allB 0 blank)).name g i q (t.newN g ks) (t.newA g ks (allB 0 blank))).made:=by
  have hls:t.listed g i ks q=t:=if_neg (fun hh=>by omega)
  have hput:t.put g i ks q 0 blank=(t.fresh g ks (allB 0 blank)).name g i q (t.newN g ks) (t.newA g ks (allB 0 blank)):=by
   unfold BSt.put
   rw[if_neg (fun hh=>hh (by rw[hF]; exact h0)),hls]
   rfl
  unfold BSt.write
  rw[(puts_one g i ks t q).1,if_pos (by rw[hF,h.size,q81z]; omega),hput]
 rw[ht,e1]
 have hall:allB 0 blank=blank:=by decide +kernel
 rw[hall]
 have hb:Bm g i t.S t.F X Y r:=by rw[hS,hF]; exact h.bm
 rcases hb.block hg (by omega) hk with ⟨N,S1,eb,n1,hNB,b1,i1,l1⟩ | ⟨_,hno⟩
 ·have hfl1:S1.Fl:=by
   have:=block_fl hg (S:=t.S) (by rw[hS]; exact hf) (by rw[hS]; exact hsz) (ks:=ks) (fun k hk'=>(hk k hk').1)
   rw[eb] at this
   exact this
  have hev1:q29z g i S1 F:=by
   have:=block_ever hg (S:=t.S) (F:=F) (by rw[hS]; exact he) (by rw[hS]; exact hf) hnm ks
   rw[eb] at this
   exact this
  have hNF:N∉F.all:=fun hm=>n1 (hb.own N (by rw[hF]; exact hm))
  have hNj:N≠q5z g i:=by
   obtain⟨k,p,_,hp,e⟩:=hNB
   exact fun e2=>inode_not_block hg hp (e2.symm.trans e)
  have hN1:N≠1:=b1.allNotOne hg (List.mem_append_right _ (List.mem_singleton.2 rfl))
  have hN0:N≠0:=by
   obtain⟨k,p,hkk,hpp,hN⟩:=hNB
   have hbk:=q93z hg hkk hpp
   have hf0:=Geom.first_bd hg (k:=0) (by omega) (by omega)
   have hlg:=Geom.long_bd hg
   have hkl:0≤k*g.long:=Int.mul_nonneg hkk.1 (by omega)
   have hi:=hg.2.2.1
   rw[hN]
   unfold q22z
   have hfk:g.first k=g.first 0+k*g.long:=by unfold Geom.first; omega
   omega
  have hfi:=b1.fill hg (by omega) (N:=N) (List.mem_append_right _ (List.mem_singleton.2 rfl)) (by rw[hF]; exact hNF) blank_size (ahead:=[(t.S.deps.last:Int)+1]) (fun n hn=>by rw[List.mem_singleton] at hn; omega)
  obtain⟨S2,hS2⟩:∃S2,S1.change N 0 blank [(t.S.deps.last:Int)+1]=S2:=⟨_,rfl⟩
  have hadd:=q162z hfi.1
  have hl2:=Side.change_last hfi.1
  rw[hS2] at hfi hadd hl2
  have hfl2:S2.Fl:=by
   have:=hfl1.change (i:=N) (off:=0) (b:=blank) (ahead:=[(t.S.deps.last:Int)+1]) (by rw[l1,hS]; omega) hN1
   rw[hS2] at this
   exact this
  have hev2:q29z g i S2 F:=by
   have:=hev1.other (c:=N) (off:=0) (x:=blank) (ahead:=[(t.S.deps.last:Int)+1]) hfl1 hNj hNF (fun _=>⟨rfl,blank_size⟩)
   rw[hS2] at this
   exact this
  have eS:(t.fresh g ks blank).S=S2:=by unfold BSt.fresh BSt.chg BSt.newN BSt.took; dsimp only; rw[eb,←hS2]
  have eN:t.newN g ks=N:=by unfold BSt.newN; rw[eb]
  have eA:t.newA g ks blank=[(t.S.deps.last:Int)+1,(S1.deps.last:Int)+1]:=by
   unfold BSt.newA BSt.newN BSt.took
   dsimp only
   rw[eb]
   dsimp only
   rw[hl2.2]
  have hwm:(⟨S1.deps.last+1,N,0,blank,[(t.S.deps.last:Int)+1] ++ S1.deps.overs N 0 blank,1⟩:Chg)∈S2.deps.l:=by
   rw[hadd]
   exact List.mem_append_right _ (List.mem_singleton.2 rfl)
  have hcn:S2.changeC (q5z g i) ((8+2*q:Nat):Int) (putB 2 N) [(t.S.deps.last:Int)+1,(S1.deps.last:Int)+1]=0:=
   q128z hfl2.ok (hfi.2.1.inode_in hg h1 h2) (by unfold inside; rw[(putB2 N).2]; omega) (fun n hn=>by
    simp only[List.mem_cons,List.not_mem_nil,or_false] at hn
    rw[hl2.1]
    rcases hn with rfl | rfl
    ·rw[l1]; omega
    ·omega) (by have:=hfi.2.1.held.few; omega)
  have hn3:=hev2.name hfl2 hg hq hNF hNj h0 h.bm.file.len (by rw[hfi.2.2.2]; exact blank_dir) hwm (ahead:=[(t.S.deps.last:Int)+1,(S1.deps.last:Int)+1]) (by simp) rfl ⟨rfl,blank_size⟩ (fun y hy _=>by
   rw[hadd] at hy
   rcases List.mem_append.1 hy with hy | hy
   ·have:=(hfl1.tied.ok.num y hy).2
    show y.num≤S1.deps.last+1
    omega
   ·rw[List.mem_singleton.1 hy]
    exact Nat.le_refl _) hcn
  have hfl3:=hfl2.change (i:=q5z g i) (off:=((8+2*q:Nat):Int)) (b:=putB 2 N) (ahead:=[(t.S.deps.last:Int)+1,(S1.deps.last:Int)+1]) (by rw[hl2.1,l1,hS]; omega) (inode_notOne hg h1)
  have hlast3:=Side.change_last hcn
  have eNm:(t.fresh g ks blank).name g i q (t.newN g ks) (t.newA g ks blank)=⟨S2.change (q5z g i) ((8+2*q:Nat):Int) (putB 2 N) [(t.S.deps.last:Int)+1,(S1.deps.last:Int)+1],{ F with blocks:=F.blocks.set q N },((t.fresh g ks blank).name g i q (t.newN g ks) (t.newA g ks blank)).made⟩:=by
   rw[eN,eA]
   unfold BSt.name BSt.chg
   dsimp only
   rw[eS]
   have ep:q25z g i (t.fresh g ks blank).F q=q5z g i:=if_pos hq
   have eo:q27z q=8+2*q:=if_pos hq
   have eF:(t.fresh g ks blank).F=F:=hF
   rw[ep,eo,eF]
  rw[eNm]
  show(S2.change _ _ _ _ |>.change (q5z g i) 2 _ _).Fl∧q29z g i (S2.change _ _ _ _ |>.change (q5z g i) 2 _ _) _
  rw[q81z,show 64*q+64=64*(q+1) by omega]
  refine⟨hfl3.change (by rw[hlast3.1,hl2.1,l1,hS]; omega) (inode_notOne hg h1),hn3.sized hfl3 hg (q:=q+1) (by omega)⟩
 ·obtain⟨k,hkk,p,hp,hx⟩:=nums_room hb.held.tb (q102z hg) hk hd hroom
  exact absurd (hno k hkk p hp) hx
end
theorem root_ever {g:Geom} (hg:g.ok):q29z g 1 (q9z g 0 0) rootF:=by
 have hd:=q152z (g:=g) (node:=0) (epoch:=0) hg
 refine⟨⟨fun c hc=>absurd hc (by simp[q9z]),fun c hc=>absurd hc (by simp[q9z]),fun c hc=>absurd hc (by simp[q9z])⟩,fun K _ _=>⟨rootF,?_⟩⟩
 have e:(q9z g 0 0).part K=(q9z g 0 0).read:=funext fun j=>part_view hd.bm.held.ok (fun c hc=>absurd hc (by simp[q9z]))
 rw[e]
 refine⟨hd.bm.file,rfl,rfl,rfl,rfl,rfl,⟨0,by omega,rfl⟩,fun k=>Or.inr rfl,fun b hb h0=>?_⟩
 have:b∈rootF.all:=q43z.2 ⟨Or.inr hb,h0⟩
 rw[root_all] at this
 exact absurd this (by simp)
end Go.Proofs.YtaphcmcimoloiaaGreatDoor.Sp
