/-
 Layers 12,14 as plain data: what of a side's changes may be on the disk: any of them,closed under what goes ahead; in some sectors the first ones only. No program in this text.
-/
import Derived.Test.YtaphcmcimoloiaaGreatDoorSpJ
namespace Go.Proofs.YtaphcmcimoloiaaGreatDoor.Sp
open Go Txt
def Deps.some (d:Deps) (K:Nat→Bool) (j:Int) (s:ByteArray):ByteArray:=ofL (q18z s.data.toList ((d.l.filter (fun c=>decide (c.at_=j) && K c.num)).map Chg.pat))
def Side.part (S:Side) (K:Nat→Bool) (j:Int):ByteArray:=if S.disk.has j then S.deps.some K j (S.disk.get j) else⟨#[]⟩
/-- K may be on the disk. -/
structure Adm (P:Int→Prop) (l:List Chg) (K:Nat→Bool):Prop where
 closed:∀c∈l,K c.num=true→∀c'∈l,(c'.num:Int)∈c.ahead→K c'.num=true
 pre:∀c∈l,∀c'∈l,P c.at_→c'.at_=c.at_→c'.num<c.num→K c.num=true→K c'.num=true
/-- What is under way is closed so; in the sectors P the changes hang on one another alone, but for those that are whole. -/
structure Side.Cl (P:Int→Prop) (S:Side):Prop where
 going:∀c∈S.deps.l,c.state=2→∀c'∈S.deps.l,(c'.num:Int)∈c.ahead→c'.state=2∧c'.at_=c.at_
 pre:∀c∈S.deps.l,∀c'∈S.deps.l,P c.at_→c'.at_=c.at_→c'.num<c.num→c.state=2→c'.state=2
 chain:∀c∈S.deps.l,P c.at_→(c.off=0∧c.bytes.size=64)∨∀c'∈S.deps.l,(c'.num:Int)∈c.ahead→c'.at_=c.at_
def Side.Ever (P:Int→Prop) (T:Int→Int→Int→Prop) (Q:(Int→ByteArray)→Prop) (S:Side):Prop:=
 ∀K,Adm P S.deps.l K→(∀c∈S.deps.l,T c.at_ c.off c.bytes.size→K c.num=true)→Q (S.part K)
section
variable {S S':Side} {P:Int→Prop} {T:Int→Int→Int→Prop} {Q:(Int→ByteArray)→Prop} {d:Deps} {i n:Int} {K:Nat→Bool}
theorem pair_num (hok:d.Ok) {R:Chg→Chg→Prop} (h:d.l.Pairwise R) {a b:Chg} (ha:a∈d.l) (hb:b∈d.l) (hlt:a.num<b.num):R a b:=by
 obtain⟨p,hp,rfl⟩:=List.getElem_of_mem ha
 obtain⟨q,hq,rfl⟩:=List.getElem_of_mem hb
 have hr:=List.pairwise_iff_getElem.1 hok.rise
 rcases Nat.lt_trichotomy p q with h1 | rfl | h1
 ·exact List.pairwise_iff_getElem.1 h p q hp hq h1
 ·omega
 ·have:=hr q p hq hp h1; omega
theorem get_ok (h:S.Ok) (hi:S.disk.has i):(S.disk.get i).size=64:=by
 refine h.sect _ ?_
 unfold Disk.get
 have hlt:i.toNat<S.disk.l.length:=by unfold Disk.has at hi; omega
 rw[List.getD_eq_getElem?_getD,List.getElem?_eq_getElem hlt]
 exact List.getElem_mem hlt
theorem part_view (h:S.Ok) {j:Int} (hk:∀c∈S.deps.l,c.at_=j→K c.num=true):S.part K j=S.read j:=by
 unfold Side.part Side.read
 by_cases hj:S.disk.has j
 ·rw[if_pos hj,if_pos hj]
  unfold Deps.some Deps.view Deps.patches Deps.of
  rw[if_pos (get_ok h hj)]
  have e:S.deps.l.filter (fun c=>decide (c.at_=j) && K c.num)=S.deps.l.filter (fun c=>decide (c.at_=j)):=List.filter_congr (fun c hc=>by
   by_cases hcj:c.at_=j
   ·rw[hk c hc hcj,Bool.and_true]
   ·rw[decide_eq_false hcj,Bool.false_and])
  rw[e]
  rfl
 ·rw[if_neg hj,if_neg hj]
theorem part_none (S:Side):S.part (fun _=>false)=S.disk.read:=by
 funext j
 unfold Side.part Disk.read
 by_cases hj:S.disk.has j
 ·rw[if_pos hj,if_pos hj]
  unfold Deps.some
  rw[List.filter_eq_nil_iff.2 (fun c _=>by simp)]
  exact q108z _
 ·rw[if_neg hj,if_neg hj]
theorem adm_none (P:Int→Prop) (l:List Chg):Adm P l (fun _=>false):=⟨fun _ _ h=>absurd h (by decide),fun _ _ _ _ _ _ _ h=>absurd h (by decide)⟩
theorem Side.Ever.now (h:S.Ever P (fun _ _ _=>False) Q):Q S.disk.read:=by
 have:=h _ (adm_none P S.deps.l) (fun _ _ hf=>hf.elim)
 rw[part_none] at this
 exact this
theorem Side.Ever.map {f:Chg→Chg} (hl:S'.deps.l=S.deps.l.map f) (hd:S'.disk.l=S.disk.l) (hf:∀c,(f c).num=c.num∧(f c).at_=c.at_∧(f c).off=c.off∧(f c).bytes=c.bytes∧(f c).ahead=c.ahead) (h:S.Ever P T Q):S'.Ever P T Q:=by
 intro K hK hT
 rw[hl] at hK hT
 have e:S'.part K=S.part K:=by
  funext j
  have hg:S'.disk.get j=S.disk.get j:=by unfold Disk.get; rw[hd]
  have hh:S'.disk.has j↔S.disk.has j:=by unfold Disk.has; rw[hd]
  have hs:S'.deps.some K j (S.disk.get j)=S.deps.some K j (S.disk.get j):=by
   unfold Deps.some
   rw[hl,List.filter_map,List.map_map]
   have e1:((fun c:Chg=>decide (c.at_=j) && K c.num) ∘ f)=(fun c:Chg=>decide (c.at_=j) && K c.num):=funext fun c=>by
    show(decide ((f c).at_=j) && K (f c).num)=_
    rw[(hf c).1,(hf c).2.1]
   have e2:(Chg.pat ∘ f)=Chg.pat:=funext fun c=>by
    show((f c).off,(f c).bytes)=(c.off,c.bytes)
    rw[(hf c).2.2.1,(hf c).2.2.2.1]
   rw[e1,e2]
  unfold Side.part
  by_cases hj:S.disk.has j
  ·rw[if_pos hj,if_pos (hh.2 hj),hg,hs]
  ·rw[if_neg hj,if_neg (fun hx=>hj (hh.1 hx))]
 rw[e]
 refine h K ⟨fun c hc hk c' hc' hn=>?_,fun c hc c' hc' hp ha hlt hk=>?_⟩ (fun c hc ht=>?_)
 ·have:=hK.closed (f c) (List.mem_map_of_mem hc) (by rw[(hf c).1]; exact hk) (f c') (List.mem_map_of_mem hc') (by rw[(hf c').1,(hf c).2.2.2.2]; exact hn)
  rw[(hf c').1] at this
  exact this
 ·have:=hK.pre (f c) (List.mem_map_of_mem hc) (f c') (List.mem_map_of_mem hc') (by rw[(hf c).2.1]; exact hp) (by rw[(hf c).2.1,(hf c').2.1]; exact ha) (by rw[(hf c).1,(hf c').1]; exact hlt) (by rw[(hf c).1]; exact hk)
  rw[(hf c').1] at this
  exact this
 ·have:=hT (f c) (List.mem_map_of_mem hc) (by rw[(hf c).2.1,(hf c).2.2.1,(hf c).2.2.2.1]; exact ht)
  rw[(hf c).1] at this
  exact this
theorem st_fields {f:Chg→Chg} (hf:∀c,f c=c∨∃s,f c=setSt c s) (c:Chg):(f c).num=c.num∧(f c).at_=c.at_∧(f c).off=c.off∧(f c).bytes=c.bytes∧(f c).ahead=c.ahead:=by
 rcases hf c with e | ⟨s,e⟩ <;> rw[e] <;> exact⟨rfl,rfl,rfl,rfl,rfl⟩
theorem send_fields (c:Chg):(if d.isR i c then setSt c 2 else c)=c∨∃s,(if d.isR i c then setSt c 2 else c)=setSt c s:=by
 split
 ·exact Or.inr ⟨2,rfl⟩
 ·exact Or.inl rfl
theorem lost_fields (c:Chg):(if c.isU i then setSt c 1 else c)=c∨∃s,(if c.isU i then setSt c 1 else c)=setSt c s:=by
 split
 ·exact Or.inr ⟨1,rfl⟩
 ·exact Or.inl rfl
theorem Side.Ever.write (h:S.Ever P T Q) (i:Int):(S.write i).Ever P T Q:=
 Side.Ever.map (S':=S.write i) (f:=fun c=>if S.deps.isR i c then setSt c 2 else c) rfl rfl (st_fields send_fields) h
theorem Side.Ever.strayed (h:S.Ever P T Q) (n i:Int):(S.strayed n i).Ever P T Q:=
 Side.Ever.map (S':=S.strayed n i) (f:=fun c=>if c.isU i then setSt c 1 else c) rfl rfl (st_fields lost_fields) h
theorem Side.Ever.landed (hcl:S.Cl P) (hfl:S.Fl) (hi:S.disk.has i) (h:S.Ever P T Q) (n:Int):(S.landed n i).Ever P T Q:=by
 intro K hK hT
 have hok:=hfl.tied.ok
 obtain⟨K2,hK2⟩:∃K2:Nat→Bool,∀m,K2 m=(K m||S.deps.l.any (fun c=>decide (c.num=m) && c.isU i)):=⟨_,fun _=>rfl⟩
 have hU:∀c∈S.deps.l,c.isU i=true→K2 c.num=true:=fun c hc hu=>by
  rw[hK2,List.any_eq_true.2 ⟨c,hc,by rw[decide_eq_true rfl,hu]; rfl⟩,Bool.or_true]
 have hN:∀c∈S.deps.l,c.isU i=false→K2 c.num=K c.num:=fun c hc hu=>by
  rw[hK2]
  have:S.deps.l.any (fun b=>decide (b.num=c.num) && b.isU i)=false:=by
   rw[List.any_eq_false]
   intro b hb he
   rw[Bool.and_eq_true,decide_eq_true_iff] at he
   have:=q176z hok hb hc he.1
   subst this
   rw[hu] at he
   exact absurd he.2 (by decide)
  rw[this,Bool.or_false]
 have hmem:∀c∈S.deps.l,c.isU i=false→c∈(S.landed n i).deps.l:=fun c hc hu=>List.mem_filter.2 ⟨hc,by rw[hu]; rfl⟩
 have hst:∀c:Chg,c.isU i=true↔c.at_=i∧c.state=2:=fun c=>by unfold Chg.isU; rw[decide_eq_true_iff]
 have hadm:Adm P S.deps.l K2:=by
  refine⟨fun c hc hk c' hc' hn=>?_,fun c hc c' hc' hp ha hlt hk=>?_⟩
  ·cases hu':c'.isU i with
   | true=>exact hU c' hc' hu'
   | false=>
     cases hu:c.isU i with
     | true=>
       have h1:=(hst c).1 hu
       have h2:=hcl.going c hc h1.2 c' hc' hn
       rw[(hst c').2 ⟨h2.2.trans h1.1,h2.1⟩] at hu'
       exact absurd hu' (by decide)
     | false=>
       rw[hN c hc hu] at hk
       rw[hN c' hc' hu']
       exact hK.closed c (hmem c hc hu) hk c' (hmem c' hc' hu') hn
  ·cases hu':c'.isU i with
   | true=>exact hU c' hc' hu'
   | false=>
     cases hu:c.isU i with
     | true=>
       have h1:=(hst c).1 hu
       have h2:=hcl.pre c hc c' hc' hp ha hlt h1.2
       rw[(hst c').2 ⟨ha.trans h1.1,h2⟩] at hu'
       exact absurd hu' (by decide)
     | false=>
       rw[hN c hc hu] at hk
       rw[hN c' hc' hu']
       exact hK.pre c (hmem c hc hu) c' (hmem c' hc' hu') hp ha hlt hk
 have e:S.part K2=(S.landed n i).part K:=by
  funext j
  have hhas:(S.landed n i).disk.has j↔S.disk.has j:=by
   unfold Disk.has Side.landed
   dsimp only
   rw[List.length_set]
  unfold Side.part
  by_cases hj:S.disk.has j
  ·rw[if_pos hj,if_pos (hhas.2 hj)]
   have hzj:=q130z hfl hj
   have hg:(S.landed n i).disk.get j=if j=i then S.deps.sent i (S.disk.get j) else S.disk.get j:=by
    unfold Disk.get Side.landed
    dsimp only
    rw[List.getD_eq_getElem?_getD,List.getElem?_set]
    unfold Disk.has at hi hj
    by_cases e:j=i
    ·subst e
     rw[if_pos rfl,if_pos rfl,if_pos (by omega)]
     rfl
    ·rw[if_neg (by omega),if_neg e,←List.getD_eq_getElem?_getD]
   rw[hg]
   show _=(S.deps.done i).some K j _
   by_cases hji:j=i
   ·subst hji
    rw[if_pos rfl]
    unfold Deps.some
    have h1:=patchedL_split Chg.pat (fun c=>c.isU j) (S.deps.l.filter (fun c=>decide (c.at_=j) && K2 c.num)) (S.disk.get j).data.toList hzj (fun c hc=>hok.fit c (List.mem_filter.1 hc).1) (by
     have hp:(S.deps.l.filter (fun c=>decide (c.at_=j) && K2 c.num)).Pairwise (fun a b=>a.at_=b.at_→overP a.pat b.pat→b.state=2→a.state=2):=hfl.tied.sent.sublist List.filter_sublist
     rw[List.pairwise_iff_getElem] at hp ⊢
     intro p q hpp hqq hpq h1 h2
     have ha:=List.mem_filter.1 (List.getElem_mem hpp)
     have hb:=List.mem_filter.1 (List.getElem_mem hqq)
     have e1:=of_decide_eq_true (Bool.and_eq_true _ _ ▸ ha.2).1
     have e2:=of_decide_eq_true (Bool.and_eq_true _ _ ▸ hb.2).1
     exact(hst _).2 ⟨e1,hp p q hpp hqq hpq (e1.trans e2.symm) h2 ((hst _).1 h1).2⟩)
    have e1:(S.deps.l.filter (fun c=>decide (c.at_=j) && K2 c.num)).filter (fun c=>c.isU j)=S.deps.l.filter (fun c=>c.isU j):=by
     rw[List.filter_filter]
     refine List.filter_congr (fun c hc=>?_)
     cases hu:c.isU j with
     | true=>rw[hU c hc hu,decide_eq_true ((hst c).1 hu).1]; rfl
     | false=>rfl
    have e2:(S.deps.l.filter (fun c=>decide (c.at_=j) && K2 c.num)).filter (fun c=>!c.isU j)=(S.deps.done j).l.filter (fun c=>decide (c.at_=j) && K c.num):=by
     unfold Deps.done
     dsimp only
     rw[List.filter_filter,List.filter_filter]
     refine List.filter_congr (fun c hc=>?_)
     cases hu:c.isU j with
     | true=>simp
     | false=>rw[hN c hc hu,Bool.and_comm]
    rw[e1,e2] at h1
    unfold Deps.sent
    rw[q11z]
    exact congrArg ofL h1
   ·rw[if_neg hji]
    unfold Deps.some Deps.done
    dsimp only
    rw[List.filter_filter]
    have e3:S.deps.l.filter (fun c=>decide (c.at_=j) && K2 c.num)=S.deps.l.filter (fun c=>(decide (c.at_=j) && K c.num) && !c.isU i):=List.filter_congr (fun c hc=>by
     cases hu:c.isU i with
     | true=>
       have:¬c.at_=j:=fun e=>hji (e.symm.trans ((hst c).1 hu).1)
       rw[decide_eq_false this]
       rfl
     | false=>rw[hN c hc hu]; simp)
    rw[e3]
  ·rw[if_neg hj,if_neg (fun hh=>hj (hhas.1 hh))]
 rw[←e]
 refine h K2 hadm (fun c hc ht=>?_)
 cases hu:c.isU i with
 | true=>exact hU c hc hu
 | false=>
   rw[hN c hc hu]
   exact hT c (hmem c hc hu) ht
theorem ready_first (hcl:S.Cl P) (ht:S.deps.Tied) (hn:¬S.deps.under i) (hp:P i) {c:Chg} (hc:c∈S.deps.l) (hr:S.deps.isR i c=true):∀(m:Nat) (c':Chg),c'.num=m→c'∈S.deps.l→c'.at_=i→c'.num<c.num→S.deps.isR i c' = true:=by
 have hok:=ht.ok
 intro m
 induction m using Nat.strongRecOn with
 | _ m ih=>
   intro c' hm hc' hat hlt
   have hci:=(q73z hok hc).1 hr
   have hs1:c'.state=1:=(hok.st c' hc').resolve_right (fun h2=>hn ⟨c',hc',hat,h2⟩)
   rcases hcl.chain c' hc' (by rw[hat]; exact hp) with ⟨h0,h64⟩ | hch
   ·refine ready_closed hok hc' hc hr (pair_num hok ht.knows hc' hc hlt (hat.trans hci.1.symm) ?_)
    have hf:=hok.fit c hc
    unfold inside at hf
    unfold overP Chg.pat
    dsimp only
    omega
   ·rw[q73z hok hc']
    refine⟨hat,hs1,?_⟩
    obtain⟨l1,l2,hl⟩:=List.append_of_mem hc'
    have hrise:=hok.rise
    unfold Deps.ready
    rw[hl,List.foldl_append,List.foldl_cons]
    refine ready_mono l2 _ _ (q66z.2 (Or.inr ⟨rfl,hat,hs1,fun k hk=>?_⟩))
    by_cases hz:∃b∈S.deps.l,(b.num:Int)=k
    ·right
     obtain⟨b,hb,rfl⟩:=hz
     have hbn:=(ht.older c' hc' _ hk).2
     have hbr:S.deps.isR i b=true:=ih b.num (by omega) b rfl hb ((hch b hb hk).trans hat) (by omega)
     have hbm:=((q73z hok hb).1 hbr).2.2
     unfold Deps.ready at hbm
     rw[hl,List.foldl_append] at hbm
     rcases Sp.ready_of (d:=S.deps) (i:=i) _ _ _ hbm with h1 | ⟨x,hx,he,_⟩
     ·exact h1
     ·rw[hl,List.pairwise_append,List.pairwise_cons] at hrise
      rcases List.mem_cons.1 hx with rfl | hx
      ·omega
      ·have:=hrise.2.1.1 x hx
       omega
    ·exact Or.inl (stateOf_none (fun b hb e=>hz ⟨b,hb,e⟩))
theorem Side.Cl.write (h:S.Cl P) (hf:S.Fl) (hn:¬S.deps.under i):(S.write i).Cl P:=by
 have hok:=hf.tied.ok
 have hfd:=fun c=>st_fields (f:=fun c=>if S.deps.isR i c then setSt c 2 else c) send_fields c
 have hs2:∀c:Chg,S.deps.isR i c=true∨c.state=2→(if S.deps.isR i c then setSt c 2 else c).state=2:=fun c hc=>by
  split
  ·rfl
  ·rename_i hnr
   exact hc.resolve_left hnr
 have hs3:∀c:Chg,(if S.deps.isR i c then setSt c 2 else c).state=2→S.deps.isR i c=true∨c.state=2:=fun c hc=>by
  split at hc
  ·rename_i hr
   exact Or.inl hr
  ·exact Or.inr hc
 refine⟨fun x hx hx2 y hy hxy=>?_,fun x hx y hy hp ha hlt hx2=>?_,fun x hx hp=>?_⟩
 ·obtain⟨c,hc,rfl⟩:=List.mem_map.1 hx
  obtain⟨c',hc',rfl⟩:=List.mem_map.1 hy
  have hxy:((if S.deps.isR i c' then setSt c' 2 else c').num:Int)∈(if S.deps.isR i c then setSt c 2 else c).ahead:=hxy
  rw[(hfd c').1,(hfd c).2.2.2.2] at hxy
  refine⟨hs2 c' ?_,?_⟩
  ·rcases hs3 c hx2 with hr | h2
   ·exact Or.inl (ready_closed hok hc' hc hr hxy)
   ·exact Or.inr (h.going c hc h2 c' hc' hxy).1
  ·show(if S.deps.isR i c' then setSt c' 2 else c').at_=(if S.deps.isR i c then setSt c 2 else c).at_
   rw[(hfd c').2.1,(hfd c).2.1]
   rcases hs3 c hx2 with hr | h2
   ·exact((q73z hok hc').1 (ready_closed hok hc' hc hr hxy)).1.trans ((q73z hok hc).1 hr).1.symm
   ·exact(h.going c hc h2 c' hc' hxy).2
 ·obtain⟨c,hc,rfl⟩:=List.mem_map.1 hx
  obtain⟨c',hc',rfl⟩:=List.mem_map.1 hy
  have ha:(if S.deps.isR i c' then setSt c' 2 else c').at_=(if S.deps.isR i c then setSt c 2 else c).at_:=ha
  have hlt:(if S.deps.isR i c' then setSt c' 2 else c').num<(if S.deps.isR i c then setSt c 2 else c).num:=hlt
  have hp:P (if S.deps.isR i c then setSt c 2 else c).at_:=hp
  rw[(hfd c').2.1,(hfd c).2.1] at ha
  rw[(hfd c').1,(hfd c).1] at hlt
  rw[(hfd c).2.1] at hp
  refine hs2 c' ?_
  rcases hs3 c hx2 with hr | h2
  ·have hci:=((q73z hok hc).1 hr).1
   rw[hci] at hp
   exact Or.inl (ready_first h hf.tied hn hp hc hr _ c' rfl hc' (ha.trans hci) hlt)
  ·exact Or.inr (h.pre c hc c' hc' hp ha hlt h2)
 ·obtain⟨c,hc,rfl⟩:=List.mem_map.1 hx
  have hp:P (if S.deps.isR i c then setSt c 2 else c).at_:=hp
  rw[(hfd c).2.1] at hp
  show((if S.deps.isR i c then setSt c 2 else c).off=0∧(if S.deps.isR i c then setSt c 2 else c).bytes.size=64)∨_
  rw[(hfd c).2.2.1,(hfd c).2.2.2.1]
  refine(h.chain c hc hp).imp_right (fun hh y hy hxy=>?_)
  obtain⟨c',hc',rfl⟩:=List.mem_map.1 hy
  have hxy:((if S.deps.isR i c' then setSt c' 2 else c').num:Int)∈(if S.deps.isR i c then setSt c 2 else c).ahead:=hxy
  rw[(hfd c').1,(hfd c).2.2.2.2] at hxy
  show(if S.deps.isR i c' then setSt c' 2 else c').at_=(if S.deps.isR i c then setSt c 2 else c).at_
  rw[(hfd c').2.1,(hfd c).2.1]
  exact hh c' hc' hxy
theorem Side.Cl.landed (h:S.Cl P) (n i:Int):(S.landed n i).Cl P:=by
 have hm:∀c∈(S.landed n i).deps.l,c∈S.deps.l:=fun c hc=>(List.mem_filter.1 hc).1
 exact⟨fun c hc h2 c' hc' ha=>h.going c (hm c hc) h2 c' (hm c' hc') ha,fun c hc c' hc' hp ha hlt h2=>h.pre c (hm c hc) c' (hm c' hc') hp ha hlt h2,fun c hc hp=>(h.chain c (hm c hc) hp).imp_right (fun hh c' hc' ha=>hh c' (hm c' hc') ha)⟩
theorem Side.Cl.strayed (h:S.Cl P) (n i:Int):(S.strayed n i).Cl P:=by
 have hfd:=fun c=>st_fields (f:=fun c=>if c.isU i then setSt c 1 else c) lost_fields c
 have hst:∀c:Chg,c.isU i=true↔c.at_=i∧c.state=2:=fun c=>by unfold Chg.isU; rw[decide_eq_true_iff]
 have hs3:∀c:Chg,(if c.isU i then setSt c 1 else c).state=2→c.at_≠i∧c.state=2:=fun c hc=>by
  split at hc
  ·exact absurd hc (show(1:Int)≠2 by decide)
  ·rename_i hu
   exact⟨fun e=>hu ((hst c).2 ⟨e,hc⟩),hc⟩
 have hs2:∀c:Chg,c.at_≠i→c.state=2→(if c.isU i then setSt c 1 else c).state=2:=fun c h1 h2=>by
  rw[if_neg (fun hu=>h1 ((hst c).1 hu).1)]
  exact h2
 refine⟨fun x hx hx2 y hy hxy=>?_,fun x hx y hy hp ha hlt hx2=>?_,fun x hx hp=>?_⟩
 ·obtain⟨c,hc,rfl⟩:=List.mem_map.1 hx
  obtain⟨c',hc',rfl⟩:=List.mem_map.1 hy
  have hxy:((if c'.isU i then setSt c' 1 else c').num:Int)∈(if c.isU i then setSt c 1 else c).ahead:=hxy
  rw[(hfd c').1,(hfd c).2.2.2.2] at hxy
  obtain⟨q1,q2⟩:=hs3 c hx2
  obtain⟨q3,q4⟩:=h.going c hc q2 c' hc' hxy
  refine⟨hs2 c' (by rw[q4]; exact q1) q3,?_⟩
  show(if c'.isU i then setSt c' 1 else c').at_=(if c.isU i then setSt c 1 else c).at_
  rw[(hfd c').2.1,(hfd c).2.1]
  exact q4
 ·obtain⟨c,hc,rfl⟩:=List.mem_map.1 hx
  obtain⟨c',hc',rfl⟩:=List.mem_map.1 hy
  have ha:(if c'.isU i then setSt c' 1 else c').at_=(if c.isU i then setSt c 1 else c).at_:=ha
  have hlt:(if c'.isU i then setSt c' 1 else c').num<(if c.isU i then setSt c 1 else c).num:=hlt
  have hp:P (if c.isU i then setSt c 1 else c).at_:=hp
  rw[(hfd c').2.1,(hfd c).2.1] at ha
  rw[(hfd c').1,(hfd c).1] at hlt
  rw[(hfd c).2.1] at hp
  obtain⟨q1,q2⟩:=hs3 c hx2
  exact hs2 c' (by rw[ha]; exact q1) (h.pre c hc c' hc' hp ha hlt q2)
 ·obtain⟨c,hc,rfl⟩:=List.mem_map.1 hx
  have hp:P (if c.isU i then setSt c 1 else c).at_:=hp
  rw[(hfd c).2.1] at hp
  show((if c.isU i then setSt c 1 else c).off=0∧(if c.isU i then setSt c 1 else c).bytes.size=64)∨_
  rw[(hfd c).2.2.1,(hfd c).2.2.2.1]
  refine(h.chain c hc hp).imp_right (fun hh y hy hxy=>?_)
  obtain⟨c',hc',rfl⟩:=List.mem_map.1 hy
  have hxy:((if c'.isU i then setSt c' 1 else c').num:Int)∈(if c.isU i then setSt c 1 else c).ahead:=hxy
  rw[(hfd c').1,(hfd c).2.2.2.2] at hxy
  show(if c'.isU i then setSt c' 1 else c').at_=(if c.isU i then setSt c 1 else c).at_
  rw[(hfd c').2.1,(hfd c).2.1]
  exact hh c' hc' hxy
def Side.Kept (P:Int→Prop) (T:Int→Int→Int→Prop) (Q:(Int→ByteArray)→Prop) (S:Side):Prop:=S.Cl P∧S.Ever P T Q
theorem writes_kept:∀(l:List Int) (S:Side),S.Fl→S.Kept P T Q→l.Nodup→(∀i∈l,S.disk.has i∧¬S.deps.under i∧S.deps.ready i≠[])→(l.foldl Side.write S).Kept P T Q
 | [],_,_,h,_,_=>h
 | i :: l,S,hf,h,hd,hl=>by
   rw[List.nodup_cons] at hd
   obtain⟨h1,h2,h3⟩:=hl i (List.mem_cons_self ..)
   refine writes_kept l (S.write i) (hf.write h1 h2 h3) ⟨h.1.write hf h2,h.2.write i⟩ hd.2 (fun j hj=>?_)
   obtain⟨k1,k2,k3⟩:=hl j (List.mem_cons_of_mem _ hj)
   have hji:j≠i:=fun e=>hd.1 (e ▸ hj)
   refine⟨k1,fun hu=>k2 ((under_send hf.tied.ok hji).1 hu),?_⟩
   show(S.deps.send i).ready j≠[]
   rw[ready_send hf.tied.ok hji]
   exact k3
theorem endK_kept (hf:S.Fl) (h:S.Kept P T Q) (k n:Int):(S.endK k n).Kept P T Q:=by
 unfold Side.endK
 cases hw:S.whose n with
 | none=>exact h
 | some i=>
   have hm:=(q157z hf).1 hw
   dsimp only
   split
   ·obtain⟨c,hc,hci,_⟩:=(hf.flyB _ hm).2
    have hi:S.disk.has i:=by
     have:=(hf.at_ c hc).1
     rw[hci] at this
     exact this
    exact⟨h.1.landed n i,h.2.landed h.1 hf hi n⟩
   ·split
    ·exact⟨h.1.strayed n i,h.2.strayed n i⟩
    ·exact h
theorem ends_kept (pick:Nat→Int):∀(l:List Int) (S:Side) (k:Nat),S.Fl→S.Kept P T Q→(Side.ends pick S k l).Kept P T Q
 | [],_,_,_,h=>h
 | n :: r,_,k,hf,h=>ends_kept pick r _ (k+1) (q155z hf (pick k) n).fl (endK_kept hf h (pick k) n)
theorem writeAll_kept (hf:S.Fl) (h:S.Kept P T Q):S.writeAll.Kept P T Q:=writes_kept _ S hf h (q78z _) hf.sectors
theorem flush_kept (hf:S.Fl) (h:S.Kept P T Q) (pick:Nat→Int):(S.flush pick).Kept P T Q:=ends_kept pick _ _ 0 (q79z hf).fl (writeAll_kept hf h)
end
end Go.Proofs.YtaphcmcimoloiaaGreatDoor.Sp
