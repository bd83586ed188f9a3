/-
 Layers 12,14 as plain data: what of a side's changes may be on the disk: any of them,closed under what goes ahead; in some sectors the first ones only. No program in this text.
-/
import Derived.Test.YtgofmnhfajmbfaaGreatDoorSpJ
import Derived.Test.YtgofmnhfajmbfaaGreatDoorSpF
namespace Go.Proofs.YtgofmnhfajmbfaaGreatDoor.Sp
open Go Txt
def Deps.some (d:Deps) (K:Nat→Bool) (j:Int) (s:ByteArray):ByteArray:=ofL (q19z s.data.toList ((d.l.filter (fun c=>decide (c.at_=j) && K c.num)).map Chg.pat))
def Side.part (S:Side) (K:Nat→Bool) (j:Int):ByteArray:=if S.disk.has j then S.deps.some K j (S.disk.get j) else⟨#[]⟩
/-- K may be on the disk. -/
structure Adm (P:Int→Prop) (l:List Chg) (K:Nat→Bool):Prop where
 closed:∀c∈l,K c.num=true→∀c'∈l,(c'.num:Int)∈c.ahead→K c'.num=true
 pre:∀c∈l,∀c'∈l,P c.at_→c'.at_=c.at_→c'.num<c.num→K c.num=true→K c'.num=true
/-- What is under way is closed so; in the sectors P the changes hang on one another alone, but for those that are whole. -/
structure Side.Cl (P:Int→Prop) (S:Side):Prop where
 going:∀c∈S.deps.l,c.state=2→∀c'∈S.deps.l,(c'.num:Int)∈c.ahead→c'.state=2∧c'.at_=c.at_
 pre:∀c∈S.deps.l,∀c'∈S.deps.l,P c.at_→c'.at_=c.at_→c'.num<c.num→c.state=2→c'.state=2
 chain:∀c∈S.deps.l,P c.at_→(c.off=0∧c.bytes.size=64)∨∀c'∈S.deps.l,(c'.num:Int)∈c.ahead→c'.at_=c.at_
section
variable {S S':Side} {P:Int→Prop} {T:Int→Int→Int→Prop} {Q:(Int→ByteArray)→Prop} {d:Deps} {i n:Int} {K:Nat→Bool}
theorem pair_num (hok:d.Ok) {R:Chg→Chg→Prop} (h:d.l.Pairwise R) {a b:Chg} (ha:a∈d.l) (hb:b∈d.l) (hlt:a.num<b.num):R a b:=by
 obtain⟨p,hp,rfl⟩:=List.getElem_of_mem ha
 obtain⟨q,hq,rfl⟩:=List.getElem_of_mem hb
 have hr:=List.pairwise_iff_getElem.1 hok.rise
 rcases Nat.lt_trichotomy p q with h1 | rfl | h1
 ·exact List.pairwise_iff_getElem.1 h p q hp hq h1
 ·omega
 ·have:=hr q p hq hp h1; omega
theorem get_ok (h:S.Ok) (hi:S.disk.has i):(S.disk.get i).size=64:=by
 refine h.sect _ ?_
 unfold Disk.get
 have hlt:i.toNat<S.disk.l.length:=by unfold Disk.has at hi; omega
 rw[List.getD_eq_getElem?_getD,List.getElem?_eq_getElem hlt]
 exact List.getElem_mem hlt
theorem part_view (h:S.Ok) {j:Int} (hk:∀c∈S.deps.l,c.at_=j→K c.num=true):S.part K j=S.read j:=by
 unfold Side.part Side.read
 by_cases hj:S.disk.has j
 ·rw[if_pos hj,if_pos hj]
  unfold Deps.some Deps.view Deps.patches Deps.of
  rw[if_pos (get_ok h hj)]
  have e:S.deps.l.filter (fun c=>decide (c.at_=j) && K c.num)=S.deps.l.filter (fun c=>decide (c.at_=j)):=List.filter_congr (fun c hc=>by
   by_cases hcj:c.at_=j
   ·rw[hk c hc hcj,Bool.and_true]
   ·rw[decide_eq_false hcj,Bool.false_and])
  rw[e]
  rfl
 ·rw[if_neg hj,if_neg hj]
theorem part_all (h:S.Ok):S.part (fun _=>true)=S.read:=funext fun _=>part_view h (fun _ _ _=>rfl)
theorem part_none (S:Side):S.part (fun _=>false)=S.disk.read:=by
 funext j
 unfold Side.part Disk.read
 by_cases hj:S.disk.has j
 ·rw[if_pos hj,if_pos hj]
  unfold Deps.some
  rw[List.filter_eq_nil_iff.2 (fun c _=>by simp)]
  exact q133z _
 ·rw[if_neg hj,if_neg hj]
theorem adm_none (P:Int→Prop) (l:List Chg):Adm P l (fun _=>false):=⟨fun _ _ h=>absurd h (by decide),fun _ _ _ _ _ _ _ h=>absurd h (by decide)⟩
theorem adm_all (P:Int→Prop) (l:List Chg):Adm P l (fun _=>true):=⟨fun _ _ _ _ _ _=>rfl,fun _ _ _ _ _ _ _ _=>rfl⟩
theorem part_map {f:Chg→Chg} (hl:S'.deps.l=S.deps.l.map f) (hd:S'.disk.l=S.disk.l) (hf:∀c,(f c).num=c.num∧(f c).at_=c.at_∧(f c).off=c.off∧(f c).bytes=c.bytes∧(f c).ahead=c.ahead) (K:Nat→Bool):S'.part K=S.part K:=by
 funext j
 have hg:S'.disk.get j=S.disk.get j:=by unfold Disk.get; rw[hd]
 have hh:S'.disk.has j↔S.disk.has j:=by unfold Disk.has; rw[hd]
 have hs:S'.deps.some K j (S.disk.get j)=S.deps.some K j (S.disk.get j):=by
  unfold Deps.some
  rw[hl,List.filter_map,List.map_map]
  have e1:((fun c:Chg=>decide (c.at_=j) && K c.num) ∘ f)=(fun c:Chg=>decide (c.at_=j) && K c.num):=funext fun c=>by
   show(decide ((f c).at_=j) && K (f c).num)=_
   rw[(hf c).1,(hf c).2.1]
  have e2:(Chg.pat ∘ f)=Chg.pat:=funext fun c=>by
   show((f c).off,(f c).bytes)=(c.off,c.bytes)
   rw[(hf c).2.2.1,(hf c).2.2.2.1]
  rw[e1,e2]
 unfold Side.part
 by_cases hj:S.disk.has j
 ·rw[if_pos hj,if_pos (hh.2 hj),hg,hs]
 ·rw[if_neg hj,if_neg (fun hx=>hj (hh.1 hx))]
theorem adm_map {f:Chg→Chg} (hl:S'.deps.l=S.deps.l.map f) (hf:∀c,(f c).num=c.num∧(f c).at_=c.at_∧(f c).off=c.off∧(f c).bytes=c.bytes∧(f c).ahead=c.ahead) (hK:Adm P S'.deps.l K):Adm P S.deps.l K:=by
 rw[hl] at hK
 refine⟨fun c hc hk c' hc' hn=>?_,fun c hc c' hc' hp ha hlt hk=>?_⟩
 ·have:=hK.closed (f c) (List.mem_map_of_mem hc) (by rw[(hf c).1]; exact hk) (f c') (List.mem_map_of_mem hc') (by rw[(hf c').1,(hf c).2.2.2.2]; exact hn)
  rw[(hf c').1] at this
  exact this
 ·have:=hK.pre (f c) (List.mem_map_of_mem hc) (f c') (List.mem_map_of_mem hc') (by rw[(hf c).2.1]; exact hp) (by rw[(hf c).2.1,(hf c').2.1]; exact ha) (by rw[(hf c).1,(hf c').1]; exact hlt) (by rw[(hf c).1]; exact hk)
  rw[(hf c').1] at this
  exact this
theorem st_fields {f:Chg→Chg} (hf:∀c,f c=c∨∃s,f c=setSt c s) (c:Chg):(f c).num=c.num∧(f c).at_=c.at_∧(f c).off=c.off∧(f c).bytes=c.bytes∧(f c).ahead=c.ahead:=by
 rcases hf c with e | ⟨s,e⟩ <;> rw[e] <;> exact⟨rfl,rfl,rfl,rfl,rfl⟩
theorem send_fields (c:Chg):(if d.isR i c then setSt c 2 else c)=c∨∃s,(if d.isR i c then setSt c 2 else c)=setSt c s:=by
 split
 ·exact Or.inr ⟨2,rfl⟩
 ·exact Or.inl rfl
theorem lost_fields (c:Chg):(if c.isU i then setSt c 1 else c)=c∨∃s,(if c.isU i then setSt c 1 else c)=setSt c s:=by
 split
 ·exact Or.inr ⟨1,rfl⟩
 ·exact Or.inl rfl
theorem landed_part (hcl:S.Cl P) (hfl:S.Fl) (hi:S.disk.has i) (n:Int) (hK:Adm P (S.landed n i).deps.l K) :
 ∃K2,Adm P S.deps.l K2∧S.part K2=(S.landed n i).part K∧(∀c∈S.deps.l,c.isU i=true→K2 c.num=true)∧(∀c∈S.deps.l,c.isU i=false→K2 c.num=K c.num∧c∈(S.landed n i).deps.l):=by
 have hok:=hfl.tied.ok
 obtain⟨K2,hK2⟩:∃K2:Nat→Bool,∀m,K2 m=(K m||S.deps.l.any (fun c=>decide (c.num=m) && c.isU i)):=⟨_,fun _=>rfl⟩
 have hU:∀c∈S.deps.l,c.isU i=true→K2 c.num=true:=fun c hc hu=>by
  rw[hK2,List.any_eq_true.2 ⟨c,hc,by rw[decide_eq_true rfl,hu]; rfl⟩,Bool.or_true]
 have hN:∀c∈S.deps.l,c.isU i=false→K2 c.num=K c.num:=fun c hc hu=>by
  rw[hK2]
  have:S.deps.l.any (fun b=>decide (b.num=c.num) && b.isU i)=false:=by
   rw[List.any_eq_false]
   intro b hb he
   rw[Bool.and_eq_true,decide_eq_true_iff] at he
   have:=q184z hok hb hc he.1
   subst this
   rw[hu] at he
   exact absurd he.2 (by decide)
  rw[this,Bool.or_false]
 have hmem:∀c∈S.deps.l,c.isU i=false→c∈(S.landed n i).deps.l:=fun c hc hu=>List.mem_filter.2 ⟨hc,by rw[hu]; rfl⟩
 have hst:∀c:Chg,c.isU i=true↔c.at_=i∧c.state=2:=fun c=>by unfold Chg.isU; rw[decide_eq_true_iff]
 have hadm:Adm P S.deps.l K2:=by
  refine⟨fun c hc hk c' hc' hn=>?_,fun c hc c' hc' hp ha hlt hk=>?_⟩
  ·cases hu':c'.isU i with
   | true=>exact hU c' hc' hu'
   | false=>
     cases hu:c.isU i with
     | true=>
       have h1:=(hst c).1 hu
       have h2:=hcl.going c hc h1.2 c' hc' hn
       rw[(hst c').2 ⟨h2.2.trans h1.1,h2.1⟩] at hu'
       exact absurd hu' (by decide)
     | false=>
       rw[hN c hc hu] at hk
       rw[hN c' hc' hu']
       exact hK.closed c (hmem c hc hu) hk c' (hmem c' hc' hu') hn
  ·cases hu':c'.isU i with
   | true=>exact hU c' hc' hu'
   | false=>
     cases hu:c.isU i with
     | true=>
       have h1:=(hst c).1 hu
       have h2:=hcl.pre c hc c' hc' hp ha hlt h1.2
       rw[(hst c').2 ⟨ha.trans h1.1,h2⟩] at hu'
       exact absurd hu' (by decide)
     | false=>
       rw[hN c hc hu] at hk
       rw[hN c' hc' hu']
       exact hK.pre c (hmem c hc hu) c' (hmem c' hc' hu') hp ha hlt hk
 have e:S.part K2=(S.landed n i).part K:=by
  funext j
  have hhas:(S.landed n i).disk.has j↔S.disk.has j:=by
   unfold Disk.has Side.landed
   dsimp only
   rw[List.length_set]
  unfold Side.part
  by_cases hj:S.disk.has j
  ·rw[if_pos hj,if_pos (hhas.2 hj)]
   have hzj:=q138z hfl hj
   have hg:(S.landed n i).disk.get j=if j=i then S.deps.sent i (S.disk.get j) else S.disk.get j:=by
    unfold Disk.get Side.landed
    dsimp only
    rw[List.getD_eq_getElem?_getD,List.getElem?_set]
    unfold Disk.has at hi hj
    by_cases e:j=i
    ·subst e
     rw[if_pos rfl,if_pos rfl,if_pos (by omega)]
     rfl
    ·rw[if_neg (by omega),if_neg e,←List.getD_eq_getElem?_getD]
   rw[hg]
   show _=(S.deps.done i).some K j _
   by_cases hji:j=i
   ·subst hji
    rw[if_pos rfl]
    unfold Deps.some
    have h1:=patchedL_split Chg.pat (fun c=>c.isU j) (S.deps.l.filter (fun c=>decide (c.at_=j) && K2 c.num)) (S.disk.get j).data.toList hzj (fun c hc=>hok.fit c (List.mem_filter.1 hc).1) (by
     have hp:(S.deps.l.filter (fun c=>decide (c.at_=j) && K2 c.num)).Pairwise (fun a b=>a.at_=b.at_→overP a.pat b.pat→b.state=2→a.state=2):=hfl.tied.sent.sublist List.filter_sublist
     rw[List.pairwise_iff_getElem] at hp ⊢
     intro p q hpp hqq hpq h1 h2
     have ha:=List.mem_filter.1 (List.getElem_mem hpp)
     have hb:=List.mem_filter.1 (List.getElem_mem hqq)
     have e1:=of_decide_eq_true (Bool.and_eq_true _ _ ▸ ha.2).1
     have e2:=of_decide_eq_true (Bool.and_eq_true _ _ ▸ hb.2).1
     exact(hst _).2 ⟨e1,hp p q hpp hqq hpq (e1.trans e2.symm) h2 ((hst _).1 h1).2⟩)
    have e1:(S.deps.l.filter (fun c=>decide (c.at_=j) && K2 c.num)).filter (fun c=>c.isU j)=S.deps.l.filter (fun c=>c.isU j):=by
     rw[List.filter_filter]
     refine List.filter_congr (fun c hc=>?_)
     cases hu:c.isU j with
     | true=>rw[hU c hc hu,decide_eq_true ((hst c).1 hu).1]; rfl
     | false=>rfl
    have e2:(S.deps.l.filter (fun c=>decide (c.at_=j) && K2 c.num)).filter (fun c=>!c.isU j)=(S.deps.done j).l.filter (fun c=>decide (c.at_=j) && K c.num):=by
     unfold Deps.done
     dsimp only
     rw[List.filter_filter,List.filter_filter]
     refine List.filter_congr (fun c hc=>?_)
     cases hu:c.isU j with
     | true=>simp
     | false=>rw[hN c hc hu,Bool.and_comm]
    rw[e1,e2] at h1
    unfold Deps.sent
    rw[q8z]
    exact congrArg ofL h1
   ·rw[if_neg hji]
    unfold Deps.some Deps.done
    dsimp only
    rw[List.filter_filter]
    have e3:S.deps.l.filter (fun c=>decide (c.at_=j) && K2 c.num)=S.deps.l.filter (fun c=>(decide (c.at_=j) && K c.num) && !c.isU i):=List.filter_congr (fun c hc=>by
     cases hu:c.isU i with
     | true=>
       have:¬c.at_=j:=fun e=>hji (e.symm.trans ((hst c).1 hu).1)
       rw[decide_eq_false this]
       rfl
     | false=>rw[hN c hc hu]; simp)
    rw[e3]
  ·rw[if_neg hj,if_neg (fun hh=>hj (hhas.1 hh))]
 exact⟨K2,hadm,e,hU,fun c hc hu=>⟨hN c hc hu,hmem c hc hu⟩⟩
theorem ready_first (hcl:S.Cl P) (ht:S.deps.Tied) (hn:¬S.deps.under i) (hp:P i) {c:Chg} (hc:c∈S.deps.l) (hr:S.deps.isR i c=true):∀(m:Nat) (c':Chg),c'.num=m→c'∈S.deps.l→c'.at_=i→c'.num<c.num→S.deps.isR i c' = true:=by
 have hok:=ht.ok
 intro m
 induction m using Nat.strongRecOn with
 | _ m ih=>
   intro c' hm hc' hat hlt
   have hci:=(q79z hok hc).1 hr
   have hs1:c'.state=1:=(hok.st c' hc').resolve_right (fun h2=>hn ⟨c',hc',hat,h2⟩)
   rcases hcl.chain c' hc' (by rw[hat]; exact hp) with ⟨h0,h64⟩ | hch
   ·refine ready_closed hok hc' hc hr (pair_num hok ht.knows hc' hc hlt (hat.trans hci.1.symm) ?_)
    have hf:=hok.fit c hc
    unfold inside at hf
    unfold overP Chg.pat
    dsimp only
    omega
   ·rw[q79z hok hc']
    refine⟨hat,hs1,?_⟩
    obtain⟨l1,l2,hl⟩:=List.append_of_mem hc'
    have hrise:=hok.rise
    unfold Deps.ready
    rw[hl,List.foldl_append,List.foldl_cons]
    refine ready_mono l2 _ _ (q73z.2 (Or.inr ⟨rfl,hat,hs1,fun k hk=>?_⟩))
    by_cases hz:∃b∈S.deps.l,(b.num:Int)=k
    ·right
     obtain⟨b,hb,rfl⟩:=hz
     have hbn:=(ht.older c' hc' _ hk).2
     have hbr:S.deps.isR i b=true:=ih b.num (by omega) b rfl hb ((hch b hb hk).trans hat) (by omega)
     have hbm:=((q79z hok hb).1 hbr).2.2
     unfold Deps.ready at hbm
     rw[hl,List.foldl_append] at hbm
     rcases Sp.ready_of (d:=S.deps) (i:=i) _ _ _ hbm with h1 | ⟨x,hx,he,_⟩
     ·exact h1
     ·rw[hl,List.pairwise_append,List.pairwise_cons] at hrise
      rcases List.mem_cons.1 hx with rfl | hx
      ·omega
      ·have:=hrise.2.1.1 x hx
       omega
    ·exact Or.inl (stateOf_none (fun b hb e=>hz ⟨b,hb,e⟩))
theorem Side.Cl.write (h:S.Cl P) (hf:S.Fl) (hn:¬S.deps.under i):(S.write i).Cl P:=by
 have hok:=hf.tied.ok
 have hfd:=fun c=>st_fields (f:=fun c=>if S.deps.isR i c then setSt c 2 else c) send_fields c
 have hs2:∀c:Chg,S.deps.isR i c=true∨c.state=2→(if S.deps.isR i c then setSt c 2 else c).state=2:=fun c hc=>by
  split
  ·rfl
  ·rename_i hnr
   exact hc.resolve_left hnr
 have hs3:∀c:Chg,(if S.deps.isR i c then setSt c 2 else c).state=2→S.deps.isR i c=true∨c.state=2:=fun c hc=>by
  split at hc
  ·rename_i hr
   exact Or.inl hr
  ·exact Or.inr hc
 refine⟨fun x hx hx2 y hy hxy=>?_,fun x hx y hy hp ha hlt hx2=>?_,fun x hx hp=>?_⟩
 ·obtain⟨c,hc,rfl⟩:=List.mem_map.1 hx
  obtain⟨c',hc',rfl⟩:=List.mem_map.1 hy
  have hxy:((if S.deps.isR i c' then setSt c' 2 else c').num:Int)∈(if S.deps.isR i c then setSt c 2 else c).ahead:=hxy
  rw[(hfd c').1,(hfd c).2.2.2.2] at hxy
  refine⟨hs2 c' ?_,?_⟩
  ·rcases hs3 c hx2 with hr | h2
   ·exact Or.inl (ready_closed hok hc' hc hr hxy)
   ·exact Or.inr (h.going c hc h2 c' hc' hxy).1
  ·show(if S.deps.isR i c' then setSt c' 2 else c').at_=(if S.deps.isR i c then setSt c 2 else c).at_
   rw[(hfd c').2.1,(hfd c).2.1]
   rcases hs3 c hx2 with hr | h2
   ·exact((q79z hok hc').1 (ready_closed hok hc' hc hr hxy)).1.trans ((q79z hok hc).1 hr).1.symm
   ·exact(h.going c hc h2 c' hc' hxy).2
 ·obtain⟨c,hc,rfl⟩:=List.mem_map.1 hx
  obtain⟨c',hc',rfl⟩:=List.mem_map.1 hy
  have ha:(if S.deps.isR i c' then setSt c' 2 else c').at_=(if S.deps.isR i c then setSt c 2 else c).at_:=ha
  have hlt:(if S.deps.isR i c' then setSt c' 2 else c').num<(if S.deps.isR i c then setSt c 2 else c).num:=hlt
  have hp:P (if S.deps.isR i c then setSt c 2 else c).at_:=hp
  rw[(hfd c').2.1,(hfd c).2.1] at ha
  rw[(hfd c').1,(hfd c).1] at hlt
  rw[(hfd c).2.1] at hp
  refine hs2 c' ?_
  rcases hs3 c hx2 with hr | h2
  ·have hci:=((q79z hok hc).1 hr).1
   rw[hci] at hp
   exact Or.inl (ready_first h hf.tied hn hp hc hr _ c' rfl hc' (ha.trans hci) hlt)
  ·exact Or.inr (h.pre c hc c' hc' hp ha hlt h2)
 ·obtain⟨c,hc,rfl⟩:=List.mem_map.1 hx
  have hp:P (if S.deps.isR i c then setSt c 2 else c).at_:=hp
  rw[(hfd c).2.1] at hp
  show((if S.deps.isR i c then setSt c 2 else c).off=0∧(if S.deps.isR i c then setSt c 2 else c).bytes.size=64)∨_
  rw[(hfd c).2.2.1,(hfd c).2.2.2.1]
  refine(h.chain c hc hp).imp_right (fun hh y hy hxy=>?_)
  obtain⟨c',hc',rfl⟩:=List.mem_map.1 hy
  have hxy:((if S.deps.isR i c' then setSt c' 2 else c').num:Int)∈(if S.deps.isR i c then setSt c 2 else c).ahead:=hxy
  rw[(hfd c').1,(hfd c).2.2.2.2] at hxy
  show(if S.deps.isR i c' then setSt c' 2 else c').at_=(if S.deps.isR i c then setSt c 2 else c).at_
  rw[(hfd c').2.1,(hfd c).2.1]
  exact hh c' hc' hxy
theorem Side.Cl.landed (h:S.Cl P) (n i:Int):(S.landed n i).Cl P:=by
 have hm:∀c∈(S.landed n i).deps.l,c∈S.deps.l:=fun c hc=>(List.mem_filter.1 hc).1
 exact⟨fun c hc h2 c' hc' ha=>h.going c (hm c hc) h2 c' (hm c' hc') ha,fun c hc c' hc' hp ha hlt h2=>h.pre c (hm c hc) c' (hm c' hc') hp ha hlt h2,fun c hc hp=>(h.chain c (hm c hc) hp).imp_right (fun hh c' hc' ha=>hh c' (hm c' hc') ha)⟩
theorem Side.Cl.strayed (h:S.Cl P) (n i:Int):(S.strayed n i).Cl P:=by
 have hfd:=fun c=>st_fields (f:=fun c=>if c.isU i then setSt c 1 else c) lost_fields c
 have hst:∀c:Chg,c.isU i=true↔c.at_=i∧c.state=2:=fun c=>by unfold Chg.isU; rw[decide_eq_true_iff]
 have hs3:∀c:Chg,(if c.isU i then setSt c 1 else c).state=2→c.at_≠i∧c.state=2:=fun c hc=>by
  split at hc
  ·exact absurd hc (show(1:Int)≠2 by decide)
  ·rename_i hu
   exact⟨fun e=>hu ((hst c).2 ⟨e,hc⟩),hc⟩
 have hs2:∀c:Chg,c.at_≠i→c.state=2→(if c.isU i then setSt c 1 else c).state=2:=fun c h1 h2=>by
  rw[if_neg (fun hu=>h1 ((hst c).1 hu).1)]
  exact h2
 refine⟨fun x hx hx2 y hy hxy=>?_,fun x hx y hy hp ha hlt hx2=>?_,fun x hx hp=>?_⟩
 ·obtain⟨c,hc,rfl⟩:=List.mem_map.1 hx
  obtain⟨c',hc',rfl⟩:=List.mem_map.1 hy
  have hxy:((if c'.isU i then setSt c' 1 else c').num:Int)∈(if c.isU i then setSt c 1 else c).ahead:=hxy
  rw[(hfd c').1,(hfd c).2.2.2.2] at hxy
  obtain⟨q1,q2⟩:=hs3 c hx2
  obtain⟨q3,q4⟩:=h.going c hc q2 c' hc' hxy
  refine⟨hs2 c' (by rw[q4]; exact q1) q3,?_⟩
  show(if c'.isU i then setSt c' 1 else c').at_=(if c.isU i then setSt c 1 else c).at_
  rw[(hfd c').2.1,(hfd c).2.1]
  exact q4
 ·obtain⟨c,hc,rfl⟩:=List.mem_map.1 hx
  obtain⟨c',hc',rfl⟩:=List.mem_map.1 hy
  have ha:(if c'.isU i then setSt c' 1 else c').at_=(if c.isU i then setSt c 1 else c).at_:=ha
  have hlt:(if c'.isU i then setSt c' 1 else c').num<(if c.isU i then setSt c 1 else c).num:=hlt
  have hp:P (if c.isU i then setSt c 1 else c).at_:=hp
  rw[(hfd c').2.1,(hfd c).2.1] at ha
  rw[(hfd c').1,(hfd c).1] at hlt
  rw[(hfd c).2.1] at hp
  obtain⟨q1,q2⟩:=hs3 c hx2
  exact hs2 c' (by rw[ha]; exact q1) (h.pre c hc c' hc' hp ha hlt q2)
 ·obtain⟨c,hc,rfl⟩:=List.mem_map.1 hx
  have hp:P (if c.isU i then setSt c 1 else c).at_:=hp
  rw[(hfd c).2.1] at hp
  show((if c.isU i then setSt c 1 else c).off=0∧(if c.isU i then setSt c 1 else c).bytes.size=64)∨_
  rw[(hfd c).2.2.1,(hfd c).2.2.2.1]
  refine(h.chain c hc hp).imp_right (fun hh y hy hxy=>?_)
  obtain⟨c',hc',rfl⟩:=List.mem_map.1 hy
  have hxy:((if c'.isU i then setSt c' 1 else c').num:Int)∈(if c.isU i then setSt c 1 else c).ahead:=hxy
  rw[(hfd c').1,(hfd c).2.2.2.2] at hxy
  show(if c'.isU i then setSt c' 1 else c').at_=(if c.isU i then setSt c 1 else c).at_
  rw[(hfd c').2.1,(hfd c).2.1]
  exact hh c' hc' hxy
end
section
variable {S:Side} {P:Int→Prop} {T:Int→Int→Int→Prop} {Q Q':(Int→ByteArray)→Prop} {i off:Int} {b:ByteArray} {ahead:List Int}
theorem addC_of (hc:S.changeC i off b ahead=0):S.disk.has i∧S.deps.addC i off b ahead=0:=by
 unfold Side.changeC at hc
 split at hc
 ·exact⟨by assumption,hc⟩
 ·exact absurd hc (by decide)
theorem q123z (hc:S.changeC i off b ahead=0):(S.change i off b ahead).deps.l=S.deps.l ++ [⟨S.deps.last+1,i,off,b,ahead ++ S.deps.overs i off b,1⟩]:=by
 unfold Side.change
 rw[if_pos hc]
 show(S.deps.add i off b ahead).l=_
 unfold Deps.add
 rw[if_pos (addC_of hc).2]
theorem ahead_of (hc:S.changeC i off b ahead=0):∀n∈ahead,1≤n∧n≤(S.deps.last:Int):=fun n hn=>by
 have h:=(addC_of hc).2
 unfold Deps.addC at h
 split at h
 ·split at h
  ·exact absurd h (by decide)
  ·rename_i h2
   refine⟨Classical.byContradiction fun h3=>h2 ⟨n,hn,Or.inl (by omega)⟩,Classical.byContradiction fun h3=>h2 ⟨n,hn,Or.inr (by omega)⟩⟩
 ·exact absurd h (by decide)
theorem part_change (hc:S.changeC i off b ahead=0) (K:Nat→Bool):(S.change i off b ahead).part K=if K (S.deps.last+1)=true then upd (S.part K) i off.toNat b.data.toList else S.part K:=by
 have hi:=(addC_of hc).1
 have hsome:∀j s,(S.change i off b ahead).deps.some K j s=ofL (q19z s.data.toList ((S.deps.l.filter (fun c=>decide (c.at_=j) && K c.num)).map Chg.pat ++ (if i=j∧K (S.deps.last+1)=true then [(off,b)] else []))):=fun j s=>by
  unfold Deps.some
  rw[q123z hc,List.filter_append,List.map_append]
  congr 3
  by_cases hj:i=j∧K (S.deps.last+1)=true
  ·rw[if_pos hj,List.filter_cons,if_pos (by rw[decide_eq_true hj.1,hj.2]; rfl)]
   rfl
  ·rw[if_neg hj,List.filter_cons,if_neg]
   ·rfl
   ·intro h
    rw[Bool.and_eq_true,decide_eq_true_iff] at h
    exact hj h
 have hp:∀j,(S.change i off b ahead).part K j=if S.disk.has j then(S.change i off b ahead).deps.some K j (S.disk.get j) else⟨#[]⟩:=fun j=>by
  unfold Side.part
  rw[Side.change_disk]
 funext j
 rw[hp,hsome]
 by_cases hk:K (S.deps.last+1)=true
 ·rw[if_pos hk]
  by_cases hj:j=i
  ·subst hj
   rw[if_pos hi,if_pos ⟨rfl,hk⟩,upd_same,patchedL_snoc]
   unfold Side.part
   rw[if_pos hi]
   unfold Deps.some
   rw[q8z]
  ·have e:(if i=j∧K (S.deps.last+1)=true then [(off,b)] else [])=[]:=if_neg (fun h=>hj h.1.symm)
   rw[q10z _ hj,e,List.append_nil]
   rfl
 ·have e:(if i=j∧K (S.deps.last+1)=true then [(off,b)] else [])=[]:=if_neg (fun h=>hk h.2)
  rw[if_neg hk,e,List.append_nil]
  rfl
theorem Side.Cl.change (h:S.Cl P) (ht:S.deps.Tied) (hc:S.changeC i off b ahead=0) (hP:P i→(off=0∧b.size=64)∨∀c∈S.deps.l,(c.num:Int)∈ahead→c.at_=i):(S.change i off b ahead).Cl P:=by
 have hok:=ht.ok
 have hlast:∀c∈S.deps.l,c.num≤S.deps.last:=fun c hc=>(hok.num c hc).2
 have hold:∀c∈S.deps.l,((S.deps.last+1:Nat):Int)∉c.ahead:=fun c hc hn=>by
  have h1:=(ht.older c hc _ hn).2
  have h2:=hlast c hc
  omega
 have hm:∀{c},c∈S.deps.l ++ [(⟨S.deps.last+1,i,off,b,ahead ++ S.deps.overs i off b,1⟩:Chg)]→c∈S.deps.l∨c=⟨S.deps.last+1,i,off,b,ahead ++ S.deps.overs i off b,1⟩:=fun h=>(List.mem_append.1 h).imp_right List.mem_singleton.1
 refine⟨fun c hcm h2 c' hcm' hn=>?_,fun c hcm c' hcm' hp ha hlt h2=>?_,fun c hcm hp=>?_⟩
 ·rw[q123z hc] at hcm hcm'
  rcases hm hcm with hcm | rfl
  ·rcases hm hcm' with hcm' | rfl
   ·exact h.going c hcm h2 c' hcm' hn
   ·exact absurd hn (hold c hcm)
  ·exact absurd h2 (show(1:Int)≠2 by decide)
 ·rw[q123z hc] at hcm hcm'
  rcases hm hcm with hcm | rfl
  ·rcases hm hcm' with hcm' | rfl
   ·exact h.pre c hcm c' hcm' hp ha hlt h2
   ·have:=hlast c hcm
    have hlt:S.deps.last+1<c.num:=hlt
    omega
  ·exact absurd h2 (show(1:Int)≠2 by decide)
 ·rw[q123z hc] at hcm ⊢
  rcases hm hcm with hcm | rfl
  ·refine(h.chain c hcm hp).imp_right (fun hh c' hcm' hn=>?_)
   rcases hm hcm' with hcm' | rfl
   ·exact hh c' hcm' hn
   ·exact absurd hn (hold c hcm)
  ·refine(hP hp).imp_right (fun hh c' hcm' hn=>?_)
   have hn:(c'.num:Int)∈ahead ++ S.deps.overs i off b:=hn
   rcases hm hcm' with hcm' | rfl
   ·rcases List.mem_append.1 hn with hn | hn
    ·exact hh c' hcm' hn
    ·unfold Deps.overs at hn
     obtain⟨c2,hc2,he⟩:=List.mem_map.1 hn
     obtain⟨h3,h4⟩:=List.mem_filter.1 hc2
     rw[decide_eq_true_iff] at h4
     have:=q184z hok h3 hcm' (by omega)
     subst this
     exact h4.1
   ·rcases List.mem_append.1 hn with hn | hn
    ·have:=(ahead_of hc _ hn).2
     have e:((S.deps.last+1:Nat):Int)≤(S.deps.last:Int):=this
     omega
    ·unfold Deps.overs at hn
     obtain⟨c2,hc2,he⟩:=List.mem_map.1 hn
     have:=hlast c2 (List.mem_filter.1 hc2).1
     have he:(c2.num:Int)=((S.deps.last+1:Nat):Int):=he
     omega
theorem all_of_last {K:Nat→Bool} {N:Int} (ht:S.deps.Tied) (hadm:Adm P S.deps.l K) {c:Chg} (hc:c∈S.deps.l) (hk:K c.num=true) (hat:c.at_=N) (hw:c.off=0∧c.bytes.size=64) (hl:∀x∈S.deps.l,x.at_=N→x.num≤c.num):∀x∈S.deps.l,x.at_=N→K x.num=true:=fun x hx hxa=>by
 by_cases e:x.num=c.num
 ·rw[e]; exact hk
 ·refine hadm.closed c hc hk x hx (pair_num ht.ok ht.knows hx hc (by have:=hl x hx hxa; omega) (hxa.trans hat.symm) ?_)
  have hf:=ht.ok.fit x hx
  unfold inside at hf
  unfold overP Chg.pat
  dsimp only
  omega
end
def NoP:Int→Prop:=fun _=>False
def Side.All (S:Side) (K:Nat→Bool) (T:Int→Int→Int→Prop):Prop:=∀c∈S.deps.l,T c.at_ c.off c.bytes.size→K c.num=true
def ovT (at_ off n:Int):Int→Int→Int→Prop:=fun a o m=>a=at_∧max o off<min (o+m) (off+n)
def Side.EverR (R:((Int→Int→Int→Prop)→Prop)→(Int→ByteArray)→Prop) (S:Side):Prop:=∀K,Adm NoP S.deps.l K→R (S.All K) (S.part K)
section
variable {S S':Side} {R R':((Int→Int→Int→Prop)→Prop)→(Int→ByteArray)→Prop} {i n off:Int} {b:ByteArray} {ahead:List Int} {K:Nat→Bool}
theorem Side.EverR.map {f:Chg→Chg} (hl:S'.deps.l=S.deps.l.map f) (hd:S'.disk.l=S.disk.l) (hf:∀c,(f c).num=c.num∧(f c).at_=c.at_∧(f c).off=c.off∧(f c).bytes=c.bytes∧(f c).ahead=c.ahead) (h:S.EverR R):S'.EverR R:=by
 intro K hK
 have e:S'.All K=S.All K:=funext fun T=>propext (by
  unfold Side.All
  rw[hl]
  constructor
  ·intro hh c hc ht
   have:=hh (f c) (List.mem_map_of_mem hc) (by rw[(hf c).2.1,(hf c).2.2.1,(hf c).2.2.2.1]; exact ht)
   rw[(hf c).1] at this
   exact this
  ·intro hh c hc ht
   obtain⟨c0,hc0,rfl⟩:=List.mem_map.1 hc
   rw[(hf c0).2.1,(hf c0).2.2.1,(hf c0).2.2.2.1] at ht
   rw[(hf c0).1]
   exact hh c0 hc0 ht)
 rw[e,part_map hl hd hf]
 exact h K (adm_map hl hf hK)
theorem Side.EverR.write (h:S.EverR R) (i:Int):(S.write i).EverR R:=
 Side.EverR.map (S':=S.write i) (f:=fun c=>if S.deps.isR i c then setSt c 2 else c) rfl rfl (st_fields send_fields) h
theorem Side.EverR.strayed (h:S.EverR R) (n i:Int):(S.strayed n i).EverR R:=
 Side.EverR.map (S':=S.strayed n i) (f:=fun c=>if c.isU i then setSt c 1 else c) rfl rfl (st_fields lost_fields) h
theorem Side.EverR.landed (hcl:S.Cl NoP) (hfl:S.Fl) (hi:S.disk.has i) (h:S.EverR R) (n:Int):(S.landed n i).EverR R:=by
 intro K hK
 obtain⟨K2,hadm,e,hU,hN⟩:=landed_part hcl hfl hi n hK
 have hA:(S.landed n i).All K=S.All K2:=funext fun T=>propext (by
  constructor
  ·intro hh c hc ht
   cases hu:c.isU i with
   | true=>exact hU c hc hu
   | false=>
     rw[(hN c hc hu).1]
     exact hh c (hN c hc hu).2 ht
  ·intro hh c hc ht
   have hc2:c∈S.deps.l∧(!c.isU i)=true:=List.mem_filter.1 hc
   have hu:c.isU i=false:=by simpa using hc2.2
   rw[←(hN c hc2.1 hu).1]
   exact hh c hc2.1 ht)
 rw[hA,←e]
 exact h K2 hadm
def Side.KeptR (R:((Int→Int→Int→Prop)→Prop)→(Int→ByteArray)→Prop) (S:Side):Prop:=S.Cl NoP∧S.EverR R
theorem writes_keptR:∀(l:List Int) (S:Side),S.Fl→S.KeptR R→l.Nodup→(∀i∈l,S.disk.has i∧¬S.deps.under i∧S.deps.ready i≠[])→(l.foldl Side.write S).KeptR R
 | [],_,_,h,_,_=>h
 | i :: l,S,hf,h,hd,hl=>by
   rw[List.nodup_cons] at hd
   obtain⟨h1,h2,h3⟩:=hl i (List.mem_cons_self ..)
   refine writes_keptR l (S.write i) (hf.write h1 h2 h3) ⟨h.1.write hf h2,h.2.write i⟩ hd.2 (fun j hj=>?_)
   obtain⟨k1,k2,k3⟩:=hl j (List.mem_cons_of_mem _ hj)
   have hji:j≠i:=fun e=>hd.1 (e ▸ hj)
   refine⟨k1,fun hu=>k2 ((under_send hf.tied.ok hji).1 hu),?_⟩
   show(S.deps.send i).ready j≠[]
   rw[ready_send hf.tied.ok hji]
   exact k3
theorem endK_keptR (hf:S.Fl) (h:S.KeptR R) (k n:Int):(S.endK k n).KeptR R:=by
 unfold Side.endK
 cases hw:S.whose n with
 | none=>exact h
 | some i=>
   have hm:=(q162z hf).1 hw
   dsimp only
   split
   ·obtain⟨c,hc,hci,_⟩:=(hf.flyB _ hm).2
    have hi:S.disk.has i:=by
     have:=(hf.at_ c hc).1
     rw[hci] at this
     exact this
    exact⟨h.1.landed n i,h.2.landed h.1 hf hi n⟩
   ·split
    ·exact⟨h.1.strayed n i,h.2.strayed n i⟩
    ·exact h
theorem ends_keptR (pick:Nat→Int):∀(l:List Int) (S:Side) (k:Nat),S.Fl→S.KeptR R→(Side.ends pick S k l).KeptR R
 | [],_,_,_,h=>h
 | n :: r,_,k,hf,h=>ends_keptR pick r _ (k+1) (q163z hf (pick k) n).fl (endK_keptR hf h (pick k) n)
theorem writeAll_keptR (hf:S.Fl) (h:S.KeptR R):S.writeAll.KeptR R:=writes_keptR _ S hf h (q80z _) hf.sectors
theorem flush_keptR (hf:S.Fl) (h:S.KeptR R) (pick:Nat→Int):(S.flush pick).KeptR R:=ends_keptR pick _ _ 0 (q82z hf).fl (writeAll_keptR hf h)
theorem Side.EverR.now (h:S.EverR R):R (S.All (fun _=>false)) S.disk.read:=by
 have:=h _ (adm_none NoP S.deps.l)
 rw[part_none] at this
 exact this
theorem q66z (hc:S.changeC i off b ahead=0) (hK:Adm NoP (S.change i off b ahead).deps.l K) :
 Adm NoP S.deps.l K∧(K (S.deps.last+1)=true→(∀c∈S.deps.l,(c.num:Int)∈ahead→K c.num=true)∧S.All K (ovT i off b.size)):=by
 rw[q123z hc] at hK
 have hl:∀{c},c∈S.deps.l→c∈S.deps.l ++ [⟨S.deps.last+1,i,off,b,ahead ++ S.deps.overs i off b,1⟩]:=fun hc=>List.mem_append_left _ hc
 have hnew:(⟨S.deps.last+1,i,off,b,ahead ++ S.deps.overs i off b,1⟩:Chg)∈S.deps.l ++ [⟨S.deps.last+1,i,off,b,ahead ++ S.deps.overs i off b,1⟩]:=List.mem_append_right _ (List.mem_singleton.2 rfl)
 refine⟨⟨fun c hc hk c' hc' hn=>hK.closed c (hl hc) hk c' (hl hc') hn,fun c hc c' hc' hp ha hlt hk=>hK.pre c (hl hc) c' (hl hc') hp ha hlt hk⟩,fun hk=>⟨fun c hcm ha=>hK.closed _ hnew hk c (hl hcm) (List.mem_append_left _ ha),fun c hcm ht=>hK.closed _ hnew hk c (hl hcm) (List.mem_append_right _ ?_)⟩⟩
 unfold Deps.overs
 exact List.mem_map.2 ⟨c,List.mem_filter.2 ⟨hcm,by rw[decide_eq_true_iff]; exact ht⟩,rfl⟩
theorem q52z (hc:S.changeC i off b ahead=0) (T:Int→Int→Int→Prop):(S.change i off b ahead).All K T↔S.All K T∧(T i off b.size→K (S.deps.last+1)=true):=by
 unfold Side.All
 rw[q123z hc]
 constructor
 ·intro h
  exact⟨fun c hcm=>h c (List.mem_append_left _ hcm),fun ht=>h _ (List.mem_append_right _ (List.mem_singleton.2 rfl)) ht⟩
 ·rintro⟨h1,h2⟩ c hcm ht
  rcases List.mem_append.1 hcm with hcm | hcm
  ·exact h1 c hcm ht
  ·rw[List.mem_singleton] at hcm
   subst hcm
   exact h2 ht
theorem q146z (hc:S.changeC i off b ahead=0):∃c∈(S.change i off b ahead).deps.l,c.num=S.deps.last+1:=⟨⟨S.deps.last+1,i,off,b,ahead ++ S.deps.overs i off b,1⟩,by rw[q123z hc]; exact List.mem_append_right _ (List.mem_singleton.2 rfl),rfl⟩
theorem q58z (h:S.Cl NoP) (hf:S.Fl) (hc:S.changeC i off b ahead=0):(S.change i off b ahead).Cl NoP:=h.change hf.tied hc (fun hp=>hp.elim)
end
