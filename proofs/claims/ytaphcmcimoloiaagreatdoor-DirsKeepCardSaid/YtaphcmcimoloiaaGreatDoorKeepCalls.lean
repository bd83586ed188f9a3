/-
 DirsKeep in memory: the side,the geometry's box,and the list of what must be there.
-/
import Derived.Test.YtaphcmcimoloiaaGreatDoorDirKeepR
import Derived.Deep.Upon
namespace Go.Proofs.YtaphcmcimoloiaaGreatDoor
open Go Go.RowKit Txt Sp
section
variable {P:Program} {w w':World}
theorem wpList_append_run {ops:Array Oper} {rest:List Oper} {o:Oper} {a:Act} {Q:Exit→Act→World→Prop} (hgd:o.guard=none) (s x:Operand) (t:TypeId) (ho:o.op = .call { callee:=.builtin .append,args:=#[s,x],argTypes:=#[t,t] })
 {v u r:Value} (hr:(Builtin.append_ #[t,t] o.type #[v,u]).run P w = .ok r w') (hs:a.eval s=v) (hx:a.eval x=u) (h:wpList P ops Q rest (a.put o.dst r) w'):wpList P ops Q (o :: rest) a w:=by
 refine wpList_plain hgd fun K hK=>?_
 unfold Oper.wp execOp
 simp only[ho,resolve,invoke,builtin,Sem.run_bind,Sem.run_pure,Result.andThen_ok,List.map_toArray,List.map_cons,List.map_nil,hs,hx,hr]
 exact hK _ _ h
theorem step_append_run {ops:Array Oper} {o:Oper} {a:Act} {K:Act→World→Prop} {Q:Exit→Act→World→Prop} {E:Prop} (hgd:o.guard=none) (s x:Operand) (t:TypeId) (ho:o.op = .call { callee:=.builtin .append,args:=#[s,x],argTypes:=#[t,t] })
 {v u r:Value} (hr:(Builtin.append_ #[t,t] o.type #[v,u]).run P w = .ok r w') (hs:a.eval s=v) (hx:a.eval x=u) (h:K (a.put o.dst r) w'):if Region.wanted o (yielded ops a.tmps)=true then Oper.wp P o a w K Q else E:=by
 have hw:Region.wanted o (yielded ops a.tmps)=true:=by simp[Region.wanted,hgd]
 rw[if_pos hw]
 unfold Oper.wp execOp
 simp only[ho,resolve,invoke,builtin,Sem.run_bind,Sem.run_pure,Result.andThen_ok,List.map_toArray,List.map_cons,List.map_nil,hs,hx,hr]
 exact h
end
structure KM (w:World) (B Bd:Nat) (S:Sp.Side) (D:Nat→Prop) (H:List Sp.Entry) (v:Value) (wr:World):Prop where
 dm:DMem w 0 B Bd gKeep S D wr
 has:OwnR 69 2 entC (w.heap.size+1) wr v H
 nD:∀b,v.ownBlock=some b→¬D b
theorem infoEnt:(Tryz.prog.info? 69).map (fun i=>(i.zero,i.size,i.bytes))=some (some (.agg #[.int .i64 0,.string ⟨#[]⟩]),2,24):=by kernel_rfl
theorem entC_one (H:List Sp.Entry):∀u∈H.flatMap entC,u.oneCell' = true:=fun u hu=>by
 obtain⟨x,_,hx⟩:=List.mem_flatMap.1 hu
 simp only[entC,List.mem_cons,List.not_mem_nil,or_false] at hx
 rcases hx with rfl | rfl <;> rfl
theorem entC_len (H:List Sp.Entry):(H.flatMap entC).length=H.length*2:=by
 induction H with
 | nil=>rfl
 | cons x H ih=>rw[List.flatMap_cons,List.length_append,ih,List.length_cons]; show 2+_=_; omega
section
variable {w wr wr':World} {B Bd:Nat} {S S':Sp.Side} {D:Nat→Prop} {H:List Sp.Entry} {v:Value}
theorem DMem.aside {K:Nat→Prop} (h:DMem w 0 B Bd gKeep S D wr) (hT:Turn K wr wr') (hK:∀j,K j→¬D j∧w.heap.size<j):DMem w 0 B Bd gKeep S D wr':=
 ⟨h.side.turn hT (fun k hk hKk=>(hK k hKk).1 hk) (fun _ _=>Nat.zero_le _),fun j hj=>Nat.lt_of_lt_of_le (h.lt j hj) hT.size,h.low,hT.heap h.box (fun hk=>by have:=(hK _ hk).2; omega),h.bel.trans (hT.below (fun j hj=>Nat.le_of_lt (hK j hj).2) h.bel.size)⟩
theorem KM.below (h:KM w B Bd S D H v wr) (hb:Below wr.heap.size wr wr'):KM w B Bd S D H v wr':=⟨h.dm.below hb,h.has.below hb,h.nD⟩
theorem KM.to (h:KM w B Bd S D H v wr) (hs:q15z wr 0 B Bd S' D wr'):KM w B Bd S' (fun j=>D j∨(wr.heap.size≤j∧j<wr'.heap.size)) H v wr':=by
 have hd:=h.dm.to hs
 obtain⟨-,K,hK,hT⟩:=hs
 exact⟨hd,h.has.turn hT (fun k hk hKk=>h.nD k hk (hK k hKk)),fun b hb hh=>hh.elim (h.nD b hb) (fun hh=>by have:=(h.has.lt b hb).2; omega)⟩
theorem KM.own (h:KM w B Bd S D H v wr) (hd:DMem w 0 B Bd gKeep S' D wr') (hT:q14z wr D wr'):KM w B Bd S' D H v wr':=by
 obtain⟨K,hK,hT⟩:=hT
 exact⟨hd,h.has.turn hT (fun k hk hKk=>h.nD k hk (hK k hKk)),h.nD⟩
theorem KM.app (h:KM w B Bd S D H v wr) (hl:H.length≤1000) (x:Sp.Entry) {q:Nat} (hq:wr.heap[q]? = some (.cells #[.int .i64 x.inode,.string x.name] 69 (0,0))) :
 ∃v' w',(Builtin.append_ #[95,95] 95 #[v,.slice (some ⟨q,0,none⟩) 1 1]).run Tryz.prog wr = .ok v' w'∧KM w B Bd S D (H ++ [x]) v' w':=by
 obtain⟨ia,ib,ic,id,ie⟩:=info_parts infoEnt
 have hbs:=h.dm.bel.size
 have hlo:=h.dm.lo
 have hc:∀j u,[Value.int .i64 x.inode,Value.string x.name][j]? = some u→wr.cell? ((⟨q,0,none⟩:Addr).add j)=some u:=fun j u hj=>by
  have hadd:(⟨q,0,none⟩:Addr).add j=⟨q,j,none⟩:=by unfold Addr.add; split <;> simp_all
  rw[hadd]
  refine cellOf hq ?_
  simpa using hj
 obtain⟨v',w',hr,h2,h3,h4,h5⟩:=run_append_own_at (P:=Tryz.prog) (w:=wr) (w.heap.size+1) 95 95 69 ia _ 2 24 Tryz.underlying95 ib ic id ie rfl (by decide) v H.length (H.flatMap entC) h.has ⟨q,0,none⟩ 1 1 [.int .i64 x.inode,.string x.name] rfl hc (by simp[Value.oneCell']) (by unfold maxLen; omega) (by omega) (by omega)
 refine⟨v',w',hr,?_,OwnR.snoc (f:=entC) (x:=x) h2 rfl rfl,fun b hb hd=>?_⟩
 ·refine h.dm.aside (K:=fun j=>v.ownBlock=some j) ⟨h3.os,h3.tape,h3.output,h3.size,fun k hk hne=>h3.block k hk (fun e=>hne e.symm)⟩ (fun j hj=>⟨h.nD j hj,?_⟩)
  have:=(h.has.lt j hj).1
  omega
 ·rcases h5 with h5 | h5
  ·exact h.nD b (h5.symm.trans hb) hd
  ·rw[hb] at h5
   have h5:b=wr.heap.size:=Option.some.inj h5
   have:=h.dm.lt b hd
   omega
theorem KM.set (h:KM w B Bd S D H v wr) {a:Nat} (ha:a<H.length) (x:Sp.Entry) :
 ∃g cap,v = .slice (some ⟨g,0,none⟩) H.length cap∧(∃y,wr.cell? ⟨g,a*2,none⟩=some y)∧(∃y,wr.cell? ⟨g,a*2+1,none⟩=some y)∧(∀k,wr.frozen? ⟨g,k,none⟩=false)∧H.length≤cap ∧
  KM w B Bd S D (H.set a x) v ((wr.setCell ⟨g,a*2,none⟩ (.int .i64 x.inode)).setCell ⟨g,a*2+1,none⟩ (.string x.name)):=by
 have h0:=h.has
 obtain⟨hx,⟨rfl,h1⟩ | ⟨g,cap,cur,rfl,hg,hh,hnc,hm,hcs,ht⟩⟩:=h0
 ·omega
 have s1:=(World.ownsRow.stored h.has (a*2) (.int .i64 x.inode)).1
 have s2:=(World.ownsRow.stored s1 (a*2+1) (.string x.name)).1
 have hfl:((H.flatMap entC).set (a*2) (.int .i64 x.inode)).set (a*2+1) (.string x.name)=(H.set a x).flatMap entC:=by
  have e1:(H.flatMap entC).set (a*2+0) (.int .i64 x.inode)=(H.set a ⟨x.inode,H[a].name⟩).flatMap entC:=flat_set_cell (f:=entC) (k:=2) (fun _ _=>rfl) rfl ha (by decide) rfl
  have e2:((H.set a ⟨x.inode,H[a].name⟩).flatMap entC).set (a*2+1) (.string x.name)=((H.set a ⟨x.inode,H[a].name⟩).set a x).flatMap entC:=flat_set_cell (f:=entC) (k:=2) (fun _ _=>rfl) rfl (by rw[List.length_set]; exact ha) (by decide) (by simp[entC])
  rw[Nat.add_zero] at e1
  rw[e1,e2,List.set_set]
 have t1:=q10z (w:=wr) (b:=g) (k:=a*2) (v:=.int .i64 x.inode)
 have t2:=q10z (w:=wr.setCell ⟨g,a*2,none⟩ (.int .i64 x.inode)) (b:=g) (k:=a*2+1) (v:=.string x.name)
 have hT:Turn (fun j=>j=g) wr ((wr.setCell ⟨g,a*2,none⟩ (.int .i64 x.inode)).setCell ⟨g,a*2+1,none⟩ (.string x.name)):=t1.trans t2 (fun _ _ h=>h) (fun _ _ h=>h)
 refine⟨g,cap,rfl,?_,?_,fun k=>q3z hh,hnc,h.dm.aside hT (fun j e=>?_),?_,h.nD⟩
 ·rw[World.cell?]
  simp[hh,show a*2<cur.size by omega]
 ·rw[World.cell?]
  simp[hh,show a*2+1<cur.size by omega]
 ·have e:j=g:=e
  subst e
  exact⟨h.nD j rfl,by omega⟩
 ·unfold OwnR
  rw[List.length_set,←hfl]
  simpa using s2
theorem KM.out (h:KM w B Bd S D H v wr) (hl:H.length≤1000) {a:Nat} (ha:a<H.length) :
 ∃g cap,v = .slice (some ⟨g,0,none⟩) H.length cap∧H.length≤cap∧cap≤9223372036854775807∧∀W0,Below wr.heap.size wr W0→∃v2 w2,(Builtin.append_ #[95,95] 95 #[.slice (some ⟨W0.heap.size,0,none⟩) 0 0,.slice (some ⟨g,0,none⟩) a cap]).run Tryz.prog (W0.alloc (.cells #[] 69)) = .ok v2 w2 ∧
  ∃v3 w3,(∀ad,(H.length-(a+1)=0∨ad=⟨g,(a+1)*2,none⟩)→(Builtin.append_ #[95,95] 95 #[v2,.slice (some ad) (H.length-(a+1)) (cap-(a+1))]).run Tryz.prog w2 = .ok v3 w3)∧KM w B Bd S D (H.take a ++ H.drop (a+1)) v3 w3:=by
 have h0:=h.has
 obtain⟨hx,⟨rfl,h1⟩ | ⟨g,cap,cur,rfl,hg,hh,hnc,hm,hcs,ht⟩⟩:=h0
 ·omega
 refine⟨g,cap,rfl,hnc,by unfold maxLen at hm; omega,fun W0 hb0=>?_⟩
 obtain⟨ia,ib,ic,id,ie⟩:=info_parts infoEnt
 have hlo:=h.dm.lo
 have hbs:=h.dm.bel.size
 have hb1:Below wr.heap.size wr (W0.alloc (.cells #[] 69)):=bl1 hb0 _
 have hsz0:=hb0.size
 have hh1:=q1z hb1 hh
 have hown0:(W0.alloc (.cells #[] 69)).ownsRow W0.heap.size 69 2 (.slice (some ⟨W0.heap.size,0,none⟩) 0 0) 0 []:=⟨rfl,Or.inr ⟨_,_,#[],rfl,Nat.le_refl _,q2z W0 _,Nat.le_refl _,Nat.zero_le _,rfl,rfl⟩⟩
 have hcell:∀(W:World),W.heap[g]? = some (.cells cur 69 (0,0))→∀j u,(H.flatMap entC)[j]? = some u→W.cell? ⟨g,j,none⟩=some u:=fun W hW j u hj=>by
  refine cellOf hW ?_
  have hlt:=(List.getElem?_eq_some_iff.1 hj).1
  rw[←ht,List.getElem?_take_of_lt (by rw[entC_len] at hlt; exact hlt)] at hj
  simpa using hj
 have htake:∀j u,((H.take a).flatMap entC)[j]? = some u→(W0.alloc (.cells #[] 69)).cell? ((⟨g,0,none⟩:Addr).add j)=some u:=fun j u hj=>by
  have hadd:(⟨g,0,none⟩:Addr).add j=⟨g,j,none⟩:=by unfold Addr.add; split <;> simp_all
  rw[hadd]
  refine hcell _ hh1 j u ?_
  have e:H.flatMap entC=(H.take a).flatMap entC ++ (H.drop a).flatMap entC:=by rw[←List.flatMap_append,List.take_append_drop]
  rw[e,List.getElem?_append_left (List.getElem?_eq_some_iff.1 hj).1]
  exact hj
 obtain⟨g2,cap2,w2,hr2,ho2,hg2,ha2⟩:=run_append_src (P:=Tryz.prog) (W0.alloc (.cells #[] 69)) 95 95 W0.heap.size 69 ia _ 2 24 Tryz.underlying95 ib ic id ie rfl (by decide) W0.heap.size 0 0 [] hown0 (some ⟨g,0,none⟩) a cap (fun e=>by cases e) ((H.take a).flatMap entC) (by rw[entC_len,List.length_take]; omega) (fun ad e=>by cases e; exact htake) (entC_one _) (by unfold maxLen; omega) (by omega) (by simp)
 rw[Nat.zero_add,List.nil_append] at ho2
 rw[Nat.zero_add] at hr2
 have hgne:g≠W0.heap.size:=fun e=>by have:=(Array.getElem?_eq_some_iff.1 hh).1; omega
 have hb2:Below W0.heap.size W0 w2:=Below.grown (bl2 _) hg2 (by simp) (fun k hk=>by cases hk; exact Nat.le_refl _)
 have hh2:w2.heap[g]? = some (.cells cur 69 (0,0)):=q1z (blN hb0 hb2) hh
 have hdrop:∀j u,((H.drop (a+1)).flatMap entC)[j]? = some u→w2.cell? ⟨g,(a+1)*2+j,none⟩=some u:=fun j u hj=>by
  refine hcell w2 hh2 _ u ?_
  have e:H.flatMap entC=(H.take (a+1)).flatMap entC ++ (H.drop (a+1)).flatMap entC:=by rw[←List.flatMap_append,List.take_append_drop]
  have hlt:((H.take (a+1)).flatMap entC).length=(a+1)*2:=by rw[entC_len,List.length_take]; omega
  rw[e,List.getElem?_append_right (by omega),hlt,show(a+1)*2+j-(a+1)*2=j by omega]
  exact hj
 have hdl:((H.drop (a+1)).flatMap entC).length=(H.length-(a+1))*2:=by rw[entC_len,List.length_drop]
 have hbase2:W0.heap.size≤w2.heap.size:=hb2.size
 have hnewsOf:∀ad:Addr,(H.length-(a+1)=0∨ad=⟨g,(a+1)*2,none⟩)→∀j u,((H.drop (a+1)).flatMap entC)[j]? = some u→w2.cell? (ad.add j)=some u:=fun ad had j u hj=>by
  rcases had with h0 | rfl
  ·have hlt:=(List.getElem?_eq_some_iff.1 hj).1
   rw[hdl,h0] at hlt
   omega
  ·have hadd:(⟨g,(a+1)*2,none⟩:Addr).add j=⟨g,(a+1)*2+j,none⟩:=by unfold Addr.add; split <;> simp_all
   rw[hadd]
   exact hdrop j u hj
 have hrun:=fun(ad:Addr) (had:H.length-(a+1)=0∨ad=⟨g,(a+1)*2,none⟩)=>run_append_src (P:=Tryz.prog) w2 95 95 W0.heap.size 69 ia _ 2 24 Tryz.underlying95 ib ic id ie rfl (by decide) g2 a cap2 ((H.take a).flatMap entC) ho2 (some ad) (H.length-(a+1)) (cap-(a+1)) (fun e=>by cases e) ((H.drop (a+1)).flatMap entC) hdl (fun ad' e=>by cases e; exact hnewsOf ad had) (entC_one _) (by unfold maxLen; omega) (by omega) hbase2
 refine⟨_,w2,hr2,?_⟩
 obtain⟨g3,cap3,w3,hr3,ho3,hg3,ha3⟩:=hrun ⟨g,(a+1)*2,none⟩ (Or.inr rfl)
 refine⟨.slice (some ⟨g3,0,none⟩) (a+(H.length-(a+1))) cap3,w3,fun ad had=>?_,?_⟩
 ·rcases had with h0 | rfl
  ·-- nothing is appended: what comes out is the same
   have hnil:(H.drop (a+1)).flatMap entC=[]:=List.eq_nil_of_length_eq_zero (by rw[hdl,h0])
   have e:∀ad ad':Addr,(Builtin.append_ #[95,95] 95 #[.slice (some ⟨g2,0,none⟩) a cap2,.slice (some ad) (H.length-(a+1)) (cap-(a+1))]).run Tryz.prog w2=(Builtin.append_ #[95,95] 95 #[.slice (some ⟨g2,0,none⟩) a cap2,.slice (some ad') (H.length-(a+1)) (cap-(a+1))]).run Tryz.prog w2:=fun ad ad'=>by
    rw[h0]
    have hle:a≤cap2:=by
     obtain⟨_,⟨e,_⟩ | ⟨g',cap',cur',e,_,_,hnc',_⟩⟩:=ho2
     ·cases e
     ·cases e; exact hnc'
    have hsrc:∀ad:Addr,Src Tryz.prog ia.size 95 (.slice (some ad) 0 (cap-(a+1))) 0 [] w2:=fun ad=>Src.ofSlice (P:=Tryz.prog) w2 Tryz.underlying95 ad 0 _ [] (by simp) (fun j u hj=>by simp at hj) (by simp)
    rw[run_append_nothing (P:=Tryz.prog) w2 95 95 95 69 ia Tryz.underlying95 ib (some ⟨g2,0,none⟩) a cap2 hle _ (hsrc ad),run_append_nothing (P:=Tryz.prog) w2 95 95 95 69 ia Tryz.underlying95 ib (some ⟨g2,0,none⟩) a cap2 hle _ (hsrc ad')]
   exact(e ad ⟨g,(a+1)*2,none⟩).trans hr3
  ·exact hr3
 ·have hb3:Below W0.heap.size W0 w3:=Below.grown hb2 hg3 hbase2 (fun k hk=>by
   cases hk
   rcases ha2 with rfl | rfl
   ·exact Nat.le_refl _
   ·simp)
  have hl2:(H.take a ++ H.drop (a+1)).length=a+(H.length-(a+1)):=by rw[List.length_append,List.length_take,List.length_drop]; omega
  have hrow0:OwnR 69 2 entC W0.heap.size w3 (.slice (some ⟨g3,0,none⟩) (a+(H.length-(a+1))) cap3) (H.take a ++ H.drop (a+1)):=by
   unfold OwnR
   rw[hl2,List.flatMap_append]
   exact ho3
  have hrow:OwnR 69 2 entC (w.heap.size+1) w3 (.slice (some ⟨g3,0,none⟩) (a+(H.length-(a+1))) cap3) (H.take a ++ H.drop (a+1)):=by
   obtain⟨p1,p2⟩:=hrow0
   refine⟨p1,p2.imp_right (fun⟨g',c',cur',e,hb,r⟩=>⟨g',c',cur',e,by omega,r⟩)⟩
  refine⟨h.dm.below (blN hb0 hb3),hrow,fun b hb hd=>?_⟩
  have:=(OwnR.lt (f:=entC) hrow0 b hb).1
  have:=h.dm.lt b hd
  omega
end
section
variable {w wr:World} {B Bd:Nat} {S:Sp.Side} {D:Nat→Prop} {H:List Sp.Entry} {v:Value} {k:Nat}
theorem km_add (h:KM w B Bd S D H v wr) (hm:MaxOk w) (hI:KeepI S k H) (hk:k<30) (i:Int) (n:ByteArray) (hn:n.size≤maxLen) (vk:Value) (hv:∀W,Turn D wr W→Ints W vk [0]) :
 Calls Tryz.prog 36 #[pt B,gV gKeep,.int .i64 1,.agg #[.int .i64 i,.string n],vk,.slice none 0 0] wr fun e w'=>∃u c,e = .returned (.tuple #[u,.int .i64 c])∧∃S' D',KM w B Bd S' D' H v w'∧S'.disk=S.disk∧(∀(q:Nat) (o:Obj),wr.heap[q]? = some o→¬D q→w'.heap[q]? = some o∧¬D' q) ∧
  ((c=70∧¬((⟨i,n⟩:Sp.Entry).may∧i≠0)∧KeepI S' k H)∨(c=101∧n∈H.map Sp.Entry.name∧KeepI S' k H)∨(c=0∧n∉H.map Sp.Entry.name∧KeepI S' (k+1) (H ++ [⟨i,n⟩]))):=by
 refine(keep_add h.dm hm hI hk ⟨i,n⟩ hn vk hv).mono ?_
 rintro e w' ⟨u,c,rfl,S',hs,hd,hr⟩
 exact⟨u,c,rfl,S',_,h.to hs,hd,fun q o ho hq=>⟨hs.heap ho hq,fun hh=>hh.elim hq (fun hh=>by have:=(Array.getElem?_eq_some_iff.1 ho).1; omega)⟩,hr⟩
theorem km_remove (h:KM w B Bd S D H v wr) (hm:MaxOk w) (hI:KeepI S k H) (hk:k<30) (n:ByteArray) (hn:n.size≤maxLen) (hnb:nameB n=true) :
 Calls Tryz.prog 35 #[pt B,gV gKeep,.int .i64 1,.string n,.slice none 0 0] wr fun e w'=>∃a c,e = .returned (.tuple #[.int .i64 a,.int .i64 c])∧∃S' D',KM w B Bd S' D' H v w'∧S'.disk=S.disk ∧
  ((c=100∧n∉H.map Sp.Entry.name∧KeepI S' k H)∨(c=0∧n∈H.map Sp.Entry.name∧∀H1 y H2,H=H1 ++ y :: H2→y.name=n→KeepI S' (k+1) (H1 ++ H2))):=by
 refine(keep_remove h.dm hm hI hk n hn hnb).mono ?_
 rintro e w' ⟨a,c,rfl,S',hs,hd,hr⟩
 exact⟨a,c,rfl,S',_,h.to hs,hd,hr⟩
theorem km_set (h:KM w B Bd S D H v wr) (hm:MaxOk w) (hI:KeepI S k H) (hk:k<30) {a:Nat} {y:Sp.Entry} (ha:H[a]? = some y) (i:Int) (n:ByteArray) (hyn:y.name=n) (hn:n.size≤maxLen) (hi:1≤i∧i≤65535) :
 Calls Tryz.prog 50 #[pt B,gV gKeep,.int .i64 1,.string n,.int .i64 i,.slice none 0 0] wr fun e w'=>∃c,e = .returned (.tuple #[.int .i64 c,.int .i64 0])∧∃S' D',KM w B Bd S' D' H v w'∧S'.disk=S.disk∧(∀(q:Nat) (o:Obj),wr.heap[q]? = some o→¬D q→w'.heap[q]? = some o∧¬D' q)∧KeepI S' (k+1) (H.set a ⟨i,n⟩):=by
 have hlt:=(List.getElem?_eq_some_iff.1 ha).1
 have hH:H=H.take a ++ y :: H.drop (a+1):=by
  have h1:=List.take_append_drop a H
  rw[List.drop_eq_getElem_cons hlt,(List.getElem?_eq_some_iff.1 ha).2] at h1
  exact h1.symm
 have hs:H.set a ⟨i,n⟩=H.take a ++ (⟨i,n⟩:Sp.Entry) :: H.drop (a+1):=by rw[List.set_eq_take_append_cons_drop,if_pos hlt]
 refine(keep_set h.dm hm hI hk hH ⟨i,n⟩ hyn.symm hn hi).mono ?_
 rintro e w' ⟨c,rfl,S',hs',hd,hr⟩
 exact⟨c,rfl,S',_,h.to hs',hd,fun q o ho hq=>⟨hs'.heap ho hq,fun hh=>hh.elim hq (fun hh=>by have:=(Array.getElem?_eq_some_iff.1 ho).1; omega)⟩,by rw[hs]; exact hr⟩
theorem km_flush (h:KM w B Bd S D H v wr) (hI:KeepI S k H) (hl:S.disk.last≤300000) (u:Value) (P:List Int) (hp:Ints w u P) :
 Calls Tryz.prog 51 #[pt Bd,pt B,u] wr fun e w'=>e = .returned (.bool true)∧∃S',KM w B Bd S' D H v w'∧KeepI S' k H∧S'.disk.last≤S.disk.last+1024∧(P=[]→S.deps.l≠[]→S'.deps.l.length<S.deps.l.length):=by
 refine(h.dm.flush hI.fl (by omega) u P hp).mono ?_
 rintro e w' ⟨rfl,hd,hT⟩
 refine⟨rfl,_,h.own hd hT,hI.flush _,flush_last hI.fl _,fun hP h0=>?_⟩
 subst hP
 exact flush_less hI.fl h0
theorem km_names (h:KM w B Bd S D H v wr) (hm:MaxOk w) (hI:KeepI S k H) :
 Calls Tryz.prog 52 #[pt B,gV gKeep,v] wr fun e w'=>e = .returned (.bool true)∧KM w B Bd S D H v w':=by
 have hn:=hI.name
 obtain⟨F,Y,r,q,hd,-⟩:=hI
 refine(names17_any h.dm.side hd.d (by decide) (by decide) (h.dm.max hm) hd.perm (fun x hx=>(hn x hx).1) v (OwnR.row (f:=entC) (fun _ _=>rfl) h.has)).mono ?_
 rintro e w' ⟨rfl,hb⟩
 exact⟨rfl,h.below hb⟩
theorem km_raw (h:KM w B Bd S D H v wr) (hm:MaxOk w) (hI:KeepI S k H) :
 Calls Tryz.prog 43 #[pt Bd,.int .i64 1,.int .i64 0] wr fun e w'=>∃B',e = .returned (.tuple #[pt B',.int .i64 0])∧KM w B Bd S D H v w' ∧
  (Calls Tryz.prog 37 #[pt B',gV gKeep,.int .i64 1] w' fun e w2=>∃u,e = .returned (.tuple #[u,.int .i64 0])∧KM w B Bd S D H v w2) ∧
  (S.deps.l=[]→∀W,Below w'.heap.size w' W→Calls Tryz.prog 52 #[pt B',gV gKeep,v] W fun e w2=>e = .returned (.bool true)∧Below W.heap.size W w2):=by
 refine h.dm.raw.mono ?_
 rintro e w' ⟨B',D',rfl,hd',hb⟩
 have h':=h.below hb
 refine⟨B',rfl,h',?_,fun h0 W hW=>?_⟩
 ·refine(keep_rawNames hd'.side (hd'.max hm) hI).mono ?_
  rintro e w2 ⟨u,rfl,hb2⟩
  exact⟨u,rfl,h'.below hb2⟩
 ·have hn:=hI.name
  obtain⟨F,Y,r,q,hd,hp⟩:=hI.rawDir h0
  exact names17_any (hd'.side.below hW) hd (by decide) (by decide) ((hd'.max hm).below hW) hp (fun x hx=>(hn x hx).1) v (OwnR.row (f:=entC) (fun _ _=>rfl) (h'.below hW).has)
theorem km_left (h:KM w B Bd S D H v wr):∃Bc,wr.cell? ⟨B,0,none⟩=some (.pointer (some ⟨Bc,0,none⟩))∧Calls Tryz.prog 53 #[pt Bc,.slice none 0 0] wr fun e w'=>e = .returned (.int .i64 (S.deps.l.length:Int))∧w' = wr:=by
 obtain⟨Bc,fm,Dd,hs⟩:=h.dm.side.parts
 exact⟨Bc,cellOf (k:=0) hs.obj rfl,depsLeft_nil hs.deps none 0⟩
end
end Go.Proofs.YtaphcmcimoloiaaGreatDoor
