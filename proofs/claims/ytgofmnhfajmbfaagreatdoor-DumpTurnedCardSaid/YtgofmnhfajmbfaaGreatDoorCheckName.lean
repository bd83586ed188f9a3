import Derived.Test.YtgofmnhfajmbfaaGreatDoorCheckMem
namespace Go.Proofs.YtgofmnhfajmbfaaGreatDoor
open Go Go.RowKit Txt Sp
def q107z (a b:Int×NmE):Prop:=∀k,a.2.1.ownBlock=some k→b.2.1.ownBlock≠some k
theorem apartN_symm {a b:Int×NmE} (h:q107z a b):q107z b a:=fun k hk e=>h k e hk
theorem pairwise_set {lv:List (Int×NmE)} (hn:(lv.map (·.1)).Nodup) (h:lv.Pairwise q107z) {x:Int} {v2:Value} {l2:List Int} (ho:∀e∈lv,e.1≠x→∀k,e.2.1.ownBlock=some k→v2.ownBlock≠some k) :
 (IM.setM lv x (v2,l2)).Pairwise q107z:=by
 unfold IM.setM
 split
 ·rw[List.pairwise_map]
  have hk:lv.Pairwise (fun a b=>a.1≠b.1):=List.pairwise_map.1 hn
  refine(h.and hk).imp_of_mem ?_
  rintro a b ha hb ⟨hab,hne⟩
  by_cases e1:a.1=x
  ·have e2:b.1≠x:=fun e=>hne (e1.trans e.symm)
   rw[if_pos e1,if_neg e2]
   exact apartN_symm (fun k hk=>ho b hb e2 k hk)
  ·rw[if_neg e1]
   by_cases e2:b.1=x
   ·rw[if_pos e2]
    exact fun k hk=>ho a ha e1 k hk
   ·rw[if_neg e2]
    exact hab
 ·rename_i hs
  rw[List.pairwise_append]
  refine⟨h,List.pairwise_singleton _ _,fun a ha b hb=>?_⟩
  have hb:b=(x,(v2,l2)):=by simpa using hb
  subst hb
  refine fun k hk=>ho a ha (fun e=>hs ?_) k hk
  obtain⟨j,hj⟩:=List.getElem?_of_mem ha
  have:=IM.getM_at hn hj
  rw[e] at this
  rw[this]
  rfl
theorem mem_setM {α:Type} {l:List (Int×α)} {x:Int} {b:α} {e:Int×α} (h:e∈IM.setM l x b):e=(x,b)∨(e∈l∧e.1≠x)∨(e∈l∧IM.getM l x=none):=by
 unfold IM.setM at h
 split at h
 ·obtain⟨y,hy,rfl⟩:=List.mem_map.1 h
  by_cases e:y.1=x
  ·rw[if_pos e]; exact Or.inl rfl
  ·rw[if_neg e]; exact Or.inr (Or.inl ⟨hy,e⟩)
 ·rename_i hs
  rcases List.mem_append.1 h with h | h
  ·refine Or.inr (Or.inr ⟨h,?_⟩)
   cases hg:IM.getM l x with
   | none=>rfl
   | some c=>rw[hg] at hs; exact absurd rfl hs
  ·exact Or.inl (by simpa using h)
section
variable {w w':World} {base B mn:Nat} {g:Sp.Geom} {vs:Value} {m:LookP} {t t':Sp.Look} {D:Nat→Prop}
theorem LookAt.naming (h:LookAt w base B g vs m t D) (x i:Int):∃v,(∀W,Turn (fun j=>v.ownBlock=some j) w W→(Instr.lookup 139 (.map (some m.names)) (.int .i64 x) false).run Tryz.prog W = .ok v W)∧OwnR 3 1 intC base w v (t.namesOf x)∧(∀k,v.ownBlock=some k→D k) ∧
 ∀W w2 v2,Below w.heap.size w W→W.grownBy w2 v.ownBlock→OwnR 3 1 intC base w2 v2 (t.namesOf x ++ [i])→(∀k,v2.ownBlock=some k→(v.ownBlock=some k∨W.heap.size≤k)∧k<w2.heap.size) →
  ∃w',(Instr.mapUpdate 139 (.map (some m.names)) (.int .i64 x) v2).run Tryz.prog w2 = .ok () w'∧q8z w base B g vs m (t.name x i) D w' (fun j=>D j∨v2.ownBlock=some j):=by
 obtain⟨lv,h1,h2,h3,h4⟩:=h.names
 have hnod:=h2.nodup
 have hrow:∃v,(∀W,IM.MapAt (fun e:NmE=>e.1) W m.names lv→(Instr.lookup 139 (.map (some m.names)) (.int .i64 x) false).run Tryz.prog W = .ok v W)∧OwnR 3 1 intC base w v (t.namesOf x)∧(∀k,v.ownBlock=some k→D k)∧(∀e∈lv,e.1≠x→∀k,e.2.1.ownBlock=some k→v.ownBlock≠some k):=by
  have hr:=fun W (hW:IM.MapAt (fun e:NmE=>e.1) W m.names lv)=>IM.run_lookup (P:=Tryz.prog) Tryz.underlying139 Tryz.underlying3 (z:=.slice none 0 0) (by kernel_rfl) hW x
  unfold Look.namesOf
  rw[getM_rows h1 x]
  cases hx:IM.getM lv x with
  | none=>
    rw[hx] at hr
    refine⟨.slice none 0 0,hr,OwnR.void base w,fun k hk=>(by cases hk),fun e _ _ k _ hk=>(by cases hk)⟩
  | some e0=>
    rw[hx] at hr
    have hm:=Sp.getM_mem hx
    refine⟨e0.1,hr,(h3 _ hm).1,(h3 _ hm).2,fun e he ex k hk hk2=>?_⟩
    have hne:e≠(x,e0):=fun e1=>ex (by rw[e1])
    have hp:∀a∈lv,∀b∈lv,a≠b→q107z a b:=by
     have h4':lv.Pairwise q107z:=h4
     have:=List.Pairwise.forall_of_forall_of_flip (R:=fun a b=>a≠b→q107z a b) (l:=lv) (fun a _ hn=>absurd rfl hn) (h4'.imp (S:=fun a b=>a≠b→q107z a b) (fun hab _=>hab)) (h4'.imp (S:=flip fun a b=>a≠b→q107z a b) (fun hab _=>apartN_symm hab))
     exact fun a ha b hb=>this ha hb
    exact hp e he (x,e0) hm hne k hk hk2
 obtain⟨v,hlk,hv,hvD,hvo⟩:=hrow
 have hvc:∀k,v.ownBlock=some k→∃cs,w.heap[k]? = some (.cells cs 3 (0,0)):=fun k hk=>by
  obtain⟨_,⟨e0,_⟩ | ⟨gb,cap,cur,e0,_,hh,_⟩⟩:=hv
  ·rw[e0] at hk; cases hk
  ·rw[e0] at hk; cases hk; exact⟨_,hh⟩
 have hmap:∀k es clock,w.heap[k]? = some (.map es clock)→¬v.ownBlock=some k:=fun k es clock hk e=>by
  obtain⟨cs,hcs⟩:=hvc k e
  rw[hk] at hcs
  cases hcs
 refine⟨v,fun W hT=>hlk W (q21z h2 hT (by
  obtain⟨o,ho,es,clock,rfl,_⟩:=h2
  exact hmap _ _ _ ho)),hv,hvD,fun W w2 v2 hb hg hr hat=>?_⟩
 have hT1:Turn (fun j=>v.ownBlock=some j) W w2:=⟨hg.os,hg.tape,hg.output,hg.size,fun k hk hne=>hg.block k hk (fun e=>hne e.symm)⟩
 have hT:Turn (fun j=>v.ownBlock=some j) w w2:=(Turn.of_below (K:=fun _=>False) hb).trans hT1 (fun _ _ h=>h.elim) (fun _ _ h=>h)
 have hmapM:∀{α:Type} {enc:α→Value} {k:Nat} {l:List (Int×α)},IM.MapAt enc w k l→IM.MapAt enc w2 k l:=fun hm=>q21z hm hT (by
  obtain⟨o,ho,es,clock,rfl,_⟩:=hm
  exact hmap _ _ _ ho)
 have hB:¬v.ownBlock=some B:=fun e=>h.notB (hvD _ e)
 have n2:=hmapM h2
 obtain⟨o',hrun,ho'⟩:=IM.run_update (P:=Tryz.prog) (enc:=fun e:NmE=>e.1) Tryz.underlying139 Tryz.underlying3 n2 x (v2,t.namesOf x ++ [i])
 refine⟨_,hrun,?_,?_,?_⟩
 ·have hS:=q42z w2 m.names o'
  obtain⟨a1,a2,a3,a4⟩:m.nodes≠m.names∧m.inn≠m.names∧m.named≠m.names∧m.found≠m.names:=by have:=h.apart; simp at this; omega
  have hz:w.heap.size≤w2.heap.size:=hT.size
  have hzW:=hb.size
  have hlt:=n2.lt
  have hfound:q59z w2 m.found t.found:=h.found.turn hT (by obtain⟨o,ho,es,clock,rfl,_⟩:=h.found; exact hmap _ _ _ ho)
  obtain⟨on,hon,esn,ckn,rfl,_⟩:=n2
  have hcell:∀{u:Value} {l:List Int},OwnR 3 1 intC base w2 u l→OwnR 3 1 intC base (ChangeMaps.setBlock w2 m.names o') u l:=fun hu=>hu.turn hS (fun j hj ej=>by
   obtain⟨_,⟨e0,_⟩ | ⟨gb,cap,cur,e0,_,hh,_⟩⟩:=hu
   ·rw[e0] at hj; cases hj
   ·rw[e0] at hj; cases hj; rw[show gb=m.names from ej,hon] at hh; cases hh)
  have hold:∀e∈lv,e.1≠x→OwnR 3 1 intC base w2 e.2.1 e.2.2:=fun e he ex=>(h3 e he).1.turn hT (fun k hk e2=>hvo e he ex k hk e2)
  have hbase:=h.low.1
  have hBlt:=h.ltB
  refine⟨hS.heap (hT.heap h.box hB) (fun e=>h.notB (by rw[show B=m.names from e]; exact h.own.2.2.1)),q21z (hmapM h.nodes) hS a1,q21z (hmapM h.inn) hS a2,⟨IM.setM lv x (v2,t.namesOf x ++ [i]),?_,⟨o',IM.heap_setBlock_at hlt,ho'⟩,?_,?_⟩,q21z (hmapM h.named) hS a3,hfound.turn hS a4,?_,?_,⟨h.low.1,?_⟩,h.apart⟩
  ·exact setM_rows h1 x _
  ·intro e he
   rcases mem_setM he with rfl | ⟨he,ex⟩ | ⟨he,hno⟩
   ·exact⟨hcell hr,fun k hk=>Or.inr hk⟩
   ·exact⟨hcell (hold e he ex),fun k hk=>Or.inl ((h3 e he).2 k hk)⟩
   ·have ex:e.1≠x:=fun ex=>by
     obtain⟨j,hj⟩:=List.getElem?_of_mem he
     have:=IM.getM_at hnod hj
     rw[ex,hno] at this
     cases this
    exact⟨hcell (hold e he ex),fun k hk=>Or.inl ((h3 e he).2 k hk)⟩
  ·refine pairwise_set hnod h4 (fun e he ex k hk e2=>?_)
   rcases(hat k e2).1 with h5 | h5
   ·exact hvo e he ex k hk h5
   ·have:=(h.low.2 k ((h3 e he).2 k hk)).2
    omega
  ·obtain⟨o1,o2,o3,o4,o5⟩:=h.own
   exact⟨Or.inl o1,Or.inl o2,Or.inl o3,Or.inl o4,Or.inl o5⟩
  ·rintro(hd | hd)
   ·exact h.notB hd
   ·have h5:=hT.heap h.box hB
    obtain⟨_,⟨e0,_⟩ | ⟨gb,cap,cur,e0,_,hh,_⟩⟩:=hr
    ·rw[e0] at hd; cases hd
    ·rw[e0] at hd
     cases hd
     rw[h5] at hh
     cases hh
  ·rintro j (hj | hj)
   ·rw[IM.size_setBlock]
    have:=h.low.2 j hj
    omega
   ·rw[IM.size_setBlock]
    exact hr.lt j hj
 ·rintro j (hj | hj)
  ·exact Or.inl hj
  ·have hzW:=hb.size
   obtain⟨hk1,hk2⟩:=hat j hj
   rcases hk1 with hk1 | hk1
   ·exact Or.inl (hvD j hk1)
   ·exact Or.inr ⟨by omega,by rw[IM.size_setBlock]; exact hk2⟩
 ·refine(hT.mono (K':=D) (fun k _ hk=>hvD k hk)).trans (K:=D) (q42z w2 m.names o') (fun _ _ h=>h) (fun k _ hk=>?_)
  rw[show k=m.names from hk]
  exact h.own.2.2.1
end
