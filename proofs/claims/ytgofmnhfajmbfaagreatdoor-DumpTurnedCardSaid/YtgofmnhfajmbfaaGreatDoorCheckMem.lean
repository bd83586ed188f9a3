import Derived.Test.YtgofmnhfajmbfaaGreatDoorSpCheckI
import Derived.Test.YtgofmnhfajmbfaaGreatDoorDefMap
namespace Go.Proofs.YtgofmnhfajmbfaaGreatDoor
open Go Go.RowKit Txt Sp
def nodeV (n:Sp.Inode):Value:=.agg (nA n)
/-- Where its maps lie. -/
structure LookP where
 nodes:Nat
 inn:Nat
 names:Nat
 named:Nat
 found:Nat
def lookA (g:Sp.Geom) (vs:Value) (m:LookP):Array Value:=#[.int .i64 g.groups,.int .i64 g.inodes,.int .i64 g.blocks,vs,.map (some m.nodes),.map (some m.inn),.map (some m.names),.map (some m.named),.map (some m.found)]
def lookO (g:Sp.Geom) (vs:Value) (m:LookP):Obj:=.cells (lookA g vs m) 141 (0,0)
abbrev NmE:=Value×List Int
def q122z (w:World) (base:Nat) (mn:Nat) (l:List (Int×List Int)) (D:Nat→Prop):Prop:=
 ∃lv:List (Int×NmE),lv.map (fun e=>(e.1,e.2.2))=l∧IM.MapAt (fun e:NmE=>e.1) w mn lv∧(∀e∈lv,OwnR 3 1 intC base w e.2.1 e.2.2∧∀k,e.2.1.ownBlock=some k→D k) ∧
  lv.Pairwise (fun a b=>∀k,a.2.1.ownBlock=some k→b.2.1.ownBlock≠some k)
structure LookAt (w:World) (base B:Nat) (g:Sp.Geom) (vs:Value) (m:LookP) (t:Sp.Look) (D:Nat→Prop):Prop where
 box:w.heap[B]? = some (lookO g vs m)
 nodes:IM.MapAt nodeV w m.nodes t.nodes
 inn:IM.MapAt Value.bool w m.inn t.inn
 names:q122z w base m.names t.names D
 named:IM.MapAt intV w m.named t.named
 found:q59z w m.found t.found
 own:D m.nodes∧D m.inn∧D m.names∧D m.named∧D m.found
 notB:¬D B
 low:base≤B∧∀j,D j→base≤j∧j<w.heap.size
 apart:[m.nodes,m.inn,m.names,m.named,m.found].Nodup
def q8z (w:World) (base B:Nat) (g:Sp.Geom) (vs:Value) (m:LookP) (t:Sp.Look) (D:Nat→Prop) (w':World) (D':Nat→Prop):Prop:=
 LookAt w' base B g vs m t D'∧(∀j,D' j→D j∨(w.heap.size≤j∧j<w'.heap.size))∧Turn D w w'
section
variable {w w1 w':World} {base B mn:Nat} {g:Sp.Geom} {vs:Value} {m:LookP} {t t':Sp.Look} {D D' K:Nat→Prop} {l:List (Int×List Int)}
theorem q122z.turn (h:q122z w base mn l D) (hT:Turn K w w') (hK:∀j,D j→¬K j) (hm:¬K mn):q122z w' base mn l D:=by
 obtain⟨lv,h1,⟨o,h2,h2'⟩,h3,h4⟩:=h
 exact⟨lv,h1,⟨o,hT.heap h2 hm,h2'⟩,fun e he=>⟨(h3 e he).1.turn hT (fun k hk=>hK k ((h3 e he).2 k hk)),(h3 e he).2⟩,h4⟩
theorem q21z {α:Type} {enc:α→Value} {k:Nat} {l:List (Int×α)} (h:IM.MapAt enc w k l) (hT:Turn K w w') (hk:¬K k):IM.MapAt enc w' k l:=by
 obtain⟨o,h2,h2'⟩:=h
 exact⟨o,hT.heap h2 hk,h2'⟩
theorem q59z.turn {k:Nat} {l:List (Int×Int)} (h:q59z w k l) (hT:Turn K w w') (hk:¬K k):q59z w' k l:=by
 obtain⟨o,h2,h2'⟩:=h
 exact⟨o,hT.heap h2 hk,h2'⟩
theorem LookAt.turn (h:LookAt w base B g vs m t D) (hT:Turn K w w') (hK:∀j,D j→¬K j) (hB:¬K B):LookAt w' base B g vs m t D:=by
 obtain⟨o1,o2,o3,o4,o5⟩:=h.own
 exact⟨hT.heap h.box hB,q21z h.nodes hT (hK _ o1),q21z h.inn hT (hK _ o2),h.names.turn hT hK (hK _ o3),q21z h.named hT (hK _ o4),h.found.turn hT (hK _ o5),h.own,h.notB,
  ⟨h.low.1,fun j hj=>⟨(h.low.2 j hj).1,Nat.lt_of_lt_of_le (h.low.2 j hj).2 hT.size⟩⟩,h.apart⟩
theorem LookAt.below (h:LookAt w base B g vs m t D) (hb:Below w.heap.size w w'):LookAt w' base B g vs m t D:=h.turn (K:=fun _=>False) (Turn.of_below hb) (fun _ _ h=>h) (fun h=>h)
theorem LookAt.ltB (h:LookAt w base B g vs m t D):B<w.heap.size:=(Array.getElem?_eq_some_iff.1 h.box).1
theorem LookAt.le (h:LookAt w base B g vs m t D):base≤w.heap.size:=by have:=h.low.1; have:=h.ltB; omega
theorem q8z.none (h:LookAt w base B g vs m t D) (hb:Below w.heap.size w w'):q8z w base B g vs m t D w' D:=⟨h.below hb,fun _ h=>Or.inl h,Turn.of_below hb⟩
theorem q8z.ahead (hb:Below w.heap.size w w1) (h:q8z w1 base B g vs m t D w' D'):q8z w base B g vs m t D w' D':=by
 obtain⟨h1,h2,hT⟩:=h
 have hz:=hb.size
 exact⟨h1,fun j hj=>(h2 j hj).imp_right (fun h=>⟨by omega,h.2⟩),(Turn.of_below (K:=D) hb).trans hT (fun _ _ h=>h) (fun _ _ h=>h)⟩
theorem q8z.behind (h:q8z w base B g vs m t D w1 D') (hb:Below w1.heap.size w1 w'):q8z w base B g vs m t D w' D':=by
 obtain⟨h1,h2,hT⟩:=h
 have hz:=hb.size
 exact⟨h1.below hb,fun j hj=>(h2 j hj).imp_right (fun h=>⟨h.1,by omega⟩),hT.trans (Turn.of_below (K:=D) hb) (fun _ _ h=>h) (fun _ _ h=>h)⟩
theorem q8z.trans {D2:Nat→Prop} (h:q8z w base B g vs m t D w1 D') (k:q8z w1 base B g vs m t' D' w' D2):q8z w base B g vs m t' D w' D2:=by
 obtain⟨_,h2,hT⟩:=h
 obtain⟨k1,k2,kT⟩:=k
 have hz:=hT.size
 have hz2:=kT.size
 refine⟨k1,fun j hj=>?_,hT.trans kT (fun _ _ h=>h) (fun j hj h=>(h2 j h).elim id (fun h=>by omega))⟩
 rcases k2 j hj with hj | hj
 ·exact(h2 j hj).imp_right (fun h=>⟨h.1,by omega⟩)
 ·exact Or.inr ⟨by omega,hj.2⟩
theorem q8z.size (h:q8z w base B g vs m t D w' D'):w.heap.size≤w'.heap.size:=h.2.2.size
theorem q8z.heap (h:q8z w base B g vs m t D w' D') {k:Nat} {o:Obj} (ho:w.heap[k]? = some o) (hk:¬D k):w'.heap[k]? = some o:=h.2.2.heap ho hk
theorem q8z.row {α:Type} {e:TypeId} {size n:Nat} {f:α→List Value} {v:Value} {l:List α} (h:q8z w base B g vs m t D w' D') (hr:OwnR e size f n w v l) (hd:∀k,v.ownBlock=some k→¬D k):OwnR e size f n w' v l∧∀k,v.ownBlock=some k→¬D' k:=
 ⟨hr.turn h.2.2 hd,fun k hk hk'=>(h.2.1 k hk').elim (hd k hk) (fun h2=>by have:=(hr.lt k hk).2; omega)⟩
theorem q42z (w:World) (k:Nat) (o:Obj):Turn (fun j=>j=k) w (ChangeMaps.setBlock w k o):=
 ⟨rfl,rfl,rfl,by rw[IM.size_setBlock]; exact Nat.le_refl _,fun j _ hj=>IM.heap_setBlock_ne hj⟩
theorem LookAt.sizes (h:LookAt w base B g vs m t D) {k:Nat} (hk:D k):¬(fun j=>j=k) B:=fun e=>h.notB (by rw[e]; exact hk)
theorem q122z.away {o:Obj} {es:Array MapEntry} {clock:Nat} {k:Nat} (h:q122z w base mn l D) (hm:w.heap[k]? = some (.map es clock)) (hne:mn≠k):q122z (ChangeMaps.setBlock w k o) base mn l D:=by
 obtain⟨lv,h1,⟨o',h2,h2'⟩,h3,h4⟩:=h
 refine⟨lv,h1,⟨o',(q42z w k o).heap h2 hne,h2'⟩,fun e he=>⟨(h3 e he).1.turn (q42z w k o) (fun j hj ej=>?_),(h3 e he).2⟩,h4⟩
 obtain⟨cs,hcs⟩:∃cs,w.heap[j]? = some (.cells cs 3 (0,0)):=by
  obtain⟨_,⟨e0,_⟩ | ⟨gb,cap,cur,e0,_,hh,_⟩⟩:=(h3 e he).1
  ·rw[e0] at hj; cases hj
  ·rw[e0] at hj; cases hj; exact⟨_,hh⟩
 rw[ej,hm] at hcs
 cases hcs
theorem LookAt.tell (h:LookAt w base B g vs m t D) (k a:Int) :
 ∃w',(Instr.mapUpdate 136 (.map (some m.found)) (.agg #[.int .i64 k,.int .i64 a]) (.bool true)).run Tryz.prog w = .ok () w'∧LookAt w' base B g vs m (t.tell k a) D∧Turn (fun j=>j=m.found) w w':=by
 obtain⟨o',hrun,ho'⟩:=run_update_def h.found (k,a)
 have hT:=q42z w m.found o'
 obtain⟨n1,n2,n3,n4⟩:m.nodes≠m.found∧m.inn≠m.found∧m.names≠m.found∧m.named≠m.found:=by have:=h.apart; simp at this; omega
 obtain⟨o,hh,es,clock,rfl,_⟩:=h.found
 have hlt:=h.found.lt
 refine⟨_,hrun,⟨hT.heap h.box (h.sizes h.own.2.2.2.2),q21z h.nodes hT n1,q21z h.inn hT n2,h.names.away hh n3,q21z h.named hT n4,⟨o',IM.heap_setBlock_at hlt,ho'⟩,h.own,h.notB,⟨h.low.1,fun j hj=>by rw[IM.size_setBlock]; exact h.low.2 j hj⟩,h.apart⟩,hT⟩
theorem LookAt.enter (h:LookAt w base B g vs m t D) (i:Int) :
 ∃w',(Instr.mapUpdate 138 (.map (some m.inn)) (.int .i64 i) (.bool true)).run Tryz.prog w = .ok () w'∧LookAt w' base B g vs m (t.enter i) D∧Turn (fun j=>j=m.inn) w w':=by
 obtain⟨o',hrun,ho'⟩:=IM.run_update (P:=Tryz.prog) Tryz.underlying138 Tryz.underlying3 h.inn i true
 have hT:=q42z w m.inn o'
 obtain⟨n1,n2,n3,n4⟩:m.nodes≠m.inn∧m.names≠m.inn∧m.named≠m.inn∧m.found≠m.inn:=by have:=h.apart; simp at this; omega
 obtain⟨o,hh,es,clock,rfl,_⟩:=h.inn
 have hlt:=h.inn.lt
 refine⟨_,hrun,⟨hT.heap h.box (h.sizes h.own.2.1),q21z h.nodes hT n1,⟨o',IM.heap_setBlock_at hlt,ho'⟩,h.names.away hh n2,q21z h.named hT n3,h.found.turn hT n4,h.own,h.notB,⟨h.low.1,fun j hj=>by rw[IM.size_setBlock]; exact h.low.2 j hj⟩,h.apart⟩,hT⟩
theorem LookAt.node (h:LookAt w base B g vs m t D) (i:Int) (n:Sp.Inode) :
 ∃w',(Instr.mapUpdate 137 (.map (some m.nodes)) (.int .i64 i) (.agg (nA n))).run Tryz.prog w = .ok () w'∧LookAt w' base B g vs m { t with nodes:=IM.setM t.nodes i n } D∧Turn (fun j=>j=m.nodes) w w':=by
 obtain⟨o',hrun,ho'⟩:=IM.run_update (P:=Tryz.prog) (enc:=nodeV) Tryz.underlying137 Tryz.underlying3 h.nodes i n
 have hT:=q42z w m.nodes o'
 obtain⟨n1,n2,n3,n4⟩:m.inn≠m.nodes∧m.names≠m.nodes∧m.named≠m.nodes∧m.found≠m.nodes:=by have:=h.apart; simp at this; omega
 obtain⟨o,hh,es,clock,rfl,_⟩:=h.nodes
 have hlt:=h.nodes.lt
 refine⟨_,hrun,⟨hT.heap h.box (h.sizes h.own.1),⟨o',IM.heap_setBlock_at hlt,ho'⟩,q21z h.inn hT n1,h.names.away hh n2,q21z h.named hT n3,h.found.turn hT n4,h.own,h.notB,⟨h.low.1,fun j hj=>by rw[IM.size_setBlock]; exact h.low.2 j hj⟩,h.apart⟩,hT⟩
theorem LookAt.count (h:LookAt w base B g vs m t D) (b:Int) :
 ∃w',(Instr.mapUpdate 115 (.map (some m.named)) (.int .i64 b) (.int .i64 (IntKind.i64.wrap (t.cnt b+1)))).run Tryz.prog w = .ok () w'∧LookAt w' base B g vs m (t.count b) D∧Turn (fun j=>j=m.named) w w':=by
 obtain⟨o',hrun,ho'⟩:=IM.run_update (P:=Tryz.prog) (enc:=intV) Tryz.underlying115 Tryz.underlying3 h.named b (IntKind.i64.wrap (t.cnt b+1))
 have hT:=q42z w m.named o'
 obtain⟨n1,n2,n3,n4⟩:m.nodes≠m.named∧m.inn≠m.named∧m.names≠m.named∧m.found≠m.named:=by have:=h.apart; simp at this; omega
 obtain⟨o,hh,es,clock,rfl,_⟩:=h.named
 have hlt:=h.named.lt
 refine⟨_,hrun,⟨hT.heap h.box (h.sizes h.own.2.2.2.1),q21z h.nodes hT n1,q21z h.inn hT n2,h.names.away hh n3,⟨o',IM.heap_setBlock_at hlt,ho'⟩,h.found.turn hT n4,h.own,h.notB,⟨h.low.1,fun j hj=>by rw[IM.size_setBlock]; exact h.low.2 j hj⟩,h.apart⟩,hT⟩
theorem LookAt.run_has (h:LookAt w base B g vs m t D) (i:Int):(Instr.lookup 138 (.map (some m.inn)) (.int .i64 i) false).run Tryz.prog w = .ok (.bool (t.has i)) w:=by
 have:=IM.run_lookup (P:=Tryz.prog) Tryz.underlying138 Tryz.underlying3 (z:=.bool false) (by kernel_rfl) h.inn i
 rw[this]
 unfold Look.has
 cases IM.getM t.inn i <;> rfl
theorem LookAt.run_cnt (h:LookAt w base B g vs m t D) (b:Int):(Instr.lookup 115 (.map (some m.named)) (.int .i64 b) false).run Tryz.prog w = .ok (.int .i64 (t.cnt b)) w:=by
 have:=IM.run_lookup (P:=Tryz.prog) Tryz.underlying115 Tryz.underlying3 (z:=.int .i64 0) (by kernel_rfl) h.named b
 rw[this]
 unfold Look.cnt
 cases IM.getM t.named b <;> rfl
theorem zero_node (w:World):(zeroValue 69).run Tryz.prog w = .ok (.agg (nA zeroN)) w:=by kernel_rfl
theorem LookAt.run_node (h:LookAt w base B g vs m t D) (i:Int):(Instr.lookup 137 (.map (some m.nodes)) (.int .i64 i) false).run Tryz.prog w = .ok (.agg (nA (t.node i))) w:=by
 have:=IM.run_lookup (P:=Tryz.prog) Tryz.underlying137 Tryz.underlying3 (zero_node w) h.nodes i
 rw[this]
 unfold Look.node
 cases IM.getM t.nodes i <;> rfl
theorem LookAt.run_node2 (h:LookAt w base B g vs m t D) (i:Int):(Instr.lookup 137 (.map (some m.nodes)) (.int .i64 i) true).run Tryz.prog w = .ok (.tuple #[.agg (nA (t.node i)),.bool (IM.getM t.nodes i).isSome]) w:=by
 have:=IM.run_lookup2 (P:=Tryz.prog) Tryz.underlying137 Tryz.underlying3 (zero_node w) h.nodes i
 rw[this]
 unfold Look.node
 cases IM.getM t.nodes i <;> rfl
theorem getM_rows {lv:List (Int×NmE)} (h:lv.map (fun e=>(e.1,e.2.2))=l) (x:Int):IM.getM l x=(IM.getM lv x).map (·.2):=by
 subst h
 unfold IM.getM
 rw[List.find?_map,Option.map_map,Option.map_map]
 rfl
theorem setM_rows {lv:List (Int×NmE)} (h:lv.map (fun e=>(e.1,e.2.2))=l) (x:Int) (b:NmE):(IM.setM lv x b).map (fun e=>(e.1,e.2.2))=IM.setM l x b.2:=by
 have hg:=getM_rows h x
 subst h
 unfold IM.setM
 rw[hg,Option.isSome_map]
 split
 ·rw[List.map_map,List.map_map]
  apply List.map_congr_left
  intro e _
  simp only[Function.comp_apply]
  split <;> rfl
 ·rw[List.map_append]
  rfl
end
