import Derived.Test.YtgofmnhfajmbfaaGreatDoorSpCheck
namespace Go.Proofs.YtgofmnhfajmbfaaGreatDoor.Sp
open Go Txt
/-- What is at hand of an inode whose sector is one. -/
structure NodeOk (g:Geom) (n:Inode):Prop where
 len:n.direct.length=8
 direct:∀b∈n.direct,q10z g b
 more:q10z g n.more
 links:0≤n.links∧n.links≤255
 size:0≤n.size∧n.size≤2560
theorem blockOk_zero (g:Geom):q10z g 0:=Or.inl rfl
theorem nodeOk_of {g:Geom} {s:ByteArray} (h:q13z g s):NodeOk g (q6z s):=by
 obtain⟨_,⟨_,_,l0,l1,z0,z1,hk⟩,_⟩:=h
 rcases hk with ⟨_,_,_,_,hd,hm⟩ | ⟨_,_,hd,hm⟩ | ⟨_,_,_,_,hd,hm⟩
 ·exact⟨by simp[q6z],fun b hb=>by rw[hd b hb]; exact blockOk_zero g,by rw[hm]; exact blockOk_zero g,⟨l0,l1⟩,z0,z1⟩
 ·exact⟨by simp[q6z],hd,hm,⟨l0,l1⟩,z0,z1⟩
 ·exact⟨by simp[q6z],hd,hm,⟨l0,l1⟩,z0,z1⟩
theorem blockOk_bd {g:Geom} {b:Int} (h:q10z g b) (h0:b≠0):0≤b∧b<g.size:=by
 rcases h with h | ⟨h,_⟩
 ·exact absurd h h0
 ·unfold Geom.what at h
  split at h
  ·rename_i hw
   unfold Geom.within at hw
   split at hw
   ·split at hw
    ·cases hw
    ·omega
   ·cases hw
  ·simp only at h
   rename_i hw
   exact absurd h hw
def Look.free (t:Look):Nat:=(t.nodes.filter (fun x=>!t.has x.1)).length
def Look.called (t:Look) (i:Int):Prop:=∃x l,IM.getM t.names i=some (x :: l)
structure Look.Inv (g:Geom) (M c:Nat) (t:Look):Prop where
 node:∀i n,IM.getM t.nodes i=some n→NodeOk g n
 inn:∀i,t.has i=true→(IM.getM t.nodes i).isSome=true∧t.called i
 len:∀i l,IM.getM t.names i=some l→l.length+160*t.free+c≤M
def Look.good (t:Look) (i:Int):Prop:=(IM.getM t.nodes i).isSome=true∧t.called i
structure Look.Le (t u:Look):Prop where
 nodes:u.nodes=t.nodes
 has:∀i,t.has i=true→u.has i=true
 called:∀i,t.called i→u.called i
theorem Look.Le.refl (t:Look):t.Le t:=⟨rfl,fun _ h=>h,fun _ h=>h⟩
theorem Look.Le.trans {t u v:Look} (h:t.Le u) (k:u.Le v):t.Le v:=⟨k.nodes.trans h.nodes,fun i hi=>k.has i (h.has i hi),fun i hi=>k.called i (h.called i hi)⟩
theorem Look.Le.good {t u:Look} (h:t.Le u) {i:Int} (hg:t.good i):u.good i:=⟨by rw[h.nodes]; exact hg.1,h.called i hg.2⟩
theorem filter_le {α:Type} {p q:α→Bool}:∀{l:List α},(∀x∈l,q x=true→p x=true)→(l.filter q).length≤(l.filter p).length
 | [],_=>by simp
 | x :: r,h=>by
   have ih:=filter_le (l:=r) (fun y hy=>h y (List.mem_cons_of_mem _ hy))
   rw[List.filter_cons,List.filter_cons]
   by_cases hq:q x=true
   ·rw[if_pos hq,if_pos (h x (List.mem_cons_self ..) hq),List.length_cons,List.length_cons]; omega
   ·rw[if_neg hq]
    split
    ·rw[List.length_cons]; omega
    ·exact ih
theorem filter_lt {α:Type} {p q:α→Bool}:∀{l:List α},(∀x∈l,q x=true→p x=true)→(∃x∈l,p x=true∧q x=false)→(l.filter q).length<(l.filter p).length
 | [],_,⟨x,hx,_⟩=>by cases hx
 | x :: r,h,⟨y,hy,hp,hq⟩=>by
   have hr:∀z∈r,q z=true→p z=true:=fun z hz=>h z (List.mem_cons_of_mem _ hz)
   rw[List.filter_cons,List.filter_cons]
   rcases List.mem_cons.1 hy with e | hyr
   ·have hp:p x=true:=by rw[←e]; exact hp
    have hq:q x=false:=by rw[←e]; exact hq
    rw[if_neg (by rw[hq]; decide),if_pos hp,List.length_cons]
    have:=filter_le hr
    omega
   ·have ih:=filter_lt hr ⟨y,hyr,hp,hq⟩
    by_cases hqx:q x=true
    ·rw[if_pos hqx,if_pos (h x (List.mem_cons_self ..) hqx),List.length_cons,List.length_cons]; omega
    ·rw[if_neg hqx]
     split
     ·rw[List.length_cons]; omega
     ·exact ih
theorem Look.Le.free {t u:Look} (h:t.Le u):u.free≤t.free:=by
 unfold Look.free
 rw[h.nodes]
 refine filter_le (fun x _ hx=>?_)
 cases ht:t.has x.1
 ·rfl
 ·rw[h.has _ ht] at hx; exact hx
theorem getM_mem {α:Type} {l:List (Int×α)} {i:Int} {a:α} (h:IM.getM l i=some a):(i,a)∈l:=by
 unfold IM.getM at h
 obtain⟨y,hy,rfl⟩:=Option.map_eq_some_iff.1 h
 have hy1:y.1=i:=of_decide_eq_true (List.find?_some (p:=fun x:Int×α=>decide (x.1=i)) hy)
 rw[←hy1]
 exact List.mem_of_find?_eq_some hy
section
variable {g:Geom} {S:Int→ByteArray} {M c:Nat} {t:Look}
theorem Look.has_enter (t:Look) (i j:Int):(t.enter i).has j=(decide (j=i)||t.has j):=by
 unfold Look.has Look.enter
 rw[IM.getM_set]
 by_cases h:j=i <;> simp[h]
theorem Look.enter_le (t:Look) (i:Int):t.Le (t.enter i):=⟨rfl,fun j hj=>by rw[Look.has_enter,hj,Bool.or_true],fun _ h=>h⟩
theorem Look.enter_free {i:Int} (hn:(IM.getM t.nodes i).isSome=true) (hi:t.has i=false):(t.enter i).free<t.free:=by
 obtain⟨n,hn⟩:=Option.isSome_iff_exists.1 hn
 unfold Look.free
 refine filter_lt (l:=t.nodes) (fun x _ hx=>?_) ⟨_,getM_mem hn,by simp[hi],by simp[Look.has_enter]⟩
 rw[Look.has_enter] at hx
 cases ht:t.has x.1
 ·rfl
 ·rw[ht] at hx; simp at hx
theorem Look.Inv.enter (h:t.Inv g M c) {i:Int} (hg:t.good i) (hi:t.has i=false):(t.enter i).Inv g M (c+160):=by
 have hf:=Look.enter_free hg.1 hi
 refine⟨h.node,fun j hj=>?_,fun j l hl=>by have:=h.len j l hl; omega⟩
 rw[Look.has_enter] at hj
 by_cases e:j=i
 ·rw[e]; exact hg
 ·exact h.inn j (by simpa [e] using hj)
theorem Look.tell_le (t:Look) (k a:Int):t.Le (t.tell k a):=⟨rfl,fun _ h=>h,fun _ h=>h⟩
theorem Look.count_le (t:Look) (b:Int):t.Le (t.count b):=⟨rfl,fun _ h=>h,fun _ h=>h⟩
theorem Look.Inv.tell (h:t.Inv g M c) (k a:Int):(t.tell k a).Inv g M c:=⟨h.node,h.inn,h.len⟩
theorem Look.Inv.count (h:t.Inv g M c) (b:Int):(t.count b).Inv g M c:=⟨h.node,h.inn,h.len⟩
theorem Look.called_name (t:Look) (x i j:Int) (h:j=x∨t.called j):(t.name x i).called j:=by
 unfold Look.called Look.name
 simp only
 rw[IM.getM_set]
 by_cases e:j=x
 ·rw[if_pos e]
  cases hl:t.namesOf x ++ [i] with
  | nil=>simp at hl
  | cons y r=>exact⟨y,r,rfl⟩
 ·rw[if_neg e]
  exact h.resolve_left e
theorem Look.name_le (t:Look) (x i:Int):t.Le (t.name x i):=⟨rfl,fun _ h=>h,fun j hj=>Look.called_name t x i j (Or.inr hj)⟩
theorem Look.Inv.name (h:t.Inv g M (c+1)) (hM:1+160*t.free+c≤M) (x i:Int):(t.name x i).Inv g M c:=by
 refine⟨h.node,fun j hj=>⟨(h.inn j hj).1,Look.called_name t x i j (Or.inr (h.inn j hj).2)⟩,fun j l hl=>?_⟩
 have e:(t.name x i).free=t.free:=rfl
 rw[e]
 unfold Look.name at hl
 simp only at hl
 rw[IM.getM_set] at hl
 split at hl
 ·have hl:t.namesOf x ++ [i]=l:=Option.some.inj hl
  rw[←hl,List.length_append,List.length_singleton]
  unfold Look.namesOf
  cases hx:IM.getM t.names x with
  | none=>simp; omega
  | some l'=>have:=h.len x l' hx; simp; omega
 ·have:=h.len j l hl; omega
theorem Look.Inv.less {c':Nat} (h:t.Inv g M c) (hc:c'≤c):t.Inv g M c':=⟨h.node,h.inn,fun i l hl=>by have:=h.len i l hl; omega⟩
def Look.Room (M c:Nat) (t:Look):Prop:=160*t.free+c≤M
theorem Look.blocks_le (t:Look) (n:Inode):t.Le (t.blocks g S n).1:=by
 unfold Look.blocks
 split
 ·exact Look.Le.refl t
 ·split
  ·exact Look.count_le t _
  ·exact(Look.count_le t _).trans (Look.tell_le _ _ _)
theorem Look.Inv.blocks (h:t.Inv g M c) (n:Inode):(t.blocks g S n).1.Inv g M c:=by
 unfold Look.blocks
 split
 ·exact h
 ·split
  ·exact h.count _
  ·exact(h.count _).tell _ _
theorem Look.slot_le (p:Look×List Int) (i a x:Int):p.1.Le (Look.slot g i a x p).1:=by
 unfold Look.slot
 split
 ·exact Look.Le.refl _
 ·split
  ·exact Look.tell_le _ _ _
  ·exact Look.name_le _ _ _
theorem Look.Inv.slot {p:Look×List Int} (h:p.1.Inv g M (c+1)) (hR:p.1.Room M (c+1)) (i a x:Int):(Look.slot g i a x p).1.Inv g M c:=by
 unfold Look.slot
 split
 ·exact h.less (by omega)
 ·split
  ·exact(h.tell _ _).less (by omega)
  ·exact h.name (by unfold Look.Room at hR; omega) _ _
theorem Look.slot_good {p:Look×List Int} (hp:∀y∈p.2,p.1.good y) (i a x:Int):∀y∈(Look.slot g i a x p).2,(Look.slot g i a x p).1.good y:=by
 intro y hy
 unfold Look.slot at hy ⊢
 split at hy <;> rename_i h1
 ·rw[if_pos h1]; exact hp y hy
 ·rw[if_neg h1]
  split at hy <;> rename_i h2
  ·rw[if_pos h2]
   exact(Look.tell_le _ _ _).good (hp y hy)
  ·rw[if_neg h2]
   simp only at hy ⊢
   split at hy <;> rename_i h3
   ·rcases List.mem_append.1 hy with hy | hy
    ·exact(Look.name_le _ _ _).good (hp y hy)
    ·have:y=x:=by simpa using hy
     subst this
     exact⟨h3,Look.called_name _ _ _ _ (Or.inl rfl)⟩
   ·exact(Look.name_le _ _ _).good (hp y hy)
theorem Look.slot_len (p:Look×List Int) (i a x:Int):(Look.slot g i a x p).2.length≤p.2.length+1:=by
 unfold Look.slot
 split
 ·omega
 ·split
  ·exact Nat.le_succ _
  ·simp only
   split
   ·rw[List.length_append]; simp
   ·exact Nat.le_succ _
theorem Look.slots_all {p:Look×List Int} {s:ByteArray} {i a:Int}:∀(k:Nat) {c:Nat},p.1.Inv g M (c+k)→p.1.Room M (c+k)→(∀y∈p.2,p.1.good y) →
 (Look.slots g s i a k p).1.Inv g M c∧p.1.Le (Look.slots g s i a k p).1∧(∀y∈(Look.slots g s i a k p).2,(Look.slots g s i a k p).1.good y)∧(Look.slots g s i a k p).2.length≤p.2.length+k
 | 0,_,h,_,hg=>⟨h,Look.Le.refl _,hg,by simp[Look.slots]⟩
 | k+1,c,h,hR,hg=>by
   have h':p.1.Inv g M ((c+1)+k):=by rw[show(c+1)+k=c+(k+1) by omega]; exact h
   obtain⟨h1,h2,h3,h4⟩:=Look.slots_all (s:=s) (i:=i) (a:=a) k h' (by unfold Look.Room at hR ⊢; omega) hg
   have hR2:(Look.slots g s i a k p).1.Room M (c+1):=by unfold Look.Room at hR ⊢; have:=h2.free; omega
   refine⟨h1.slot hR2 _ _ _,h2.trans (Look.slot_le _ _ _ _),Look.slot_good h3 _ _ _,?_⟩
   have:=Look.slot_len (g:=g) (Look.slots g s i a k p) i a (q2z s k).inode
   show(Look.slot g i a (q2z s k).inode (Look.slots g s i a k p)).2.length≤_
   omega
theorem Look.dir_all (h:t.Inv g M (c+4)) (hR:t.Room M (c+4)) (i a:Int):(t.dir g S i a).1.Inv g M c∧t.Le (t.dir g S i a).1∧(∀y∈(t.dir g S i a).2,(t.dir g S i a).1.good y)∧(t.dir g S i a).2.length≤4:=by
 unfold Look.dir
 split
 ·have:=Look.slots_all (p:=(t,[])) (s:=S a) (i:=i) (a:=a) 4 h hR (fun y hy=>by cases hy)
  simpa using this
 ·exact⟨(h.tell _ _).less (by omega),Look.tell_le _ _ _,fun y hy=>(by cases hy),by simp⟩
theorem Look.block_all {p:Look×List Int} (h:p.1.Inv g M (c+4)) (hR:p.1.Room M (c+4)) (hg:∀y∈p.2,p.1.good y) (i:Int) (n:Inode) (k:Nat) (b:Int) :
 (Look.block g S i n k b p).1.Inv g M c∧p.1.Le (Look.block g S i n k b p).1∧(∀y∈(Look.block g S i n k b p).2,(Look.block g S i n k b p).1.good y)∧(Look.block g S i n k b p).2.length≤p.2.length+4:=by
 unfold Look.block
 split
 ·exact⟨h.less (by omega),Look.Le.refl _,hg,by omega⟩
 ·split
  ·obtain⟨h1,h2,h3,h4⟩:=Look.dir_all (S:=S) (h.count b) hR i b
   refine⟨h1,(Look.count_le _ _).trans h2,fun y hy=>?_,by simp only[List.length_append]; omega⟩
   rcases List.mem_append.1 hy with hy | hy
   ·exact((Look.count_le _ _).trans h2).good (hg y hy)
   ·exact h3 y hy
  ·exact⟨(h.count b).less (by omega),Look.count_le _ _,fun y hy=>(Look.count_le _ _).good (hg y hy),by simp⟩
theorem Look.scan_all {i:Int} {n:Inode}:∀(bs:List Int) (k:Nat) {c:Nat} {p:Look×List Int},p.1.Inv g M (c+4*bs.length)→p.1.Room M (c+4*bs.length)→(∀y∈p.2,p.1.good y) →
 (Look.scan g S i n k bs p).1.Inv g M c∧p.1.Le (Look.scan g S i n k bs p).1∧(∀y∈(Look.scan g S i n k bs p).2,(Look.scan g S i n k bs p).1.good y)∧(Look.scan g S i n k bs p).2.length≤p.2.length+4*bs.length
 | [],_,_,_,h,_,hg=>⟨h,Look.Le.refl _,hg,by simp[Look.scan]⟩
 | b :: r,k,c,p,h,hR,hg=>by
   rw[List.length_cons] at h hR
   have e:c+4*(r.length+1)=(c+4*r.length)+4:=by omega
   rw[e] at h hR
   obtain⟨h1,h2,h3,h4⟩:=Look.block_all (S:=S) h hR hg i n k b
   obtain⟨k1,k2,k3,k4⟩:=Look.scan_all (i:=i) (n:=n) r (k+1) h1 (by unfold Look.Room at hR ⊢; have:=h2.free; omega) h3
   refine⟨k1,h2.trans k2,k3,?_⟩
   show(Look.scan g S i n (k+1) r (Look.block g S i n k b p)).2.length≤_
   rw[List.length_cons]
   omega
theorem Look.blocks_len {n:Inode} (hn:NodeOk g n):(t.blocks g S n).2.length≤40:=by
 unfold Look.blocks
 split
 ·rw[hn.len]; omega
 ·simp only[List.length_append,hn.len]
  split <;> simp[listOf]
theorem Look.blocks_ok {n:Inode} (hn:NodeOk g n):∀b∈(t.blocks g S n).2,q10z g b:=by
 unfold Look.blocks
 split
 ·exact hn.direct
 ·intro b hb
  simp only at hb
  rcases List.mem_append.1 hb with hb | hb
  ·exact hn.direct b hb
  ·split at hb <;> rename_i h0
   ·unfold listC at h0
    split at h0
    ·split at h0 <;> rename_i h1
     ·exact h1.2 b hb
     ·cases h0
    ·cases h0
   ·cases hb
theorem Look.Inv.node_ok (h:t.Inv g M c) {i:Int} (hg:t.good i):NodeOk g (t.node i):=by
 obtain⟨n,hn⟩:=Option.isSome_iff_exists.1 hg.1
 unfold Look.node
 rw[hn]
 exact h.node i n hn
theorem Look.open_all (h:t.Inv g M c) (hR:t.Room M c) {i:Int} (hg:t.good i) (hi:t.has i=false) :
 (t.open_ g S i).1.Inv g M c∧(t.enter i).Le (t.open_ g S i).1∧(∀y∈(t.open_ g S i).2,(t.open_ g S i).1.good y)∧(t.open_ g S i).2.length≤160:=by
 have h1:=(h.enter hg hi).blocks (S:=S) (t.node i)
 have hl:=Look.blocks_len (S:=S) (t:=t.enter i) (h.node_ok hg)
 have hle:=Look.blocks_le (g:=g) (S:=S) (t.enter i) (t.node i)
 have hf:=Look.enter_free hg.1 hi
 have hf2:=hle.free
 obtain⟨k1,k2,k3,k4⟩:=Look.scan_all (S:=S) (i:=i) (n:=t.node i) ((t.enter i).blocks g S (t.node i)).2 0 (c:=c) (p:=(((t.enter i).blocks g S (t.node i)).1,[])) (h1.less (by omega)) (by unfold Look.Room at hR ⊢; simp only; omega) (fun y hy=>by cases hy)
 refine⟨k1,hle.trans k2,k3,?_⟩
 have:(t.open_ g S i).2.length≤([]:List Int).length+4*((t.enter i).blocks g S (t.node i)).2.length:=k4
 simp at this
 omega
theorem Look.visits_all {f:Nat} (ih:∀{t:Look} {i:Int},t.Inv g M c→t.Room M c→t.good i→t.free<f→(Look.visit g S f t i).Inv g M c∧t.Le (Look.visit g S f t i)) :
 ∀(l:List Int) {t:Look},t.Inv g M c→t.Room M c→(∀y∈l,t.good y)→t.free<f→(l.foldl (Look.visit g S f) t).Inv g M c∧t.Le (l.foldl (Look.visit g S f) t)
 | [],t,h,_,_,_=>⟨h,Look.Le.refl t⟩
 | y :: r,t,h,hR,hg,hf=>by
   obtain⟨h1,h2⟩:=ih h hR (hg y (List.mem_cons_self ..)) hf
   have:=h2.free
   obtain⟨k1,k2⟩:=Look.visits_all ih r h1 (by unfold Look.Room at hR ⊢; omega) (fun z hz=>h2.good (hg z (List.mem_cons_of_mem _ hz))) (by omega)
   exact⟨k1,h2.trans k2⟩
theorem Look.visit_all:∀(f:Nat) {t:Look} {i:Int},t.Inv g M c→t.Room M c→t.good i→t.free<f→(Look.visit g S f t i).Inv g M c∧t.Le (Look.visit g S f t i)
 | 0,_,_,_,_,_,hf=>absurd hf (Nat.not_lt_zero _)
 | f+1,t,i,h,hR,hg,hf=>by
   unfold Look.visit
   cases hi:t.has i with
   | true=>simp only[if_true]; exact⟨h,Look.Le.refl t⟩
   | false=>
     simp only[Bool.false_eq_true,if_false]
     obtain⟨h1,h2,h3,_⟩:=Look.open_all (S:=S) h hR hg hi
     have hf1:=Look.enter_free hg.1 hi
     have hf2:=h2.free
     obtain⟨k1,k2⟩:=Look.visits_all (fun h hR hg hf=>Look.visit_all f h hR hg hf) _ h1 (by unfold Look.Room at hR ⊢; omega) h3 (by omega)
     exact⟨k1,(Look.enter_le t i).trans (h2.trans k2)⟩
theorem Look.reads_all (hS:t=Look.start g S):∀k:Nat,(∀i n,IM.getM (Look.reads g S k t).nodes i=some n→NodeOk g n)∧(Look.reads g S k t).inn=[]∧(Look.reads g S k t).names=[]∧(Look.reads g S k t).nodes.length≤k
 | 0=>by
   subst hS
   unfold Look.reads Look.start
   split <;> exact⟨fun i n h=>(by cases h),rfl,rfl,Nat.le_refl _⟩
 | k+1=>by
   obtain⟨h1,h2,h3,h4⟩:=Look.reads_all hS k
   unfold Look.reads Look.read
   split <;> rename_i hi
   ·refine⟨fun i n h=>?_,h2,h3,?_⟩
    ·simp only at h
     rw[IM.getM_set] at h
     split at h
     ·have h:_=n:=Option.some.inj h
      rw[←h]
      exact nodeOk_of hi
     ·exact h1 i n h
    ·simp only
     rw[IM.length_setM]
     split <;> omega
   ·exact⟨h1,h2,h3,by show _≤k+1; exact Nat.le_succ_of_le h4⟩
theorem Look.rooted_all (hg:g.ok) (hk:((Look.reads g S g.many.toNat (Look.start g S)).node 1).kind=2) :
 ((Look.reads g S g.many.toNat (Look.start g S)).rooted).Inv g 30000 0∧(Look.reads g S g.many.toNat (Look.start g S)).rooted.Room 30000 0∧(Look.reads g S g.many.toNat (Look.start g S)).rooted.good 1∧(Look.reads g S g.many.toNat (Look.start g S)).rooted.free<g.many.toNat+1:=by
 obtain⟨h1,h2,h3,h4⟩:=Look.reads_all (g:=g) (S:=S) rfl g.many.toNat
 generalize Look.reads g S g.many.toNat (Look.start g S)=t at h1 h2 h3 h4 hk
 have hm:=Geom.many_ok hg
 have hp:=Geom.prod hg
 have hfr:t.rooted.free≤g.many.toNat:=Nat.le_trans (List.length_filter_le _ _) h4
 have hroom:t.rooted.Room 30000 0:=by unfold Look.Room; omega
 have hnm:t.rooted.names=[(1,[1])]:=by unfold Look.rooted; rw[h3]; rfl
 have hg1:t.rooted.good 1:=by
  refine⟨?_,1,[],by rw[hnm]; rfl⟩
  show(IM.getM t.nodes 1).isSome=true
  unfold Look.node at hk
  cases hn:IM.getM t.nodes 1 with
  | none=>rw[hn] at hk; exact absurd hk (by decide)
  | some n=>rfl
 refine⟨⟨h1,fun i hi=>?_,fun i l hl=>?_⟩,hroom,hg1,by omega⟩
 ·exfalso
  have:(IM.getM t.inn i).getD false=true:=hi
  rw[h2] at this
  cases this
 ·rw[hnm] at hl
  unfold Look.Room at hroom
  have hl:=getM_mem hl
  have:(i,l)=(1,[1]):=by simpa using hl
  rw[(Prod.mk.inj this).2]
  simp
  omega
end
