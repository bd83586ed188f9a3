import Derived.Test.YtgofmnhfajmbfaaGreatDoorSpCheckI
namespace Go.Proofs.YtgofmnhfajmbfaaGreatDoor.Sp
open Go Txt
/-- Nothing but defects has been told. -/
structure Look.Told (t u:Look):Prop where
 nodes:u.nodes=t.nodes
 inn:u.inn=t.inn
 names:u.names=t.names
 named:u.named=t.named
section
variable {g:Geom} {S:Int→ByteArray} {t u v:Look} {M c:Nat}
theorem Look.Told.refl (t:Look):t.Told t:=⟨rfl,rfl,rfl,rfl⟩
theorem Look.Told.trans (h:t.Told u) (k:u.Told v):t.Told v:=⟨k.nodes.trans h.nodes,k.inn.trans h.inn,k.names.trans h.names,k.named.trans h.named⟩
theorem Look.Told.tell (t:Look) (k a:Int):t.Told (t.tell k a):=⟨rfl,rfl,rfl,rfl⟩
theorem Look.Told.has (h:t.Told u) (i:Int):u.has i=t.has i:=by unfold Look.has; rw[h.inn]
theorem Look.Told.cnt (h:t.Told u) (i:Int):u.cnt i=t.cnt i:=by unfold Look.cnt; rw[h.named]
theorem Look.Told.free (h:t.Told u):u.free=t.free:=by
 unfold Look.free
 rw[h.nodes,List.filter_congr (fun x _=>by rw[h.has])]
theorem Look.Told.called (h:t.Told u) (i:Int):u.called i↔t.called i:=by unfold Look.called; rw[h.names]
theorem Look.Told.inv (h:t.Told u) (k:t.Inv g M c):u.Inv g M c:=
 ⟨fun i n hn=>k.node i n (by rw[←h.nodes]; exact hn),fun i hi=>by
  obtain⟨a,b⟩:=k.inn i (by rw[←h.has]; exact hi)
  exact⟨by rw[h.nodes]; exact a,(h.called i).2 b⟩,fun i l hl=>by rw[h.free]; exact k.len i l (by rw[←h.names]; exact hl)⟩
theorem Look.Told.reached (t:Look) (i:Int) (n:Inode):t.Told (t.reached i n):=by
 have h1:t.Told (if n.links<((t.namesOf i).length:Int) then t.tell 5 i else if((t.namesOf i).length:Int)<n.links then t.tell 8 i else t):=by
  split
  ·exact Look.Told.tell _ _ _
  ·split
   ·exact Look.Told.tell _ _ _
   ·exact Look.Told.refl _
 unfold Look.reached
 simp only
 split
 ·exact h1
 ·split
  ·exact h1.trans (Look.Told.tell _ _ _)
  ·split
   ·exact h1.trans (Look.Told.tell _ _ _)
   ·exact h1
theorem Look.Told.taken (t:Look) (k:Int) (b:Bool) (n:Int):t.Told (t.taken g S k b n).1:=by
 unfold Look.taken
 split
 ·exact Look.Told.refl _
 ·exact Look.Told.tell _ _ _
theorem Look.Told.inode (k:Int) (ps:Option (List Nat)) (t:Look) (p:Nat):t.Told (Look.inode g k ps t p):=by
 unfold Look.inode
 simp only
 split
 ·exact Look.Told.refl _
 ·rename_i n _
  have h1:t.Told (if t.has (k*g.inodes+p+1)=true then t.reached (k*g.inodes+p+1) n else t):=by
   split
   ·exact Look.Told.reached _ _ _
   ·exact Look.Told.refl _
  split
  ·exact h1
  ·split
   ·exact h1.trans (Look.Told.tell _ _ _)
   ·exact h1
theorem Look.Told.block2 (k:Int) (ps:Option (List Nat)) (t:Look) (p:Nat):t.Told (Look.block2 g k ps t p):=by
 unfold Look.block2
 simp only
 have h1:t.Told (if 1<t.cnt (blkAt g k p).1 then t.tell 3 (blkAt g k p).1 else t):=by
  split
  ·exact Look.Told.tell _ _ _
  ·exact Look.Told.refl _
 split
 ·exact h1
 ·split
  ·exact h1.trans (Look.Told.tell _ _ _)
  ·split
   ·exact h1.trans (Look.Told.tell _ _ _)
   ·exact h1
theorem Look.Told.upto {f:Look→Nat→Look} (hf:∀(t:Look) (k:Nat),t.Told (f t k)):∀(k:Nat) (t:Look),t.Told (Look.upto f k t)
 | 0,t=>Look.Told.refl t
 | k+1,t=>(Look.Told.upto hf k t).trans (hf _ k)
theorem Look.Told.group (t:Look) (k:Nat):t.Told (t.group g S k):=by
 unfold Look.group
 simp only
 exact(((Look.Told.taken t k false g.inodes).trans (Look.Told.upto (fun t p=>Look.Told.inode k _ t p) _ _)).trans (Look.Told.taken _ k true g.blocks)).trans (Look.Told.upto (fun t p=>Look.Told.block2 k _ t p) _ _)
theorem Look.through_inv (hg:g.ok):(Look.through g S).Inv g 30000 0:=by
 unfold Look.through
 split
 ·rename_i hk
  obtain⟨r1,r2,r3,r4⟩:=Look.rooted_all (S:=S) hg hk
  exact(Look.visit_all _ r1 r2 r3 r4).1
 ·obtain⟨h1,h2,h3,_⟩:=Look.reads_all (g:=g) (S:=S) rfl g.many.toNat
  refine Look.Inv.tell ⟨h1,fun i hi=>?_,fun i l hl=>?_⟩ _ _
  ·unfold Look.has at hi
   rw[h2] at hi
   cases hi
  ·rw[h3] at hl
   cases hl
end
def Look.many (t:Look):Nat:=t.found.length
section
variable {g:Geom} {S:Int→ByteArray} {M c:Nat} {t:Look}
theorem q37z (t:Look) (k a:Int):(t.tell k a).many≤t.many+1:=by
 unfold Look.many Look.tell
 simp only
 split
 ·omega
 ·rw[List.length_append]; simp
theorem many_slot (p:Look×List Int) (i a x:Int):(Look.slot g i a x p).1.many≤p.1.many+1:=by
 unfold Look.slot
 split
 ·omega
 ·split
  ·exact q37z _ _ _
  ·exact Nat.le_succ _
theorem many_slots (s:ByteArray) (i a:Int) (p:Look×List Int):∀k,(Look.slots g s i a k p).1.many≤p.1.many+k
 | 0=>Nat.le_refl _
 | k+1=>by
   have h1:=many_slots s i a p k
   have h2:=many_slot (g:=g) (Look.slots g s i a k p) i a (q2z s k).inode
   show(Look.slot g i a (q2z s k).inode (Look.slots g s i a k p)).1.many≤_
   omega
theorem many_dir (t:Look) (i a:Int):(t.dir g S i a).1.many≤t.many+4:=by
 unfold Look.dir
 split
 ·exact many_slots _ _ _ _ 4
 ·have:=q37z t 1 a
  simp only
  omega
theorem many_block (p:Look×List Int) (i:Int) (n:Inode) (k:Nat) (b:Int):(Look.block g S i n k b p).1.many≤p.1.many+4:=by
 unfold Look.block
 split
 ·omega
 ·split
  ·exact many_dir (g:=g) (S:=S) (p.1.count b) i b
  ·exact Nat.le_add_right _ _
theorem many_scan (i:Int) (n:Inode):∀(bs:List Int) (k:Nat) (p:Look×List Int),(Look.scan g S i n k bs p).1.many≤p.1.many+4*bs.length
 | [],_,_=>Nat.le_refl _
 | b :: r,k,p=>by
   have h1:=many_block (g:=g) (S:=S) p i n k b
   have h2:=many_scan i n r (k+1) (Look.block g S i n k b p)
   show(Look.scan g S i n (k+1) r (Look.block g S i n k b p)).1.many≤_
   rw[List.length_cons]
   omega
theorem many_blocks (t:Look) (n:Inode):(t.blocks g S n).1.many≤t.many+1:=by
 unfold Look.blocks
 split
 ·exact Nat.le_succ _
 ·split
  ·exact Nat.le_succ _
  ·exact q37z _ _ _
theorem many_open {i:Int} (hn:NodeOk g (t.node i)):(t.open_ g S i).1.many≤t.many+161:=by
 have h1:=many_blocks (g:=g) (S:=S) (t.enter i) (t.node i)
 have h2:=Look.blocks_len (S:=S) (t:=t.enter i) hn
 have h3:=many_scan (g:=g) (S:=S) i (t.node i) ((t.enter i).blocks g S (t.node i)).2 0 (((t.enter i).blocks g S (t.node i)).1,[])
 have h4:(t.enter i).many=t.many:=rfl
 unfold Look.open_
 simp only at h3
 omega
theorem many_visits {f:Nat} (ih:∀{t:Look} {i:Int},t.Inv g M c→t.Room M c→t.good i→t.free<f→(Look.visit g S f t i).many+161*(Look.visit g S f t i).free≤t.many+161*t.free) :
 ∀(l:List Int) {t:Look},t.Inv g M c→t.Room M c→(∀y∈l,t.good y)→t.free<f→(l.foldl (Look.visit g S f) t).many+161*(l.foldl (Look.visit g S f) t).free≤t.many+161*t.free
 | [],t,_,_,_,_=>Nat.le_refl _
 | y :: r,t,h,hR,hg,hf=>by
   obtain⟨h1,h2⟩:=Look.visit_all (S:=S) f h hR (hg y (List.mem_cons_self ..)) hf
   have:=h2.free
   have k0:=ih h hR (hg y (List.mem_cons_self ..)) hf
   have k1:=many_visits ih r h1 (by unfold Look.Room at hR ⊢; omega) (fun z hz=>h2.good (hg z (List.mem_cons_of_mem _ hz))) (by omega)
   rw[List.foldl_cons]
   omega
theorem many_visit:∀(f:Nat) {t:Look} {i:Int},t.Inv g M c→t.Room M c→t.good i→t.free<f→(Look.visit g S f t i).many+161*(Look.visit g S f t i).free≤t.many+161*t.free
 | 0,_,_,_,_,_,hf=>absurd hf (Nat.not_lt_zero _)
 | f+1,t,i,h,hR,hg,hf=>by
   unfold Look.visit
   cases hi:t.has i with
   | true=>simp only[if_true]; exact Nat.le_refl _
   | false=>
     simp only[Bool.false_eq_true,if_false]
     obtain⟨h1,h2,h3,_⟩:=Look.open_all (S:=S) h hR hg hi
     have hf1:=Look.enter_free hg.1 hi
     have hf2:=h2.free
     have k1:=many_visits (fun h hR hg hf=>many_visit f h hR hg hf) _ h1 (by unfold Look.Room at hR ⊢; omega) h3 (by omega)
     have k2:=many_open (S:=S) (h.node_ok hg)
     omega
theorem many_reads (t:Look):∀k,(Look.reads g S k t).many≤t.many+k
 | 0=>Nat.le_refl _
 | k+1=>by
   have h1:=many_reads t k
   show(Look.read g S (Look.reads g S k t) ((k:Int)+1)).many≤_
   unfold Look.read
   split
   ·show(Look.reads g S k t).many≤_
    omega
   ·have:=q37z (Look.reads g S k t) 1 (q23z g ((k:Int)+1)).1
    omega
theorem many_through (hg:g.ok):(Look.through g S).many≤30000:=by
 have hm:=Geom.many_ok hg
 have hp:=Geom.prod hg
 have h0:(Look.start g S).many≤1:=by
  unfold Look.start
  split <;> simp[Look.many]
 have h1:=many_reads (g:=g) (S:=S) (Look.start g S) g.many.toNat
 unfold Look.through
 split
 ·rename_i hk
  obtain⟨r1,r2,r3,r4⟩:=Look.rooted_all (S:=S) hg hk
  have h2:=many_visit (S:=S) _ r1 r2 r3 r4
  have h3:(Look.reads g S g.many.toNat (Look.start g S)).rooted.many=(Look.reads g S g.many.toNat (Look.start g S)).many:=rfl
  omega
 ·have:=q37z (Look.reads g S g.many.toNat (Look.start g S)) 1 (q23z g 1).1
  omega
theorem many_reached (t:Look) (i:Int) (n:Inode):(t.reached i n).many≤t.many+2:=by
 have h1:(if n.links<((t.namesOf i).length:Int) then t.tell 5 i else if((t.namesOf i).length:Int)<n.links then t.tell 8 i else t).many≤t.many+1:=by
  split
  ·exact q37z _ _ _
  ·split
   ·exact q37z _ _ _
   ·exact Nat.le_succ _
 unfold Look.reached
 simp only
 split
 ·omega
 ·split
  ·have:=q37z (if n.links<((t.namesOf i).length:Int) then t.tell 5 i else if((t.namesOf i).length:Int)<n.links then t.tell 8 i else t) 6 i; omega
  ·split
   ·have:=q37z (if n.links<((t.namesOf i).length:Int) then t.tell 5 i else if((t.namesOf i).length:Int)<n.links then t.tell 8 i else t) 7 i; omega
   ·omega
theorem many_taken (t:Look) (k:Int) (b:Bool) (n:Int):(t.taken g S k b n).1.many≤t.many+1:=by
 unfold Look.taken
 split
 ·exact Nat.le_succ _
 ·exact q37z _ _ _
theorem many_inode (k:Int) (ps:Option (List Nat)) (t:Look) (p:Nat):(Look.inode g k ps t p).many≤t.many+3:=by
 unfold Look.inode
 simp only
 split
 ·omega
 ·rename_i n _
  have h1:(if t.has (k*g.inodes+p+1)=true then t.reached (k*g.inodes+p+1) n else t).many≤t.many+2:=by
   split
   ·exact many_reached _ _ _
   ·omega
  split
  ·omega
  ·split
   ·have:=q37z (if t.has (k*g.inodes+p+1)=true then t.reached (k*g.inodes+p+1) n else t) 9 (k*g.inodes+p+1)
    omega
   ·omega
theorem many_block2 (k:Int) (ps:Option (List Nat)) (t:Look) (p:Nat):(Look.block2 g k ps t p).many≤t.many+3:=by
 unfold Look.block2
 simp only
 have h1:(if 1<t.cnt (blkAt g k p).1 then t.tell 3 (blkAt g k p).1 else t).many≤t.many+1:=by
  split
  ·exact q37z _ _ _
  ·exact Nat.le_succ _
 split
 ·omega
 ·split
  ·have:=q37z (if 1<t.cnt (blkAt g k p).1 then t.tell 3 (blkAt g k p).1 else t) 4 (blkAt g k p).1; omega
  ·split
   ·have:=q37z (if 1<t.cnt (blkAt g k p).1 then t.tell 3 (blkAt g k p).1 else t) 10 (blkAt g k p).1; omega
   ·omega
theorem many_upto {f:Look→Nat→Look} {d:Nat} (hf:∀t k,(f t k).many≤t.many+d) (t:Look):∀k,(Look.upto f k t).many≤t.many+d*k
 | 0=>Nat.le_add_right _ _
 | k+1=>by
   have h1:=many_upto hf t k
   have h2:=hf (Look.upto f k t) k
   show(f (Look.upto f k t) k).many≤_
   rw[Nat.mul_succ]
   omega
theorem many_group (hg:g.ok) (t:Look) (k:Nat):(t.group g S k).many≤t.many+400:=by
 obtain⟨_,_,h1,h2,h3,h4⟩:=hg
 unfold Look.group
 simp only
 have a1:=many_taken (g:=g) (S:=S) t k false g.inodes
 have a2:=many_upto (f:=Look.inode g k (t.taken g S k false g.inodes).2) (d:=3) (fun t p=>many_inode _ _ t p) (t.taken g S k false g.inodes).1 g.inodes.toNat
 generalize Look.upto (Look.inode g k (t.taken g S k false g.inodes).2) g.inodes.toNat (t.taken g S k false g.inodes).1=t2 at a2 ⊢
 have a3:=many_taken (g:=g) (S:=S) t2 k true g.blocks
 have a4:=many_upto (f:=Look.block2 g k (t2.taken g S k true g.blocks).2) (d:=3) (fun t p=>many_block2 _ _ t p) (t2.taken g S k true g.blocks).1 g.blocks.toNat
 omega
theorem many_disk (hg:g.ok) (k:Nat) (hk:k≤4):(Look.upto (fun t k=>t.group g S k) k (Look.through g S)).many≤100000:=by
 have h1:=many_through (S:=S) hg
 have h2:=many_upto (f:=fun t k=>t.group g S k) (d:=400) (fun t k=>many_group hg t k) (Look.through g S) k
 have h3:400*k≤1600:=by omega
 omega
theorem Look.Told.groups (t:Look) (k:Nat):t.Told (Look.upto (fun t k=>t.group g S k) k t):=Look.Told.upto (fun t k=>Look.Told.group t k) k t
end
