/-
 Layer 17 as plain data: a directory's sectors,and what stands in their slots. No program in this text.
-/
import Derived.Test.YtaphcmcimoloiaaGreatDoorSpBmDisk
namespace Go.Proofs.YtaphcmcimoloiaaGreatDoor.Sp
open Go Txt
/-- What a slot holds, and where it is. -/
structure Ent where
 inode:Int
 sec:Int
 slot:Nat
 name:ByteArray
def q19z (F:File):List Int:=(F.blocks.take (F.size / 64).toNat).filter (fun b=>decide (b≠0))
def entOf (V:Int→ByteArray) (b:Int) (k:Nat):Ent:=⟨(q4z (V b) k).inode,b,k,(q4z (V b) k).name⟩
def entsB (V:Int→ByteArray) (b:Int):List Ent:=[entOf V b 0,entOf V b 1,entOf V b 2,entOf V b 3]
def ents (V:Int→ByteArray) (F:File):List Ent:=(q19z F).flatMap (entsB V)
def findE (l:List Ent) (x:ByteArray):Option Ent:=l.find? (fun e=>decide (e.name=x))
/-- The file is a directory, each sector of it a directory's. -/
structure DirOk (V:Int→ByteArray) (F:File):Prop where
 kind:F.kind=2
 size:∃q:Nat,q≤40∧F.size=((64*q:Nat):Int)
 sect:∀b∈q19z F,q55z (V b)
section
variable {V:Int→ByteArray} {F:File}
theorem dirBlks_at {q:Nat} (hq:F.size=((64*q:Nat):Int)):q19z F=(F.blocks.take q).filter (fun b=>decide (b≠0)):=by
 unfold q19z
 have e:(F.size / 64).toNat=q:=by omega
 rw[e]
end
theorem slotAt_patch {s t:ByteArray} {p:List UInt8} {k j:Nat} (ht:t.data.toList=q7z s.data.toList (16*k) p) (hp:p.length=16) (hs:s.data.toList.length=64) (hk:k<4):q37z t j=if j=k then p else q37z s j:=by
 unfold q37z
 rw[ht]
 unfold q7z
 have hl:(s.data.toList.take (16*k)).length=16*k:=by rw[List.length_take]; omega
 by_cases e:j=k
 ·subst e
  rw[if_pos rfl,List.append_assoc,List.drop_append_of_le_length (by omega),List.drop_eq_nil_of_le (by omega),List.nil_append,List.take_append_of_le_length (by omega),List.take_of_length_le (by omega)]
 ·rw[if_neg e]
  apply List.ext_getElem?
  intro n
  by_cases hn:n<16
  ·rw[List.getElem?_take_of_lt hn,List.getElem?_take_of_lt hn,List.getElem?_drop,List.getElem?_drop,List.append_assoc]
   rcases Nat.lt_or_ge j k with h | h
   ·rw[List.getElem?_append_left (by omega),List.getElem?_take_of_lt (by omega)]
   ·rw[List.getElem?_append_right (by omega),List.getElem?_append_right (by omega),List.getElem?_drop]
    congr 1
    omega
  ·rw[List.getElem?_eq_none (by rw[List.length_take]; omega),List.getElem?_eq_none (by rw[List.length_take]; omega)]
theorem slotOf_at {s t:ByteArray} {i j:Nat} (h:q37z s i=q37z t j):q4z s i=q4z t j:=by
 have hn:numAt s (16*i) 2=numAt t (16*j) 2:=by
  have h1:∀(s:ByteArray) (i:Nat),(s.data.toList.drop (16*i)).take 2=(q37z s i).take 2:=fun s i=>by
   unfold q37z
   rw[List.take_take]
   rfl
  unfold numAt
  rw[h1,h1,h]
 unfold q4z
 rw[hn,h]
theorem may_small {x:Entry} (h:x.may):0≤x.inode∧x.inode≤65535∧x.name.size≤13:=by
 rcases h with ⟨h1,h2⟩ | ⟨h1,h2,h3⟩
 ·omega
 ·have:=q85z h3
  omega
theorem slotOf_put {t:ByteArray} {j:Nat} {x:Entry} (hx:x.may) (h:q37z t j=slotL x):q4z t j=x:=by
 obtain⟨b1,b2,b3⟩:=may_small hx
 obtain⟨xi,xn⟩:=x
 dsimp only at b1 b2 b3
 have hl:xn.data.toList.length=xn.size:=rfl
 have ht:=q13z 2 xi.toNat
 have e2:(q37z t j).take 2=textL 2 xi.toNat:=by
  rw[h]
  unfold slotL
  dsimp only
  rw[List.append_assoc,List.append_assoc,List.take_append_of_le_length (by omega),List.take_of_length_le (by omega)]
 have en:(numAt t (16*j) 2:Int)=xi:=by
  have h1:(t.data.toList.drop (16*j)).take 2=(q37z t j).take 2:=by
   unfold q37z
   rw[List.take_take]
   rfl
  unfold numAt
  rw[h1,e2,numL_textL 2 _ (by omega)]
  omega
 have eg:((q37z t j).getD 2 0).toNat=xn.size:=by
  rw[h]
  unfold slotL
  dsimp only
  rw[List.append_assoc,List.append_assoc,List.getD_eq_getElem?_getD,List.getElem?_append_right (by omega),ht]
  simp
  omega
 have ed:((q37z t j).drop 3).take xn.size=xn.data.toList:=by
  rw[h]
  unfold slotL
  dsimp only
  rw[List.append_assoc,List.drop_append,List.drop_eq_nil_of_le (by simp[ht]),List.nil_append]
  have e3:3-(textL 2 xi.toNat ++ [UInt8.ofNat xn.size]).length=0:=by simp[ht]
  rw[e3,List.drop_zero,List.take_append_of_le_length (by omega),List.take_of_length_le (by omega)]
 unfold q4z
 rw[en,eg,ed]
 congr 1
theorem slotOf_other {s t:ByteArray} {p:List UInt8} {k j:Nat} (ht:t.data.toList=q7z s.data.toList (16*k) p) (hp:p.length=16) (hs:s.data.toList.length=64) (hk:k<4) (hj:j≠k):q4z t j=q4z s j:=
 slotOf_at (by rw[slotAt_patch ht hp hs hk,if_neg hj])
theorem slotOk_put {t:ByteArray} {j:Nat} {x:Entry} (hx:x.may) (h:q37z t j=slotL x):q90z t j:=by
 have hb:=slotOf_put hx h
 have hs:=(may_small hx).2.2
 refine⟨?_,by rw[hb]; exact hx,by rw[hb,h]⟩
 have ht:=q13z 2 x.inode.toNat
 rw[h]
 unfold slotL
 rw[List.append_assoc,List.append_assoc,List.getD_eq_getElem?_getD,List.getElem?_append_right (by omega),ht]
 simp
 omega
theorem slotOk_same {s t:ByteArray} {j:Nat} (h:q37z t j=q37z s j) (ho:q90z s j):q90z t j:=by
 unfold q90z at *
 rw[slotOf_at h,h]
 exact ho
theorem isDirS_put {s t:ByteArray} {x:Entry} {k:Nat} (hd:q55z s) (ht:t.data.toList=q7z s.data.toList (16*k) (slotL x)) (hx:x.may) (hl:(slotL x).length=16) (hk:k<4) (hf:∀j,j<4→j≠k→(q4z s j).name=x.name→x.name.size=0):q55z t:=by
 have hs:s.data.toList.length=64:=hd.1
 have hat:∀j,q37z t j=if j=k then slotL x else q37z s j:=fun j=>slotAt_patch ht hl hs hk
 have hz:t.size=64:=by
  show t.data.toList.length=64
  rw[ht,q51z (by omega),hs]
 have hof:∀j,q4z t j=if j=k then x else q4z s j:=fun j=>by
  by_cases e:j=k
  ·rw[if_pos e]; exact slotOf_put hx (by rw[hat,if_pos e])
  ·rw[if_neg e]; exact slotOf_at (by rw[hat,if_neg e])
 refine⟨hz,fun i hi=>⟨?_,fun j hj hn=>?_⟩⟩
 ·by_cases e:i=k
  ·exact slotOk_put hx (by rw[hat,if_pos e])
  ·exact slotOk_same (by rw[hat,if_neg e]) (hd.2 i hi).1
 ·rw[hof,hof] at hn
  rw[hof]
  by_cases e:i=k
  ·rw[if_pos e] at hn ⊢
   rw[if_neg (by omega)] at hn
   exact hf j (by omega) (by omega) hn
  ·rw[if_neg e] at hn ⊢
   by_cases e2:j=k
   ·rw[if_pos e2] at hn
    have:=hf i hi e hn.symm
    rw[←hn]
    exact this
   ·rw[if_neg e2] at hn
    exact(hd.2 i hi).2 j hj hn
def putE (c:Int) (k:Nat) (x:Entry) (e:Ent):Ent:=if e.sec=c∧e.slot=k then⟨x.inode,c,k,x.name⟩ else e
theorem entOf_put {V V':Int→ByteArray} {c:Int} {k:Nat} {x:Entry} (hV:∀b,b≠c→V' b=V b) (hc:∀j,q4z (V' c) j=if j=k then x else q4z (V c) j) (b:Int) (j:Nat):entOf V' b j=putE c k x (entOf V b j):=by
 unfold putE entOf
 dsimp only
 by_cases e:b=c
 ·subst e
  by_cases e2:j=k
  ·rw[if_pos ⟨rfl,e2⟩,hc,if_pos e2,e2]
  ·rw[if_neg (fun h=>e2 h.2),hc,if_neg e2]
 ·rw[if_neg (fun h=>e h.1),hV b e]
theorem ents_put {V V':Int→ByteArray} {c:Int} {k:Nat} {x:Entry} (hV:∀b,b≠c→V' b=V b) (hc:∀j,q4z (V' c) j=if j=k then x else q4z (V c) j) (l:List Int):l.flatMap (entsB V')=(l.flatMap (entsB V)).map (putE c k x):=by
 have h1:∀b,entsB V' b=(entsB V b).map (putE c k x):=fun b=>by
  unfold entsB
  rw[List.map_cons,List.map_cons,List.map_cons,List.map_cons,List.map_nil,←entOf_put hV hc,←entOf_put hV hc,←entOf_put hV hc,←entOf_put hV hc]
 induction l with
 | nil=>rfl
 | cons b l ih=>rw[List.flatMap_cons,List.flatMap_cons,List.map_append,ih,h1]
def q6z (es:List Ent):List (ByteArray×Int):=(es.filter (fun e=>decide (0<e.inode))).map (fun e=>(e.name,e.inode))
/-- A directory in the inode i: q sectors, all there, and no name twice. -/
structure Dir (g:Geom) (i:Int) (S:Side) (F:File) (X Y:List Int) (r q:Nat):Prop where
 bm:Bm g i S F X Y r
 kind:F.kind=2
 links:0≤F.links∧F.links≤255
 par:1≤F.parent∧F.parent≤g.many
 gen:0≤F.gen∧F.gen≤65535
 q40:q≤40
 size:F.size=((64*q:Nat):Int)
 full:∀k,k<40→(F.blocks.getD k 0≠0↔k<q)
 sect:∀b∈F.blocks.take q,q55z (S.read b)
 once:((q6z (ents S.read F)).map Prod.fst).Nodup
def Ent.key (e:Ent):Int×Nat:=(e.sec,e.slot)
section
variable {V:Int→ByteArray}
theorem q16z (l m:List Ent):q6z (l ++ m)=q6z l ++ q6z m:=by unfold q6z; rw[List.filter_append,List.map_append]
theorem q20z {e:Ent} (h:e.inode=0) (l:List Ent):q6z (e :: l)=q6z l:=by unfold q6z; rw[List.filter_cons,if_neg (by rw[h]; decide)]
theorem q46z {e:Ent} (h:1≤e.inode) (l:List Ent):q6z (e :: l)=(e.name,e.inode) :: q6z l:=by unfold q6z; rw[List.filter_cons,if_pos (by rw[decide_eq_true_iff]; omega),List.map_cons]
theorem pairs_mem {es:List Ent} {n:ByteArray} {j:Int}:(n,j)∈q6z es↔∃e∈es,0<e.inode∧e.name=n∧e.inode=j:=by
 unfold q6z
 rw[List.mem_map]
 constructor
 ·rintro⟨e,he,h⟩
  rw[List.mem_filter,decide_eq_true_iff] at he
  cases h
  exact⟨e,he.1,he.2,rfl,rfl⟩
 ·rintro⟨e,he,hp,rfl,rfl⟩
  exact⟨e,List.mem_filter.2 ⟨he,by rw[decide_eq_true_iff]; exact hp⟩,rfl⟩
theorem q136z {es:List Ent} {n:ByteArray}:n∈(q6z es).map Prod.fst↔∃e∈es,0<e.inode∧e.name=n:=by
 rw[List.mem_map]
 constructor
 ·rintro⟨⟨m,j⟩,h,rfl⟩
  obtain⟨e,he,hp,h1,_⟩:=pairs_mem.1 h
  exact⟨e,he,hp,h1⟩
 ·rintro⟨e,he,hp,rfl⟩
  exact⟨(e.name,e.inode),pairs_mem.2 ⟨e,he,hp,rfl,rfl⟩,rfl⟩
theorem q111z {b:Int} {e:Ent}:e∈entsB V b↔∃k,k<4∧e=entOf V b k:=by
 unfold entsB
 constructor
 ·intro h
  simp only[List.mem_cons,List.not_mem_nil,or_false] at h
  rcases h with h | h | h | h
  ·exact⟨0,by omega,h⟩
  ·exact⟨1,by omega,h⟩
  ·exact⟨2,by omega,h⟩
  ·exact⟨3,by omega,h⟩
 ·rintro⟨k,hk,rfl⟩
  match k,hk with
  | 0,_=>simp
  | 1,_=>simp
  | 2,_=>simp
  | 3,_=>simp
theorem ents_mem {l:List Int} {e:Ent}:e∈l.flatMap (entsB V)↔∃b∈l,∃k,k<4∧e=entOf V b k:=by
 rw[List.mem_flatMap]
 constructor
 ·rintro⟨b,hb,h⟩
  exact⟨b,hb,q111z.1 h⟩
 ·rintro⟨b,hb,h⟩
  exact⟨b,hb,q111z.2 h⟩
theorem keys_nodup:∀{l:List Int},l.Nodup→((l.flatMap (entsB V)).map Ent.key).Nodup
 | [],_=>by simp
 | b :: l,h=>by
   rw[List.nodup_cons] at h
   rw[List.flatMap_cons,List.map_append,List.nodup_append]
   refine⟨?_,keys_nodup h.2,?_⟩
   ·unfold entsB entOf Ent.key
    simp
   ·intro x hx y hy e
    subst e
    obtain⟨e1,h1,rfl⟩:=List.mem_map.1 hx
    obtain⟨e2,h2,he⟩:=List.mem_map.1 hy
    obtain⟨k1,_,rfl⟩:=q111z.1 h1
    obtain⟨b2,hb2,k2,_,rfl⟩:=ents_mem.1 h2
    have hk:b2=b:=congrArg Prod.fst he
    exact h.1 (hk ▸ hb2)
theorem put_split {l:List Ent} (hn:(l.map Ent.key).Nodup) {p:Ent} (hp:p∈l) (x:Entry):∃l1 l2,l=l1 ++ p :: l2∧l.map (putE p.sec p.slot x)=l1 ++ ⟨x.inode,p.sec,p.slot,x.name⟩ :: l2∧∀e,e∈l1∨e∈l2→¬(e.sec=p.sec∧e.slot=p.slot):=by
 obtain⟨l1,l2,rfl⟩:=List.append_of_mem hp
 have hne:∀e,e∈l1∨e∈l2→¬(e.sec=p.sec∧e.slot=p.slot):=fun e he hk=>by
  have hk2:e.key=p.key:=by unfold Ent.key; rw[hk.1,hk.2]
  rw[List.map_append,List.map_cons,List.nodup_append,List.nodup_cons] at hn
  rcases he with he | he
  ·exact hn.2.2 _ (List.mem_map_of_mem he) _ (List.mem_cons_self ..) hk2
  ·exact hn.2.1.1 (hk2 ▸ List.mem_map_of_mem he)
 refine⟨l1,l2,rfl,?_,hne⟩
 have hid:∀m:List Ent,(∀e∈m,¬(e.sec=p.sec∧e.slot=p.slot))→m.map (putE p.sec p.slot x)=m:=fun m=>by
  induction m with
  | nil=>exact fun _=>rfl
  | cons e m ih=>
    intro hm
    rw[List.map_cons,ih (fun e he=>hm e (List.mem_cons_of_mem _ he))]
    unfold putE
    rw[if_neg (hm e (List.mem_cons_self ..))]
 rw[List.map_append,List.map_cons,hid l1 (fun e he=>hne e (Or.inl he)),hid l2 (fun e he=>hne e (Or.inr he))]
 unfold putE
 rw[if_pos ⟨rfl,rfl⟩]
end
section
variable {g:Geom} {i:Int} {S:Side} {F:File} {X Y:List Int} {r q:Nat}
theorem Dir.all (h:Dir g i S F X Y r q) {b:Int} (hb:b∈F.blocks.take q):b≠0:=by
 obtain⟨k,hk,rfl⟩:=List.mem_take_iff_getElem.1 hb
 have hl:=h.bm.file.len
 have:=(h.full k (by omega)).2 (by omega)
 rw[List.getD_eq_getElem?_getD,List.getElem?_eq_getElem (by omega)] at this
 exact this
theorem Dir.blks (h:Dir g i S F X Y r q):q19z F=F.blocks.take q:=by
 rw[dirBlks_at h.size,List.filter_eq_self]
 intro b hb
 simpa using h.all hb
theorem Dir.own (h:Dir g i S F X Y r q) {b:Int} (hb:b∈F.blocks.take q):b∈Y:=h.bm.own b (q43z.2 ⟨Or.inr (List.mem_of_mem_take hb),h.all hb⟩)
theorem Dir.nod (h:Dir g i S F X Y r q):(F.blocks.take q).Nodup:=by
 rw[←h.blks]
 have h1:List.Sublist (q19z F) F.all:=by
  unfold q19z File.all
  exact((List.take_sublist _ _).trans (List.sublist_cons_self _ _)).filter _
 exact h.bm.file.nod.sublist h1
theorem Dir.keys (h:Dir g i S F X Y r q):((ents S.read F).map Ent.key).Nodup:=by
 unfold ents
 rw[h.blks]
 exact keys_nodup h.nod
theorem Dir.ok (h:Dir g i S F X Y r q):DirOk S.read F:=⟨h.kind,⟨q,h.q40,h.size⟩,fun b hb=>h.sect b (by rw[←h.blks]; exact hb)⟩
theorem Dir.blkPos (h:Dir g i S F X Y r q) (hg:g.ok):∀b∈F.blocks,0≤b:=fun b hb=>by
 by_cases h0:b=0
 ·omega
 ·obtain⟨k,p,hk,hp,rfl⟩:=h.bm.held.blk (h.bm.own b (q43z.2 ⟨Or.inr hb,h0⟩))
  have:=q93z hg hk hp
  omega
theorem Dir.hasB (h:Dir g i S F X Y r q) (hg:g.ok):∀b∈q19z F,S.disk.has b:=fun b hb=>by
 rw[h.blks] at hb
 exact h.bm.hasB hg (h.own hb)
theorem Dir.mem (h:Dir g i S F X Y r q) {e:Ent}:e∈ents S.read F↔∃b∈F.blocks.take q,∃k,k<4∧e=entOf S.read b k:=by
 unfold ents
 rw[h.blks]
 exact ents_mem
theorem Dir.may (h:Dir g i S F X Y r q) {e:Ent} (he:e∈ents S.read F):(⟨e.inode,e.name⟩:Entry).may:=by
 obtain⟨b,hb,k,hk,rfl⟩:=h.mem.1 he
 exact((h.sect b hb).2 k hk).1.2.1
theorem Dir.length (h:Dir g i S F X Y r q):(ents S.read F).length=4*q:=by
 unfold ents
 rw[h.blks]
 have h1:∀l:List Int,(l.flatMap (entsB S.read)).length=4*l.length:=fun l=>by
  induction l with
  | nil=>rfl
  | cons b l ih=>rw[List.flatMap_cons,List.length_append,ih,List.length_cons]; unfold entsB; simp; omega
 rw[h1,List.length_take,h.bm.file.len]
 have:=h.q40
 omega
end
theorem slot16 {x:Entry} (h:x.may):(slotL x).length=16:=by
 have:=(may_small h).2.2
 have hl:x.name.data.toList.length=x.name.size:=rfl
 unfold slotL
 rw[List.length_append,List.length_append,List.length_append,q13z,zeros_length,hl]
 simp
 omega
theorem pairs_put {l1 l2:List Ent} {p e:Ent} (h:((q6z (l1 ++ p :: l2)).map Prod.fst).Nodup) (he:e.inode=0∨(1≤e.inode∧∀c,c∈l1∨c∈l2→0<c.inode→c.name≠e.name)):((q6z (l1 ++ e :: l2)).map Prod.fst).Nodup:=by
 have h0:((q6z (l1 ++ l2)).map Prod.fst).Nodup:=by
  refine h.sublist (List.Sublist.map _ ?_)
  unfold q6z
  exact(((List.Sublist.refl l1).append (List.sublist_cons_self p l2)).filter _).map _
 rcases he with he | ⟨he,hn⟩
 ·rw[q16z,q20z he,←q16z]
  exact h0
 ·rw[q16z,q46z he,List.map_append,List.map_cons,List.perm_middle.nodup_iff,List.nodup_cons,←List.map_append,←q16z]
  refine⟨fun hm=>?_,h0⟩
  obtain⟨c,hc,hp,hcn⟩:=q136z.1 hm
  exact hn c (List.mem_append.1 hc) hp hcn
section
variable {g:Geom} {i:Int} {S:Side} {F:File} {X Y:List Int} {r q:Nat}
theorem Dir.put (h:Dir g i S F X Y r q) (hg:g.ok) (hr:r<1024) {p:Ent} (hp:p∈ents S.read F) {x:Entry} (hx:x.may) (hf:∀e∈ents S.read F,¬(e.sec=p.sec∧e.slot=p.slot)→e.name=x.name→x.name.size=0) {ahead:List Int} (ha:∀n∈ahead,1≤n∧n≤(S.deps.last:Int)) :
 S.changeC p.sec ((p.slot:Int)*16) (ofL (slotL x)) ahead=0∧Dir g i (S.change p.sec ((p.slot:Int)*16) (ofL (slotL x)) ahead) F X Y (r+1) q ∧
  ∃l1 l2,ents S.read F=l1 ++ p :: l2∧ents (S.change p.sec ((p.slot:Int)*16) (ofL (slotL x)) ahead).read F=l1 ++ ⟨x.inode,p.sec,p.slot,x.name⟩ :: l2:=by
 obtain⟨b,hb,k,hk,rfl⟩:=h.mem.1 hp
 obtain⟨n,hn,hnb⟩:=List.mem_take_iff_getElem.1 hb
 have hlen:=h.bm.file.len
 have hl16:=slot16 hx
 have hz16:(ofL (slotL x)).size=16:=by rw[Lib.size_eq,q11z,hl16]
 have hd:=h.bm.data hg hr (q:=n) (by omega) (by rw[hnb]; exact h.all hb) (off:=16*k) (x:=ofL (slotL x)) (by omega) (by omega) ha
 rw[hnb] at hd
 show S.changeC b ((k:Int)*16) (ofL (slotL x)) ahead=0∧Dir g i (S.change b ((k:Int)*16) (ofL (slotL x)) ahead) F X Y (r+1) q∧∃l1 l2,_∧ents (S.change b ((k:Int)*16) (ofL (slotL x)) ahead).read F=l1 ++ ⟨x.inode,b,k,x.name⟩ :: l2
 rw[show((k:Int)*16)=((16*k:Nat):Int) by omega]
 have hrd:=q115z h.bm.held.ok hd.1
 rw[Int.toNat_natCast,q11z] at hrd
 obtain⟨S',hS'⟩:∃S',S.change b ((16*k:Nat):Int) (ofL (slotL x)) ahead=S':=⟨_,rfl⟩
 rw[hS'] at hd hrd ⊢
 have hdir:=h.sect b hb
 have hbd:(S'.read b).data.toList=q7z (S.read b).data.toList (16*k) (slotL x):=by rw[hrd,upd_same,q11z]
 have hot:∀c,c≠b→S'.read c=S.read c:=fun c hc=>by rw[hrd,q35z _ hc]
 have hs64:(S.read b).data.toList.length=64:=hdir.1
 have hslot:∀j,q4z (S'.read b) j=if j=k then x else q4z (S.read b) j:=fun j=>by
  by_cases e:j=k
  ·rw[if_pos e]
   exact slotOf_put hx (by rw[slotAt_patch hbd hl16 hs64 hk,if_pos e])
  ·rw[if_neg e]
   exact slotOf_other hbd hl16 hs64 hk e
 obtain⟨l1,l2,e1,e2,hne⟩:=put_split h.keys hp x
 have e3:ents S'.read F=l1 ++ ⟨x.inode,b,k,x.name⟩ :: l2:=by
  refine Eq.trans ?_ e2
  unfold ents
  exact ents_put hot hslot _
 refine⟨hd.1,⟨hd.2.1,h.kind,h.links,h.par,h.gen,h.q40,h.size,h.full,fun c hc=>?_,?_⟩,l1,l2,e1,e3⟩
 ·by_cases e:c=b
  ·subst e
   refine isDirS_put hdir hbd hx hl16 hk (fun j hj hjk hnm=>?_)
   exact hf (entOf S.read c j) (h.mem.2 ⟨c,hc,j,hj,rfl⟩) (fun hh=>hjk hh.2) hnm
  ·rw[hot c e]
   exact h.sect c hc
 ·rw[e3]
  have ho:=h.once
  rw[e1] at ho
  refine pairs_put ho ?_
  by_cases hx0:x.inode=0
  ·exact Or.inl hx0
  ·right
   rcases hx with hx | ⟨hx1,hx2,hx3⟩
   ·exact absurd hx.1 hx0
   ·refine⟨hx1,fun c hc hp0 hcn=>?_⟩
    have hmem:c∈ents S.read F:=by
     rw[e1]
     rcases hc with hc | hc
     ·exact List.mem_append_left _ hc
     ·exact List.mem_append_right _ (List.mem_cons_of_mem _ hc)
    have:=hf c hmem (hne c hc) hcn
    have:=q85z hx3
    omega
end
theorem blankL_take:ofL (blank.data.toList.take (64-0))=blank:=by decide +kernel
theorem q81z:blank.data.toList.length=64:=by decide +kernel
theorem blankL_ne:blank.data.toList≠[]:=by decide +kernel
theorem blank_size:blank.size=64:=by decide +kernel
theorem blank_dir:q55z blank:=by decide +kernel
theorem q96z (k:Nat) (hk:k<4):q4z blank k=⟨0,⟨#[]⟩⟩:=by
 have h:∀k:Fin 4,(q4z blank k).inode=0∧(q4z blank k).name=⟨#[]⟩:=by decide +kernel
 have:=h ⟨k,hk⟩
 dsimp only at this
 obtain⟨h1,h2⟩:=this
 cases e:q4z blank k
 rw[e] at h1 h2
 dsimp only at h1 h2
 rw[h1,h2]
section
variable {g:Geom} {i:Int} {X Y:List Int} {r q:Nat} {t:BSt}
theorem puts_one (g:Geom) (i:Int) (ks:List Int) (t:BSt) (q:Nat):BSt.puts g i ks 1 t (64*q) blank.data.toList=t.put g i ks q 0 blank∧BSt.putsC g i ks 1 t (64*q) blank.data.toList=thenC (t.putC g i ks q 0 blank) 0:=by
 unfold BSt.puts BSt.putsC
 rw[if_neg blankL_ne,if_neg blankL_ne,show 64*q / 64=q by omega,show 64*q % 64=0 by omega,blankL_take]
 exact⟨rfl,rfl⟩
theorem grow8 {S:Side} {F:File} (h:Dir g i S F X Y r q) (hg:g.ok) (h1:1≤i) (h2:i≤g.groups*g.inodes) (hr:r+5<1024) {ks:List Int} (hk:∀k∈ks,0≤k∧k<g.groups) (hd:ks.Nodup) (hroom:Y.length<ks.length*g.blocks.toNat) (hq:q<8) :
 (⟨S,F,[]⟩:BSt).writeC g i ks 1 (64*q) blank.data.toList=0∧∃N t',(⟨S,F,[]⟩:BSt).write g i ks 1 (64*q) blank.data.toList=t'∧N≠0∧t'.F = { F with blocks:=F.blocks.set q N,size:=((64*(q+1):Nat):Int) }∧Bm g i t'.S t'.F X (Y ++ [N]) (r+4)∧q97z t'∧t'.made.length=4∧t'.F.img t'.S.read=q7z (F.img S.read) (64*q) blank.data.toList:=by
 obtain⟨t,ht⟩:∃t:BSt,(⟨S,F,[]⟩:BSt)=t:=⟨_,rfl⟩
 have hS:t.S=S:=by rw[←ht]
 have hF:t.F=F:=by rw[←ht]
 have hm0:t.made=[]:=by rw[←ht]
 have hb:Bm g i t.S t.F X Y r:=by rw[hS,hF]; exact h.bm
 have hm:q97z t:=fun n hn=>by rw[hm0] at hn; exact absurd hn (by simp)
 rw[ht]
 have h0:t.F.blocks.getD q 0=0:=Classical.byContradiction fun hn=>by
  rw[hF] at hn
  have:=(h.full q (by omega)).1 hn
  omega
 have hlt:∀F':File,F'.size=F.size→F'.size<((64*q+blank.data.toList.length:Nat):Int):=fun F' hs=>by
  rw[hs,h.size,q81z]
  omega
 have hls:t.listed g i ks q=t:=if_neg (fun hh=>by omega)
 have hlc:t.listedC g i ks q=0:=if_neg (fun hh=>by omega)
 have hx:0+blank.size≤64:=by rw[blank_size]; omega
 have hput:t.put g i ks q 0 blank=t.named g i ks q 0 blank:=by
  unfold BSt.put
  rw[if_neg (fun hh=>hh h0),hls]
 have hputC:t.putC g i ks q 0 blank=0:=by
  unfold BSt.putC
  rw[if_neg (fun hh=>hh h0),hls,q33z hlc]
  exact bm_namedC hb hg h1 h2 (by omega) hk hd hroom (by omega) (fun h8=>by omega) hx
 obtain⟨N,n0,b1,f1,i1⟩:=bm_named hb hg h1 h2 (by omega) hk hd hroom (q:=q) (by omega) (fun h8=>by omega) h0 hx
 have m1:=made_named hb hm hg h1 h2 (by omega) hk hd hroom (q:=q) (by omega) (fun h8=>by omega) hx
 have l1:=named_len t g i ks q 0 blank
 obtain⟨p1,p2⟩:=puts_one g i ks t q
 obtain⟨t1,ht1⟩:∃t1,t.named g i ks q 0 blank=t1:=⟨_,rfl⟩
 rw[←f1] at b1 i1
 rw[hput,ht1] at p1
 rw[hputC,q33z rfl] at p2
 rw[ht1] at b1 i1 f1 m1 l1
 have hsz:t.F.size<((64*q+blank.data.toList.length:Nat):Int):=hlt _ (by rw[hF])
 obtain⟨b2,m2,i2,_,c2⟩:=bm_sized b1 m1 hg h1 h2 (by omega) ((64*q+blank.data.toList.length:Nat):Int) (ahead:=t1.made) m1
 refine⟨?_,N,t.write g i ks 1 (64*q) blank.data.toList,rfl,n0,?_⟩
 ·unfold BSt.writeC
  rw[p2,q33z rfl,p1,if_pos hsz]
  exact c2
 ·have hw:t.write g i ks 1 (64*q) blank.data.toList=t1.sized g i ((64*q+blank.data.toList.length:Nat):Int) t1.made:=by
   unfold BSt.write
   rw[p1,if_pos hsz]
  rw[hw]
  refine⟨?_,b2,m2,?_,?_⟩
  ·show({ t1.F with size:=((64*q+blank.data.toList.length:Nat):Int) }:File)=_
   rw[f1,hF,q81z]
   rfl
  ·show(t1.made ++ [_]).length=4
   rw[List.length_append,List.length_singleton,l1,hm0]
   rfl
  ·rw[i2,i1,hF,hS]
   rfl
theorem Dir.grow {S:Side} {F:File} (h:Dir g i S F X Y r q) (hg:g.ok) (hq:q<40) {S':Side} {N:Int} {Y':List Int} {r':Nat} {F':File} (n0:N≠0) (hF:F'.blocks=F.blocks.set q N∧F'.size=((64*(q+1):Nat):Int)∧F'.kind=F.kind∧F'.links=F.links∧F'.parent=F.parent∧F'.gen=F.gen) (hb:Bm g i S' F' X Y' r') (hi:F'.img S'.read=q7z (F.img S.read) (64*q) blank.data.toList) :
 Dir g i S' F' X Y' r' (q+1)∧F'.blocks[q]? = some N∧S'.read N=blank∧ents S'.read F' = ents S.read F ++ entsB S'.read N:=by
 obtain⟨f1,f2,f3,f4,f5,f6⟩:=hF
 have hlen:=h.bm.file.len
 have hlen':=hb.file.len
 have himg:=img_length h.bm.file (h.bm.sized hg)
 have hqN:F'.blocks[q]? = some N:=by rw[f1,List.getElem?_set,if_pos rfl,if_pos (by omega)]
 have htk:F'.blocks.take q=F.blocks.take q:=by rw[f1,List.take_set_of_le (Nat.le_refl q)]
 have htk1:F'.blocks.take (q+1)=F.blocks.take q ++ [N]:=by rw[List.take_add_one,htk,hqN]; rfl
 have hsec:∀k,k<40→secL S'.read (F'.blocks.getD k 0)=if k=q then blank.data.toList else secL S.read (F.blocks.getD k 0):=fun k hk=>by
  have a1:=img_sec hb.file (hb.sized hg) hk
  have a2:=img_sec h.bm.file (h.bm.sized hg) hk
  have e1:F'.blocks.getD k 0=F'.blocks[k]:=by rw[List.getD_eq_getElem?_getD,List.getElem?_eq_getElem (by omega)]; rfl
  have e2:F.blocks.getD k 0=F.blocks[k]:=by rw[List.getD_eq_getElem?_getD,List.getElem?_eq_getElem (by omega)]; rfl
  rw[e1,e2,←a1,←a2,hi]
  unfold q7z
  rw[q81z]
  have ht:((F.img S.read).take (64*q)).length=64*q:=by rw[List.length_take]; omega
  have hbl:=q81z
  by_cases e:k=q
  ·subst e
   rw[if_pos rfl,List.append_assoc,List.drop_left' ht,List.take_left' hbl]
  ·rw[if_neg e]
   apply List.ext_getElem?
   intro n
   by_cases hn:n<64
   ·rw[List.getElem?_take_of_lt hn,List.getElem?_take_of_lt hn,List.getElem?_drop,List.getElem?_drop,List.append_assoc]
    rcases Nat.lt_or_ge k q with hlt | hge
    ·rw[List.getElem?_append_left (by omega),List.getElem?_take_of_lt (by omega)]
    ·rw[List.getElem?_append_right (by omega),List.getElem?_append_right (by omega),List.getElem?_drop]
     congr 1
     omega
   ·rw[List.getElem?_eq_none (by rw[List.length_take]; omega),List.getElem?_eq_none (by rw[List.length_take]; omega)]
 have hN:S'.read N=blank:=by
  have:=hsec q hq
  rw[if_pos rfl,List.getD_eq_getElem?_getD,hqN] at this
  unfold secL at this
  rw[Option.getD_some,if_neg n0] at this
  apply ByteArray.ext
  apply Array.toList_inj.1
  exact this
 have hold:∀b∈F.blocks.take q,S'.read b=S.read b:=fun b hb=>by
  have hb0:=h.all hb
  obtain⟨k,hk,rfl⟩:=List.mem_take_iff_getElem.1 hb
  have:=hsec k (by omega)
  have e1:F'.blocks.getD k 0=F.blocks[k]:=by
   rw[f1,List.getD_eq_getElem?_getD,List.getElem?_set,if_neg (by omega),List.getElem?_eq_getElem (by omega)]; rfl
  have e2:F.blocks.getD k 0=F.blocks[k]:=by rw[List.getD_eq_getElem?_getD,List.getElem?_eq_getElem (by omega)]; rfl
  rw[if_neg (by omega),e1,e2] at this
  unfold secL at this
  rw[if_neg hb0,if_neg hb0] at this
  apply ByteArray.ext
  apply Array.toList_inj.1
  exact this
 have hfull:∀k,k<40→(F'.blocks.getD k 0≠0↔k<q+1):=fun k hk=>by
  by_cases e:k=q
  ·subst e
   rw[List.getD_eq_getElem?_getD,hqN]
   exact⟨fun _=>by omega,fun _=>n0⟩
  ·rw[f1,List.getD_eq_getElem?_getD,List.getElem?_set,if_neg (by omega),←List.getD_eq_getElem?_getD,h.full k hk]
   omega
 have hblk':q19z F' = F.blocks.take q ++ [N]:=by
  rw[dirBlks_at f2,htk1,List.filter_eq_self]
  intro b hb
  rcases List.mem_append.1 hb with hb | hb
  ·simpa using h.all hb
  ·rw[List.mem_singleton] at hb
   simpa [hb] using n0
 have hents:ents S'.read F' = ents S.read F ++ entsB S'.read N:=by
  unfold ents
  rw[hblk',h.blks,List.flatMap_append,List.flatMap_singleton]
  congr 1
  have hcg:∀l:List Int,(∀b∈l,S'.read b=S.read b)→l.flatMap (entsB S'.read)=l.flatMap (entsB S.read):=fun l=>by
   induction l with
   | nil=>exact fun _=>rfl
   | cons b l ih=>
     intro hl
     rw[List.flatMap_cons,List.flatMap_cons,ih (fun c hc=>hl c (List.mem_cons_of_mem _ hc))]
     congr 1
     unfold entsB entOf
     rw[hl b (List.mem_cons_self ..)]
  exact hcg _ hold
 refine⟨⟨hb,f3.trans h.kind,by rw[f4]; exact h.links,by rw[f5]; exact h.par,by rw[f6]; exact h.gen,by omega,f2,hfull,fun b hb=>?_,?_⟩,hqN,hN,hents⟩
 ·rw[htk1] at hb
  rcases List.mem_append.1 hb with hb | hb
  ·rw[hold b hb]
   exact h.sect b hb
  ·rw[List.mem_singleton] at hb
   rw[hb,hN]
   exact blank_dir
 ·have hp0:q6z (entsB S'.read N)=[]:=by
   have hz:∀k,k<4→(entOf S'.read N k).inode=0:=fun k hk=>by
    unfold entOf
    rw[hN,q96z k hk]
   unfold entsB
   rw[q20z (hz 0 (by omega)),q20z (hz 1 (by omega)),q20z (hz 2 (by omega)),q20z (hz 3 (by omega))]
   rfl
  rw[hents,q16z,hp0,List.append_nil]
  exact h.once
end
theorem bytesLess_lt:∀(x y:List UInt8),Op.bytesLess x y=decide (x<y)
 | _,[]=>by unfold Op.bytesLess; simp
 | [],_ :: _=>by unfold Op.bytesLess; simp
 | a :: x,b :: y=>by
   unfold Op.bytesLess
   rw[bytesLess_lt x y]
   simp[List.cons_lt_cons_iff,Bool.decide_or,Bool.decide_and]
   rw[Bool.beq_eq_decide_eq]
theorem rises {ss:List (List UInt8)} (hn:ss.Nodup) {i:Nat} (hi:i+1<(ss.mergeSort (fun x y=>decide (x≤y))).length):(ss.mergeSort (fun x y=>decide (x≤y)))[i]<(ss.mergeSort (fun x y=>decide (x≤y)))[i+1]:=by
 have hs:(ss.mergeSort (fun x y=>decide (x≤y))).Pairwise (fun x y=>decide (x≤y)=true):=List.pairwise_mergeSort (fun a b c h1 h2=>by
  rw[decide_eq_true_iff] at *
  exact List.le_trans h1 h2) (fun a b=>by
  rw[Bool.or_eq_true,decide_eq_true_iff,decide_eq_true_iff]
  exact List.le_total a b) ss
 have hd:(ss.mergeSort (fun x y=>decide (x≤y))).Nodup:=(List.mergeSort_perm ss _).nodup_iff.2 hn
 have h1:=List.pairwise_iff_getElem.1 hs i (i+1) (by omega) hi (by omega)
 have h2:=List.pairwise_iff_getElem.1 hd i (i+1) (by omega) hi (by omega)
 rw[decide_eq_true_iff] at h1
 exact Std.lt_of_le_of_ne h1 h2
theorem toList_data (b:ByteArray):b.toList=b.data.toList:=ByteArray.toList_eq b
theorem rises_le {x y:ByteArray} (h:y.data.toList<x.data.toList):(Op.bytesLess x.toList y.toList||x.toList == y.toList)=false:=by
 rw[bytesLess_lt,Bool.or_eq_false_iff,decide_eq_false_iff_not,toList_data,toList_data]
 refine⟨fun h2=>?_,?_⟩
 ·exact absurd (List.lt_trans h h2) (List.lt_irrefl _)
 ·rw[beq_eq_false_iff_ne]
  intro e
  rw[e] at h
  exact absurd h (List.lt_irrefl _)
section
variable {g:Geom} {i:Int} {S:Side} {F:File} {X Y:List Int} {r q:Nat}
theorem found_of {es:List Ent} {n:ByteArray} {e:Ent} (h:findE es n=some e):e∈es∧e.name=n:=by
 unfold findE at h
 exact⟨List.mem_of_find?_eq_some h,by simpa using List.find?_some h⟩
theorem q121z {es:List Ent} {n:ByteArray} (h:findE es n=none):∀e∈es,e.name≠n:=by
 unfold findE at h
 intro e he
 have:=List.find?_eq_none.1 h e he
 simpa using this
theorem Dir.live (h:Dir g i S F X Y r q) {e:Ent} (he:e∈ents S.read F) (hn:nameB e.name=true):1≤e.inode:=by
 have:=q85z hn
 rcases h.may he with ⟨h1,h2⟩ | ⟨h1,_⟩
 ·dsimp only at h2; omega
 ·exact h1
theorem Dir.find (h:Dir g i S F X Y r q) {n:ByteArray} (hn:nameB n=true):(∃e,findE (ents S.read F) n=some e∧e∈ents S.read F∧e.name=n∧1≤e.inode∧(n,e.inode)∈q6z (ents S.read F))∨(findE (ents S.read F) n=none∧n∉(q6z (ents S.read F)).map Prod.fst):=by
 cases hf:findE (ents S.read F) n with
 | some e=>
   obtain⟨h1,rfl⟩:=found_of hf
   have hl:=h.live h1 hn
   exact Or.inl ⟨e,rfl,h1,rfl,hl,pairs_mem.2 ⟨e,h1,by omega,rfl,rfl⟩⟩
 | none=>
   refine Or.inr ⟨rfl,fun hm=>?_⟩
   obtain⟨e,he,_,hen⟩:=q136z.1 hm
   exact q121z hf e he hen
theorem Dir.nameB_of (h:Dir g i S F X Y r q) {n:ByteArray} (hm:n∈(q6z (ents S.read F)).map Prod.fst):nameB n=true:=by
 obtain⟨e,he,hp,rfl⟩:=q136z.1 hm
 rcases h.may he with ⟨h1,_⟩ | ⟨_,_,h3⟩
 ·dsimp only at h1; omega
 ·exact h3
theorem Dir.free (h:Dir g i S F X Y r q) {e:Ent} (he:findE (ents S.read F) ⟨#[]⟩=some e):e∈ents S.read F∧e.inode=0∧e.name=⟨#[]⟩:=by
 obtain⟨h1,h2⟩:=found_of he
 refine⟨h1,?_,h2⟩
 rcases h.may h1 with ⟨h3,_⟩ | ⟨_,_,h3⟩
 ·exact h3
 ·have:=q85z h3
  dsimp only at this
  rw[h2] at this
  exact absurd this (by decide)
theorem size_zero {x:ByteArray} (h:x.size=0):x=⟨#[]⟩:=by
 apply ByteArray.ext
 exact Array.eq_empty_of_size_eq_zero h
theorem Dir.noFree (h:Dir g i S F X Y r q) (hf:findE (ents S.read F) ⟨#[]⟩=none):(q6z (ents S.read F)).length=4*q:=by
 rw[←h.length]
 unfold q6z
 rw[List.length_map,List.filter_eq_self.2]
 intro e he
 rw[decide_eq_true_iff]
 rcases h.may he with ⟨_,h2⟩ | ⟨h1,_⟩
 ·exact absurd (size_zero h2) (q121z hf e he)
 ·dsimp only at h1; omega
end
def rootF:File:=⟨2,1,0,1,1,List.replicate 40 0,0⟩
theorem root_all:rootF.all=[]:=by decide
theorem q152z {g:Geom} {node epoch:Int} (hg:g.ok):Dir g 1 (q9z g node epoch) rootF [1] [] 0 0:=by
 have hgn:1≤g.groups*g.inodes:=by
  have:=Int.mul_le_mul (a:=1) (c:=g.groups) (b:=1) (d:=g.inodes) hg.1 hg.2.2.1 (by omega) (by have:=hg.1; omega)
  omega
 have hin:=inodeSec_in hg (i:=1) (by omega) hgn
 obtain⟨r1,r2⟩:=fresh_read (g:=g) (node:=node) (epoch:=epoch) hin.1 hin.2
 have hs:q5z g 1=g.first 0+2:=by unfold q5z; simp
 have hf0:=Geom.first_bd hg (k:=0) (by omega) (by have:=hg.1; omega)
 have hsec:secAt g (q5z g 1)=q31z rootN:=by
  unfold secAt
  rw[hs,if_neg (by omega),if_neg (by omega),if_neg (by omega),if_pos rfl]
 have hents:ents (q9z g node epoch).read rootF=[]:=rfl
 refine⟨⟨fresh_held hg,⟨by decide,by rw[r2,hsec]; rfl,fun _=>by decide,fun h=>absurd rfl h,by rw[root_all]; exact List.nodup_nil,by rw[root_all]; simp⟩,by rw[root_all]; simp,q74z g⟩,rfl,by decide,⟨by decide,?_⟩,by decide,by omega,rfl,fun k hk=>?_,by simp,by rw[hents]; exact List.nodup_nil⟩
 ·show(1:Int)≤g.many
  unfold Geom.many
  rw[if_pos hg]
  exact hgn
 ·constructor
  ·intro h
   refine absurd ?_ h
   show(List.replicate 40 (0:Int)).getD k 0=0
   rw[List.getD_eq_getElem?_getD,List.getElem?_replicate,if_pos hk]
   rfl
  ·intro h
   omega
end Go.Proofs.YtaphcmcimoloiaaGreatDoor.Sp
