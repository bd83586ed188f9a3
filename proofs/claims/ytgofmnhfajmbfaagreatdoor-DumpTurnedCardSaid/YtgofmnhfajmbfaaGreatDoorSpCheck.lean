import Derived.Test.YtgofmnhfajmbfaaGreatDoorInodeDec
import Derived.Test.YtgofmnhfajmbfaaGreatDoorAllC
namespace Go.Proofs.YtgofmnhfajmbfaaGreatDoor
open Go Go.RowKit Txt Sp
namespace Sp
def listOf (s:ByteArray):List Int:=(List.range 32).map (fun i:Nat=>getN s (2*(i:Int)) 2)
def listC (g:Geom) (s:ByteArray):Int:=if g.ok then(if s.size=64∧∀b∈listOf s,q10z g b then 0 else 60) else 4
end Sp
def q87z (g:Sp.Geom) (s:ByteArray) (w:World) (e:Ending) (w':World):Prop:=
 ∃v,e = .returned (.tuple #[v,.int .i64 (listC g s)])∧OwnR 3 1 intC w.heap.size w' v (if listC g s=0 then listOf s else [])∧Below w.heap.size w w'
section
set_option maxHeartbeats 4000000
set_option maxRecDepth 20000 in
theorem ilist_any (w:World) (g:Sp.Geom) (s:ByteArray):Calls Tryz.prog 241 #[gV g,.string s] w (q87z g s w):=by
 have hch:=fun W:World=>q44z W g
 have hno:∀w' c,c≠0→listC g s=c→Below w.heap.size w w'→q87z g s w (.returned (.tuple #[.slice none 0 0,.int .i64 c])) w':=fun w' c h0 hc hb=>by
  refine⟨_,by rw[hc],?_,hb⟩
  rw[hc,if_neg h0]
  exact OwnR.void _ _
 by_cases hg:g.ok
 rotate_left
 ·rw[Geom.check_no hg] at hch
  have HN:=zh (fun w'=>hno w' 4 (by decide) (if_neg hg))
  obtain⟨Q,hQ⟩:=zx (q87z g s w)
  rw[hQ] at HN ⊢
  obtain⟨ga,gb,gc⟩:=g
  unfold gV at hch ⊢
  obtain⟨W0,hW0⟩:=zg w ga gb gc
  have hk:=q14z hW0
  have HB0:=zh hk.1
  have HK:=zh hk.2
  clear hk
  have HCH:=zh hch
  clear hch
  clear hno hg hQ
  obtain⟨z0,z1,z2⟩:=HK.out W0 (Below.refl _ _)
  go_enter Tryz.func241,Tryz.ntmps241
  go_wp2_with fail
  clear z0 z1 z2
  refine(HCH.out _).mono ?_
  rintro e w1 ⟨rfl,hb1⟩
  have HB1:=zh (blN HB0.out hb1)
  clear hb1
  go_wp2
  first | exact HN.out _ HB1.out | (go_ret2; exact HN.out _ HB1.out)
 rw[Geom.check_ok hg] at hch
 by_cases hs:s.size=64
 rotate_left
 ·have q1:((s.size:Int) != 64)=true:=bne_iff_ne.2 (by omega)
  have HN:=zh (fun w'=>hno w' 60 (by decide) (by unfold listC; rw[if_pos hg,if_neg (fun h=>hs h.1)]))
  obtain⟨Q,hQ⟩:=zx (q87z g s w)
  rw[hQ] at HN ⊢
  obtain⟨ga,gb,gc⟩:=g
  unfold gV at hch ⊢
  obtain⟨W0,hW0⟩:=zg w ga gb gc
  have hk:=q14z hW0
  have HB0:=zh hk.1
  have HK:=zh hk.2
  clear hk
  have HCH:=zh hch
  clear hch
  clear hno hg hQ hs
  obtain⟨z0,z1,z2⟩:=HK.out W0 (Below.refl _ _)
  go_enter Tryz.func241,Tryz.ntmps241
  go_wp2_with fail
  clear z0 z1 z2
  refine(HCH.out _).mono ?_
  rintro e w1 ⟨rfl,hb1⟩
  have HB1:=zh (blN HB0.out hb1)
  clear hb1
  go_wp2
  first | exact HN.out _ HB1.out | (go_ret2; exact HN.out _ HB1.out)
 have q1:((s.size:Int) != 64)=false:=bne_eq_false_iff_eq.2 (by omega)
 have hget:=fun(W:World) (i:Nat)=>fget_any W s (2*(i:Int)) 2
 have hgb:=fun i:Nat=>(show getC s (2*(i:Int)) 2=getC s (2*(i:Int)) 2 from rfl)
 have hbk:=fun(W:World) (v:Value) (hv:Ints W v (listOf s))=>iblocks_any W g v (listOf s) hv
 have hno2:∀w',¬(∀b∈listOf s,q10z g b)→Below w.heap.size w w'→q87z g s w (.returned (.tuple #[.slice none 0 0,.int .i64 60])) w':=fun w' h hb=>hno w' 60 (by decide) (by unfold listC; rw[if_pos hg,if_neg (fun hh=>h hh.2)]) hb
 have hyes:∀v w',(∀b∈listOf s,q10z g b)→OwnR 3 1 intC w.heap.size w' v (listOf s)→Below w.heap.size w w'→q87z g s w (.returned (.tuple #[v,.int .i64 0])) w':=fun v w' h hr hb=>by
  have hc:listC g s=0:=by unfold listC; rw[if_pos hg,if_pos ⟨hs,h⟩]
  exact⟨v,by rw[hc],by rw[hc,if_pos rfl]; exact hr,hb⟩
 obtain⟨d,hd⟩:=zx (decide (∀b∈listOf s,q10z g b))
 have hdt:d=true→∀b∈listOf s,q10z g b:=fun h=>of_decide_eq_true (hd.trans h)
 have hdf:d=false→¬∀b∈listOf s,q10z g b:=fun h=>of_decide_eq_false (hd.trans h)
 rw[hd] at hbk
 have hstep:∀i:Nat,(List.range (i+1)).map (fun i:Nat=>getN s (2*(i:Int)) 2)=(List.range i).map (fun i:Nat=>getN s (2*(i:Int)) 2) ++ [getN s (2*(i:Int)) 2]:=fun i=>by rw[List.range_succ,List.map_append]; rfl
 have hll:∀i:Nat,((List.range i).map (fun i:Nat=>getN s (2*(i:Int)) 2)).length=i:=fun i=>by simp
 have hfull:(List.range 32).map (fun i:Nat=>getN s (2*(i:Int)) 2)=listOf s:=rfl
 obtain⟨PL,hPL⟩:∃PL:Nat→List Int,∀i,(List.range i).map (fun i:Nat=>getN s (2*(i:Int)) 2)=PL i:=⟨fun i=>(List.range i).map (fun i:Nat=>getN s (2*(i:Int)) 2),fun _=>rfl⟩
 have hPL0:PL 0=[]:=(hPL 0).symm
 simp only[hPL] at hstep hll hfull
 obtain⟨Q,hQ⟩:=zx (q87z g s w)
 rw[hQ] at hno2 hyes ⊢
 obtain⟨ga,gb,gc⟩:=g
 unfold gV at hch hbk ⊢
 obtain⟨W0,hW0⟩:=zg w ga gb gc
 have hk:=q14z hW0
 have HB0:=zh hk.1
 have HK:=zh hk.2
 clear hk
 have HCH:=zh hch
 have HGET:=zh hget
 have HBK:=zh hbk
 have HNO2:=zh hno2
 have HYES:=zh hyes
 have HDT:=zh hdt
 have HDF:=zh hdf
 have HSTEP:=zh hstep
 have HLL:=zh hll
 have HFULL:=zh hfull
 have HPL0:=zh hPL0
 clear hch hget hbk hno2 hyes hdt hdf hstep hll hfull hPL0
 clear hno hg hQ hs hd hgb hPL
 obtain⟨z0,z1,z2⟩:=HK.out W0 (Below.refl _ _)
 go_enter Tryz.func241,Tryz.ntmps241
 go_wp2_with fail
 clear z0 z1 z2
 refine(HCH.out _).mono ?_
 rintro e w1 ⟨rfl,hb1⟩
 have HB1:=zh hb1
 clear hb1
 go_wp2
 go_loopw [7,19] (fun out q wr=>∃i:Nat,i≤32∧q = .int .i64 (i:Int)∧Hid (OwnR 3 1 intC W0.heap.size wr out (PL i))∧Hid (Below W0.heap.size W0 wr)) (fun _ q _=>32-(intOf q).toNat)
 case atStart=>exact⟨0,by decide,rfl,by rw[HPL0.out]; exact OwnR.void _ _,HB1⟩
 case round=>
  obtain⟨i,hi,rfl,HO,HB⟩:=hrel
  by_cases hlt:i<32
  ·have e1:IntKind.i64.wrap (2*(i:Int))=2*(i:Int):=IntWalk.i64_in _ (by omega)
   have HG:=zh (HGET.out)
   have hSt:=HSTEP.out i
   obtain⟨x,hx⟩:=zx (getN s (2*(i:Int)) 2)
   obtain⟨y,hy⟩:=zx (getC s (2*(i:Int)) 2)
   have hg1:=fun W=>HGET.out W i
   rw[hx,hy] at hg1
   rw[hx] at hSt
   have HSt:=zh hSt
   have HG1:=zh hg1
   clear hg1
   clear hx hy HG hSt
   go_wp2_with fail
   refine(HG1.out _).mono ?_
   rintro e w5 ⟨rfl,hb5⟩
   have HB5:=zh (blN HB.out hb5)
   have HO5:=zh (OwnR.below HO.out hb5)
   have hll2:(PL i).length≤32:=by have:=HLL.out i; omega
   clear hb5
   go_upto_region 11 with fail
   obtain⟨ia6,ib6,ic6,id6,ie6⟩:=info_parts q103z
   have hrow6:=HO5.out
   unfold OwnR at hrow6
   have HRow6:=zh hrow6
   clear hrow6
   have HIb6:=zh ib6
   have HIc6:=zh ic6
   have HId6:=zh id6
   have HIe6:=zh ie6
   clear ib6 ic6 id6 ie6
   go_wp2_with (at_builtin; refine wpList_append_lies _ rfl _ _ _ rfl W0.heap.size 3 ia6 _ 1 8 Tryz.underlying58 HIb6.out HIc6.out HId6.out HIe6.out rfl (by decide) _ _ _ rfl (HRow6.out.alloc _) ⟨w5.heap.size,0,none⟩ 1 1 [.int .i64 x] rfl rfl (World.news_of_block (cs:=#[.int .i64 x]) (t:=3) (fr:=(0,0)) (q5z w5 _)) (by simp[Value.oneCell']) (by omega) ?c1 ?c2 ?c3 (w5.heap.size+1) (by simp) ?_)
   case c1=>unfold maxLen; omega
   case c2=>omega
   case c3=>have:=HB5.out.size; first | (simp; done) | (simp; omega)
   intro g6 cap6 w6 hown6 hgrow6 hat6 hlt6
   have HO6:=zh (OwnR.snoc (f:=intC) (x:=x) hown6 rfl rfl)
   have HB6:Hid (Below W0.heap.size _ w6):=Below.grown (bl1 HB5.out _) hgrow6 (bl1 HB5.out _).size (fun q hq=>(HRow6.out.lt q hq).1)
   clear hown6 hgrow6 hat6 hlt6 HRow6
   go_wp2
   go_roundw
   case rel=>exact⟨i+1,by omega,by go_num,by rw[HSt.out]; exact HO6,HB6⟩
   case measure=>simp[intOf]; omega
  ·obtain rfl:i=32:=by omega
   have ho:=HO.out
   rw[HFULL.out] at ho
   have hb_:=HBK.out wr _ (OwnR.row (f:=intC) (fun _ _=>rfl) ho)
   have HO2:=zh ho
   have HB_:=zh hb_
   clear hb_
   obtain⟨z0,z1,z2⟩:=HK.out wr HB.out
   clear ho
   cases d with
   | true=>
     have HEnd:=zh (fun v w'=>HYES.out v w' (HDT.out rfl))
     have HSz:=zh HB0.out.size
     go_wp2_with fail
     clear z0 z1 z2
     refine HB_.out.mono ?_
     rintro e w6 ⟨rfl,hb6⟩
     have HB6:=zh (blN HB0.out (blN HB.out hb6))
     have HO6:=zh ((OwnR.below HO2.out hb6).mono HSz.out)
     clear hb6
     go_wp2
     first | exact HEnd.out _ _ HO6.out HB6.out | (go_ret2; exact HEnd.out _ _ HO6.out HB6.out)
   | false=>
     have HEnd:=zh (fun w'=>HNO2.out w' (HDF.out rfl))
     go_wp2_with fail
     clear z0 z1 z2
     refine HB_.out.mono ?_
     rintro e w6 ⟨rfl,hb6⟩
     have HB6:=zh (blN HB0.out (blN HB.out hb6))
     clear hb6
     go_wp2
     first | exact HEnd.out _ HB6.out | (go_ret2; exact HEnd.out _ HB6.out)
end
end Go.Proofs.YtgofmnhfajmbfaaGreatDoor
namespace Go.Proofs.YtgofmnhfajmbfaaGreatDoor.Sp
open Go Txt
/-- What has been noted: the inodes whose sectors are, those that are reached, of each the directories of its names, how often blocks are named, the defects. -/
structure Look where
 nodes:List (Int×Inode)
 inn:List (Int×Bool)
 names:List (Int×List Int)
 named:List (Int×Int)
 found:List (Int×Int)
def Look.has (t:Look) (i:Int):Bool:=(IM.getM t.inn i).getD false
def Look.cnt (t:Look) (b:Int):Int:=(IM.getM t.named b).getD 0
def Look.node (t:Look) (i:Int):Inode:=(IM.getM t.nodes i).getD zeroN
def Look.namesOf (t:Look) (i:Int):List Int:=(IM.getM t.names i).getD []
def Look.tell (t:Look) (k a:Int):Look:={ t with found:=if(k,a)∈t.found then t.found else t.found ++ [(k,a)] }
def Look.count (t:Look) (b:Int):Look:={ t with named:=IM.setM t.named b (IntKind.i64.wrap (t.cnt b+1)) }
def Look.name (t:Look) (x i:Int):Look:={ t with names:=IM.setM t.names x (t.namesOf x ++ [i]) }
def Look.enter (t:Look) (i:Int):Look:={ t with inn:=IM.setM t.inn i true }
def Look.blocks (g:Geom) (S:Int→ByteArray) (t:Look) (n:Inode):Look×List Int:=
 if n.more=0 then(t,n.direct) else
  (if listC g (S n.more)=0 then t.count n.more else(t.count n.more).tell 1 n.more,n.direct ++ (if listC g (S n.more)=0 then listOf (S n.more) else []))
def Look.slot (g:Geom) (i at_ x:Int) (p:Look×List Int):Look×List Int:=
 if x=0 then p
 else if g.many<x∨((IM.getM p.1.nodes x).isSome=true∧(p.1.node x).kind=0) then(p.1.tell 2 at_,p.2)
 else(p.1.name x i,if(IM.getM p.1.nodes x).isSome then p.2 ++ [x] else p.2)
def Look.slots (g:Geom) (s:ByteArray) (i at_:Int):Nat→Look×List Int→Look×List Int
 | 0,p=>p
 | k+1,p=>Look.slot g i at_ (q2z s k).inode (Look.slots g s i at_ k p)
def Look.dir (g:Geom) (S:Int→ByteArray) (t:Look) (i at_:Int):Look×List Int:=
 if q24z (S at_) then Look.slots g (S at_) i at_ 4 (t,[]) else(t.tell 1 at_,[])
def Look.block (g:Geom) (S:Int→ByteArray) (i:Int) (n:Inode) (k:Nat) (b:Int) (p:Look×List Int):Look×List Int:=
 if b=0 then p
 else if n.kind=2∧(k:Int)*64<n.size then(((p.1.count b).dir g S i b).1,p.2 ++ ((p.1.count b).dir g S i b).2)
 else(p.1.count b,p.2)
def Look.scan (g:Geom) (S:Int→ByteArray) (i:Int) (n:Inode):Nat→List Int→Look×List Int→Look×List Int
 | _,[],p=>p
 | k,b :: r,p=>Look.scan g S i n (k+1) r (Look.block g S i n k b p)
def Look.open_ (g:Geom) (S:Int→ByteArray) (t:Look) (i:Int):Look×List Int:=
 Look.scan g S i (t.node i) 0 ((t.enter i).blocks g S (t.node i)).2 (((t.enter i).blocks g S (t.node i)).1,[])
def Look.visit (g:Geom) (S:Int→ByteArray):Nat→Look→Int→Look
 | 0,t,_=>t
 | f+1,t,i=>if t.has i then t else(t.open_ g S i).2.foldl (Look.visit g S f) (t.open_ g S i).1
def Look.read (g:Geom) (S:Int→ByteArray) (t:Look) (i:Int):Look:=
 if q13z g (S (q23z g i).1) then { t with nodes:=IM.setM t.nodes i (q6z (S (q23z g i).1)) } else t.tell 1 (q23z g i).1
def Look.reads (g:Geom) (S:Int→ByteArray):Nat→Look→Look
 | 0,t=>t
 | k+1,t=>Look.read g S (Look.reads g S k t) ((k:Int)+1)
def Look.start (g:Geom) (S:Int→ByteArray):Look:=
 if q124z (S 0)=0∧(q77z (S 0)).groups=g.groups∧(q77z (S 0)).inodes=g.inodes∧(q77z (S 0)).blocks=g.blocks then⟨[],[],[],[],[]⟩ else⟨[],[],[],[],[(1,0)]⟩
def Look.rooted (t:Look):Look:={ t with names:=IM.setM t.names 1 [1] }
def Look.through (g:Geom) (S:Int→ByteArray):Look:=
 if((Look.reads g S g.many.toNat (Look.start g S)).node 1).kind=2 then Look.visit g S (g.many.toNat+1) (Look.reads g S g.many.toNat (Look.start g S)).rooted 1
 else(Look.reads g S g.many.toNat (Look.start g S)).tell 1 (q23z g 1).1
def Look.reached (t:Look) (i:Int) (n:Inode):Look:=
 let m:=t.namesOf i
 let t1:=if n.links<(m.length:Int) then t.tell 5 i else if(m.length:Int)<n.links then t.tell 8 i else t
 if n.kind≠2 then t1 else if 1<m.length then t1.tell 6 i else if n.parent≠m.getD 0 0 then t1.tell 7 i else t1
def Look.taken (g:Geom) (S:Int→ByteArray) (t:Look) (k:Int) (b:Bool) (n:Int):Look×Option (List Nat):=
 if mapC (S (mapAt g k b).1) n=0 then(t,some (q12z (S (mapAt g k b).1).data.toList n.toNat)) else(t.tell 1 (mapAt g k b).1,none)
def Look.inode (g:Geom) (k:Int) (ps:Option (List Nat)) (t:Look) (p:Nat):Look:=
 let i:=k*g.inodes+p+1
 match IM.getM t.nodes i with
 | none=>t
 | some n=>
   let t1:=if t.has i then t.reached i n else t
   match ps with
   | none=>t1
   | some l=>if t.has i≠decide (p∈l)∨(t.has i=false∧n.kind≠0) then t1.tell 9 i else t1
def Look.block2 (g:Geom) (k:Int) (ps:Option (List Nat)) (t:Look) (p:Nat):Look:=
 let a:=(blkAt g k p).1
 let t1:=if 1<t.cnt a then t.tell 3 a else t
 match ps with
 | none=>t1
 | some l=>if 0<t.cnt a∧p∉l then t1.tell 4 a else if t.cnt a=0∧p∈l then t1.tell 10 a else t1
def Look.upto (f:Look→Nat→Look):Nat→Look→Look
 | 0,t=>t
 | k+1,t=>f (Look.upto f k t) k
def Look.group (g:Geom) (S:Int→ByteArray) (t:Look) (k:Nat):Look:=
 let a:=t.taken g S k false g.inodes
 let t2:=Look.upto (Look.inode g k a.2) g.inodes.toNat a.1
 let b:=t2.taken g S k true g.blocks
 Look.upto (Look.block2 g k b.2) g.blocks.toNat b.1
def Look.disk (g:Geom) (S:Int→ByteArray):Look:=Look.upto (fun t k=>t.group g S k) g.groups.toNat (Look.through g S)
