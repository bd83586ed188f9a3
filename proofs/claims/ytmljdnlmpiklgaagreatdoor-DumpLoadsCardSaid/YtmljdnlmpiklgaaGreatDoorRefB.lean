import Derived.Test.YtmljdnlmpiklgaaGreatDoorRefA
set_option maxRecDepth 20000
set_option maxHeartbeats 8000000
namespace Go.Proofs.YtmljdnlmpiklgaaGreatDoor
open Go Go.RowKit Txt Sp
def thC (x:Sp.Thing):List Value:=[.int .i64 x.kind,.int .i64 x.number,.int .i64 x.group,.int .i64 x.place]
theorem infoThing:(Tryz.prog.info? 128).map (fun i=>(i.zero,i.size,i.bytes))=some (some (.agg #[.int .i64 0,.int .i64 0,.int .i64 0,.int .i64 0]),4,32):=by kernel_rfl
def Things (base:Nat) (w:World) (v:Value) (l:List Sp.Thing):Prop:=OwnR 128 4 thC base w v l
def L1 (k:Nat):List Sp.Thing:=[⟨0,0,0,0⟩,⟨1,0,0,0⟩] ++ (List.range k).map (fun i:Nat=>(⟨2,(i:Int),0,0⟩:Sp.Thing))
def L2 (g:Sp.Geom) (T k:Nat):List Sp.Thing:=L1 T ++ (List.range k).flatMap (groupL g)
def L3 (g:Sp.Geom) (T k i:Nat):List Sp.Thing:=L2 g T k ++ ([⟨3,k,k,0⟩,⟨4,k,k,0⟩] ++ (List.range i).map (fun i:Nat=>(⟨5,(k:Int)*g.inodes+i+1,k,i⟩:Sp.Thing)))
def L4 (g:Sp.Geom) (T k i:Nat):List Sp.Thing:=L3 g T k g.inodes.toNat ++ (List.range i).map (fun i:Nat=>(⟨6,(k:Int)*g.blocks+i,k,i⟩:Sp.Thing))
theorem L1_snoc (k:Nat):L1 (k+1)=L1 k ++ [⟨2,(k:Int),0,0⟩]:=by
 unfold L1
 rw[List.range_succ,List.map_append,List.map_cons,List.map_nil,List.append_assoc]
theorem L2_zero (g:Sp.Geom) (T:Nat):L2 g T 0=L1 T:=by
 unfold L2
 rw[List.range_zero,List.flatMap_nil,List.append_nil]
theorem L3_zero (g:Sp.Geom) (T k:Nat):L3 g T k 0=L2 g T k ++ [⟨3,k,k,0⟩] ++ [⟨4,k,k,0⟩]:=by
 unfold L3
 rw[List.range_zero,List.map_nil,List.append_assoc]
 rfl
theorem L3_snoc (g:Sp.Geom) (T k i:Nat):L3 g T k (i+1)=L3 g T k i ++ [⟨5,(k:Int)*g.inodes+i+1,k,i⟩]:=by
 unfold L3
 rw[List.range_succ,List.map_append,List.map_cons,List.map_nil,List.append_assoc,List.append_assoc]
theorem L4_zero (g:Sp.Geom) (T k:Nat):L4 g T k 0=L3 g T k g.inodes.toNat:=by
 unfold L4
 rw[List.range_zero,List.map_nil,List.append_nil]
theorem L4_snoc (g:Sp.Geom) (T k i:Nat):L4 g T k (i+1)=L4 g T k i ++ [⟨6,(k:Int)*g.blocks+i,k,i⟩]:=by
 unfold L4
 rw[List.range_succ,List.map_append,List.map_cons,List.map_nil,List.append_assoc]
theorem L2_succ (g:Sp.Geom) (T k:Nat):L2 g T (k+1)=L4 g T k g.blocks.toNat:=by
 unfold L4 L3 L2
 rw[List.range_succ,List.flatMap_append,List.flatMap_cons,List.flatMap_nil,List.append_nil]
 unfold groupL
 simp only[List.append_assoc]
theorem L2_all (g:Sp.Geom):L2 g ((g.regions+15) / 16).toNat g.groups.toNat=allL g:=rfl
section
variable {g:Sp.Geom} (h:g.ok)
include h
theorem L2_le {T k:Nat} (hT:T≤9) (hk:k≤4):(L2 g T k).length≤403:=by
 have h1:=flat_length (groupL_length h) k
 have h2:=Geom.long_bd h
 have h3:k*g.long.toNat≤4*98:=Nat.mul_le_mul hk (by omega)
 unfold L2 L1
 rw[List.length_append,h1,List.length_append,List.length_map,List.length_range]
 show 2+T+_≤403
 omega
theorem L3_le {T k i:Nat} (hT:T≤9) (hk:k≤4) (hi:i≤32):(L3 g T k i).length≤437:=by
 have h1:=L2_le h hT hk
 unfold L3
 rw[List.length_append,List.length_append,List.length_map,List.length_range]
 show _+(2+i)≤437
 omega
theorem L4_le {T k i:Nat} (hT:T≤9) (hk:k≤4) (hi:i≤64):(L4 g T k i).length≤501:=by
 have h1:=L3_le h hT hk (i:=g.inodes.toNat) (by have:=h.2.2.2.1; omega)
 unfold L4
 rw[List.length_append,List.length_map,List.length_range]
 omega
end
def AllPost (g:Sp.Geom) (w:World) (e:Ending) (w':World):Prop:=∃v,e = .returned v∧Things w.heap.size w' v (allL g)∧Below w.heap.size w w'
section
theorem rgall_any (w:World) (g:Sp.Geom) (hg:g.ok):Calls Tryz.prog 48 #[gV g] w (AllPost g w):=by
 have hreg:=fun W:World=>rgregions_any W g
 have hbd:=Geom.regions_bd hg
 have hl2:=fun(T k:Nat) (hT:T≤9) (hk:k≤4)=>L2_le hg hT hk
 have hl3:=fun(T k i:Nat) (hT:T≤9) (hk:k≤4) (hi:i≤32)=>L3_le hg hT hk hi
 have hl4:=fun(T k i:Nat) (hT:T≤9) (hk:k≤4) (hi:i≤64)=>L4_le hg hT hk hi
 have e2:=L2_succ g
 have e30:=L3_zero g
 have e3:=L3_snoc g
 have e40:=L4_zero g
 have e4:=L4_snoc g
 have e20:=L2_zero g
 have hall:=L2_all g
 have hok:=hg
 obtain⟨T,hT⟩:=zx (((g.regions+15) / 16).toNat)
 rw[hT] at hall
 obtain⟨R,hR⟩:=zx (g.regions)
 rw[hR] at hT hbd hreg
 obtain⟨ga,gb,gc⟩:=g
 obtain⟨g1,g2,g3,g4,g5,g6⟩:=hok
 simp only at g1 g2 g3 g4 g5 g6
 obtain⟨ng,rfl⟩:∃n:Nat,ga=(n:Int):=⟨ga.toNat,by omega⟩
 obtain⟨ni,rfl⟩:∃n:Nat,gb=(n:Int):=⟨gb.toNat,by omega⟩
 obtain⟨nb,rfl⟩:∃n:Nat,gc=(n:Int):=⟨gc.toNat,by omega⟩
 simp only[Int.toNat_natCast] at hall e2 e40 e3 e4
 have hfin:∀v w',Things w.heap.size w' v (L2 ⟨(ng:Int),(ni:Int),(nb:Int)⟩ T ng)→Below w.heap.size w w'→AllPost ⟨(ng:Int),(ni:Int),(nb:Int)⟩ w (.returned v) w':=fun v w' ho hb=>⟨v,rfl,by rw[←hall]; exact ho,hb⟩
 obtain⟨Q,hQ⟩:=zx (AllPost ⟨(ng:Int),(ni:Int),(nb:Int)⟩ w)
 rw[hQ] at hfin ⊢
 obtain⟨M2,hM2⟩:=zx (L2 ⟨(ng:Int),(ni:Int),(nb:Int)⟩ T)
 obtain⟨M3,hM3⟩:=zx (L3 ⟨(ng:Int),(ni:Int),(nb:Int)⟩ T)
 obtain⟨M4,hM4⟩:=zx (L4 ⟨(ng:Int),(ni:Int),(nb:Int)⟩ T)
 have hT9:T≤9:=by omega
 replace hl2:=fun k hk=>hl2 T k hT9 hk
 replace hl3:=fun k i hk hi=>hl3 T k i hT9 hk hi
 replace hl4:=fun k i hk hi=>hl4 T k i hT9 hk hi
 replace e2:=e2 T
 replace e30:=e30 T
 replace e3:=e3 T
 replace e40:=e40 T
 replace e4:=e4 T
 replace e20:=e20 T
 rw[hM2] at hl2 e2 e30 e20 hfin
 rw[hM3] at hl3 e30 e3 e40
 rw[hM4] at hl4 e40 e4 e2
 have e1:=L1_snoc
 have HL1:Hid (∀k,(L1 k).length≤2+k):=fun k=>by
  unfold L1
  rw[List.length_append,List.length_map,List.length_range]
  exact Nat.le_refl _
 unfold gV at hreg ⊢
 simp only at hreg ⊢
 have HT:=zh hT
 have HREG:=zh hreg
 have HL2:=zh hl2
 have HL3:=zh hl3
 have HL4:=zh hl4
 have E1:=zh e1
 have E2:=zh e2
 have E30:=zh e30
 have E3:=zh e3
 have E40:=zh e40
 have E4:=zh e4
 have E20:=zh e20
 have HFIN:=zh hfin
 clear hreg hl2 hl3 hl4 e1 e2 e30 e3 e40 e4 e20 hfin
 clear hQ hM2 hM3 hM4 hR hall hg hT
 obtain⟨W0,hW0⟩:=zx (w.alloc (.cells #[.int .i64 (ng:Int),.int .i64 (ni:Int),.int .i64 (nb:Int)] 23))
 have hk:=g_keep hW0
 have HB0:=zh hk.1
 have HK:=zh hk.2
 clear hk
 go_enter Tryz.func48,Tryz.ntmps48
 go_wp2_with fail
 have HO0:Hid (Things W0.heap.size (W0.alloc (.cells #[.int .i64 0,.int .i64 0,.int .i64 0,.int .i64 0,.int .i64 1,.int .i64 0,.int .i64 0,.int .i64 0] 128)) (.slice (some ⟨W0.heap.size,0,none⟩) 2 2) (L1 0)):=OwnR.block (heapNew W0 _) rfl rfl (Nat.le_refl _) (by unfold maxLen; decide)
 have HB1:Hid (Below W0.heap.size W0 (W0.alloc (.cells #[.int .i64 0,.int .i64 0,.int .i64 0,.int .i64 0,.int .i64 1,.int .i64 0,.int .i64 0,.int .i64 0] 128))):=bl2 _
 go_loopw [3,4] (fun v i wr=>∃k:Nat,k≤T∧i = .int .i64 (k:Int)∧Hid (Things W0.heap.size wr v (L1 k))∧Hid (Below W0.heap.size W0 wr)) (fun _ i _=>T-(intOf i).toNat)
 case atStart=>exact⟨0,Nat.zero_le _,rfl,HO0,HB1⟩
 case round=>
  obtain⟨k,hk,rfl,HO,HB⟩:=hrel
  obtain⟨z0,z1,z2⟩:=HK.out wr HB.out
  obtain⟨q,hq⟩:=zx (k*16)
  have m1:IntKind.i64.wrap ((k:Int)*16)=(q:Int):=by rw[IntWalk.i64_in _ (by omega)]; omega
  go_wp2_with fail
  refine(HREG.out _).mono ?_
  rintro e w2 ⟨rfl,hb2⟩
  have HO2:Hid (Things W0.heap.size w2 u3 (L1 k)):=OwnR.below HO.out hb2
  have HB2:=zh (blN HB.out hb2)
  clear hb2 z0 z1 z2
  have hlen:=HL1.out k
  by_cases hlt:k<T
  ·have f1:decide ((q:Int)<R)=true:=decide_eq_true (by have:=HT.out; omega)
   obtain⟨ia4,ib4,ic4,id4,ie4⟩:=info_parts infoThing
   have hrow4:=HO2.out
   unfold OwnR at hrow4
   have HRow4:=zh hrow4
   clear hrow4
   have HIb4:=zh ib4
   have HIc4:=zh ic4
   have HId4:=zh id4
   have HIe4:=zh ie4
   clear ib4 ic4 id4 ie4
   go_wp2_with (at_builtin; refine wpList_append_lies _ rfl _ _ _ rfl W0.heap.size 128 ia4 _ 4 32 Tryz.underlying77 HIb4.out HIc4.out HId4.out HIe4.out rfl (by decide) _ _ _ rfl (HRow4.out.alloc _) ⟨w2.heap.size,0,none⟩ 1 1 [.int .i64 2,.int .i64 (k:Int),.int .i64 0,.int .i64 0] rfl rfl (World.news_of_block (cs:=#[.int .i64 2,.int .i64 (k:Int),.int .i64 0,.int .i64 0]) (t:=128) (fr:=(0,0)) (heapNew w2 _)) (by simp[Value.oneCell']) (by omega) ?c1 ?c2 ?c3 (w2.heap.size+1) (by simp) ?_)
   case c1=>unfold maxLen; omega
   case c2=>omega
   case c3=>have:=HB2.out.size; first | (simp; done) | (simp; omega)
   intro g4 cap4 w4 hown4 hgrow4 hat4 hlt4
   have HO4:=zh (OwnR.snoc (f:=thC) (x:=⟨2,(k:Int),0,0⟩) hown4 rfl rfl)
   have HB4:Hid (Below W0.heap.size _ w4):=Below.grown (bl1 HB2.out _) hgrow4 (bl1 HB2.out _).size (fun q hq=>(HRow4.out.lt q hq).1)
   clear hown4 hgrow4 hat4 hlt4 HRow4
   have HO5:Hid (Things W0.heap.size w4 (.slice (some ⟨g4,0,none⟩) ((L1 k).length+1) cap4) (L1 (k+1))):=by rw[E1.out]; exact HO4.out
   clear HO4
   go_wp2
   go_roundw
   case rel=>exact⟨k+1,by omega,by go_num,HO5,HB4⟩
   case measure=>simp[intOf]; omega
  ·have f1:decide ((q:Int)<R)=false:=decide_eq_false (by have:=HT.out; omega)
   have HO3:Hid (Things W0.heap.size w2 u3 (M2 0)):=by
    rw[E20.out]
    obtain rfl:k=T:=by omega
    exact HO2.out
   clear hlt hk HO HB HO0 HB1 HO2 hlen m1 hq
   go_wp2_with fail
   go_loopw [3,5,6,7] (fun v i _ _ wr=>∃k:Nat,k≤ng∧i = .int .i64 (k:Int)∧Hid (Things W0.heap.size wr v (M2 k))∧Hid (Below W0.heap.size W0 wr)) (fun _ i _ _ _=>ng-(intOf i).toNat)
   case atStart=>exact⟨0,Nat.zero_le _,rfl,HO3,HB2⟩
   case round=>
    obtain⟨k,hk,rfl,HO,HB⟩:=hrel
    obtain⟨z0,z1,z2⟩:=HK.out wr HB.out
    have hlen:=HL2.out k (by omega)
    by_cases hlt:k<ng
    ·have f2:decide ((k:Int)<(ng:Int))=true:=decide_eq_true (by omega)
     obtain⟨ia3,ib3,ic3,id3,ie3⟩:=info_parts infoThing
     have hrow3:=HO.out
     unfold OwnR at hrow3
     have HRow3:=zh hrow3
     clear hrow3
     have HIb3:=zh ib3
     have HIc3:=zh ic3
     have HId3:=zh id3
     have HIe3:=zh ie3
     clear ib3 ic3 id3 ie3
     go_wp2_with (at_builtin; refine wpList_append_lies _ rfl _ _ _ rfl W0.heap.size 128 ia3 _ 4 32 Tryz.underlying77 HIb3.out HIc3.out HId3.out HIe3.out rfl (by decide) _ _ _ rfl (HRow3.out.alloc _) ⟨wr.heap.size,0,none⟩ 1 1 [.int .i64 3,.int .i64 (k:Int),.int .i64 (k:Int),.int .i64 0] rfl rfl (World.news_of_block (cs:=#[.int .i64 3,.int .i64 (k:Int),.int .i64 (k:Int),.int .i64 0]) (t:=128) (fr:=(0,0)) (heapNew wr _)) (by simp[Value.oneCell']) (by omega) ?c1 ?c2 ?c3 (wr.heap.size+1) (by simp) ?_)
     case c1=>unfold maxLen; omega
     case c2=>omega
     case c3=>have:=HB.out.size; first | (simp; done) | (simp; omega)
     intro g3 cap3 w3 hown3 hgrow3 hat3 hlt3
     have HO3:=zh (OwnR.snoc (f:=thC) (x:=⟨3,(k:Int),(k:Int),0⟩) hown3 rfl rfl)
     have HB3:Hid (Below W0.heap.size _ w3):=Below.grown (bl1 HB.out _) hgrow3 (bl1 HB.out _).size (fun q hq=>(HRow3.out.lt q hq).1)
     clear hown3 hgrow3 hat3 hlt3 HRow3
     clear z0 z1 z2
     have hlen2:(M2 k ++ [(⟨3,(k:Int),(k:Int),0⟩:Sp.Thing)]).length≤404:=by rw[List.length_append]; show _+1≤404; omega
     have e30:=E30.out k
     obtain⟨N2,hN2⟩:=zx (M2 k ++ [(⟨3,(k:Int),(k:Int),0⟩:Sp.Thing)])
     rw[hN2] at HO3 hlen2 e30
     have E31:=zh e30
     clear hN2 e30
     obtain⟨ia4,ib4,ic4,id4,ie4⟩:=info_parts infoThing
     have hrow4:=HO3.out
     unfold OwnR at hrow4
     have HRow4:=zh hrow4
     clear hrow4
     have HIb4:=zh ib4
     have HIc4:=zh ic4
     have HId4:=zh id4
     have HIe4:=zh ie4
     clear ib4 ic4 id4 ie4
     go_wp2_with (at_builtin; refine wpList_append_lies _ rfl _ _ _ rfl W0.heap.size 128 ia4 _ 4 32 Tryz.underlying77 HIb4.out HIc4.out HId4.out HIe4.out rfl (by decide) _ _ _ rfl (HRow4.out.alloc _) ⟨w3.heap.size,0,none⟩ 1 1 [.int .i64 4,.int .i64 (k:Int),.int .i64 (k:Int),.int .i64 0] rfl rfl (World.news_of_block (cs:=#[.int .i64 4,.int .i64 (k:Int),.int .i64 (k:Int),.int .i64 0]) (t:=128) (fr:=(0,0)) (heapNew w3 _)) (by simp[Value.oneCell']) (by omega) ?c1 ?c2 ?c3 (w3.heap.size+1) (by simp) ?_)
     case c1=>unfold maxLen; omega
     case c2=>omega
     case c3=>have:=HB3.out.size; first | (simp; done) | (simp; omega)
     intro g4 cap4 w4 hown4 hgrow4 hat4 hlt4
     have HO4:=zh (OwnR.snoc (f:=thC) (x:=⟨4,(k:Int),(k:Int),0⟩) hown4 rfl rfl)
     have HB4:Hid (Below W0.heap.size _ w4):=Below.grown (bl1 HB3.out _) hgrow4 (bl1 HB3.out _).size (fun q hq=>(HRow4.out.lt q hq).1)
     clear hown4 hgrow4 hat4 hlt4 HRow4
     rw[←E31.out] at HO4
     clear hlen hlen2 HO3 HB3
     go_wp2_with fail
     go_loopw [3,6] (fun v i wr=>∃j:Nat,j≤ni∧i = .int .i64 (j:Int)∧Hid (Things W0.heap.size wr v (M3 k j))∧Hid (Below W0.heap.size W0 wr)) (fun _ i _=>ni-(intOf i).toNat)
     case atStart=>exact⟨0,Nat.zero_le _,rfl,HO4,HB4⟩
     case round=>
      obtain⟨j,hj,rfl,HO,HB⟩:=hrel
      obtain⟨z0,z1,z2⟩:=HK.out wr HB.out
      have hlen:=HL3.out k j (by omega) (by omega)
      by_cases hjn:j<ni
      ·have f3:decide ((j:Int)<(ni:Int))=true:=decide_eq_true (by omega)
       have hp0:k*ni≤4*32:=Nat.mul_le_mul (by omega) (by omega)
       obtain⟨p,hp⟩:=zx (k*ni)
       obtain⟨r,hr⟩:=zx (p+j)
       obtain⟨s,hs⟩:=zx (r+1)
       have hpi:(k:Int)*(ni:Int)=(p:Int):=by rw[←hp]; exact(Int.natCast_mul _ _).symm
       rw[hp] at hp0
       have m1:IntKind.i64.wrap ((k:Int)*(ni:Int))=(p:Int):=by rw[hpi]; exact IntWalk.i64_in _ (by omega)
       have m2:IntKind.i64.wrap ((p:Int)+(j:Int))=(r:Int):=by rw[IntWalk.i64_in _ (by omega)]; omega
       have m3:IntKind.i64.wrap ((r:Int)+1)=(s:Int):=by rw[IntWalk.i64_in _ (by omega)]; omega
       have HN:Hid ((k:Int)*(ni:Int)+(j:Int)+1=(s:Int)):=by show _=_; rw[hpi]; omega
       clear hp hr hs hpi
       obtain⟨ia5,ib5,ic5,id5,ie5⟩:=info_parts infoThing
       have hrow5:=HO.out
       unfold OwnR at hrow5
       have HRow5:=zh hrow5
       clear hrow5
       have HIb5:=zh ib5
       have HIc5:=zh ic5
       have HId5:=zh id5
       have HIe5:=zh ie5
       clear ib5 ic5 id5 ie5
       go_wp2_with (at_builtin; refine wpList_append_lies _ rfl _ _ _ rfl W0.heap.size 128 ia5 _ 4 32 Tryz.underlying77 HIb5.out HIc5.out HId5.out HIe5.out rfl (by decide) _ _ _ rfl (HRow5.out.alloc _) ⟨wr.heap.size,0,none⟩ 1 1 [.int .i64 5,.int .i64 (s:Int),.int .i64 (k:Int),.int .i64 (j:Int)] rfl rfl (World.news_of_block (cs:=#[.int .i64 5,.int .i64 (s:Int),.int .i64 (k:Int),.int .i64 (j:Int)]) (t:=128) (fr:=(0,0)) (heapNew wr _)) (by simp[Value.oneCell']) (by omega) ?c1 ?c2 ?c3 (wr.heap.size+1) (by simp) ?_)
       case c1=>unfold maxLen; omega
       case c2=>omega
       case c3=>have:=HB.out.size; first | (simp; done) | (simp; omega)
       intro g5 cap5 w5 hown5 hgrow5 hat5 hlt5
       have HO5:=zh (OwnR.snoc (f:=thC) (x:=⟨5,(s:Int),(k:Int),(j:Int)⟩) hown5 rfl rfl)
       have HB5:Hid (Below W0.heap.size _ w5):=Below.grown (bl1 HB.out _) hgrow5 (bl1 HB.out _).size (fun q hq=>(HRow5.out.lt q hq).1)
       clear hown5 hgrow5 hat5 hlt5 HRow5
       have HO6:Hid (Things W0.heap.size w5 (.slice (some ⟨g5,0,none⟩) ((M3 k j).length+1) cap5) (M3 k (j+1))):=by rw[E3.out,HN.out]; exact HO5.out
       clear HO5 z0 z1 z2
       go_wp2
       go_roundw
       case rel=>exact⟨j+1,by omega,by go_num,HO6,HB5⟩
       case measure=>simp[intOf]; omega
      ·have f3:decide ((j:Int)<(ni:Int))=false:=decide_eq_false (by omega)
       obtain rfl:j=ni:=by omega
       rw[←E40.out] at HO
       clear HO4 HB4 hlen
       go_wp2_with fail
       clear z0 z1 z2
       go_loopw [3,7] (fun v i wr=>∃q:Nat,q≤nb∧i = .int .i64 (q:Int)∧Hid (Things W0.heap.size wr v (M4 k q))∧Hid (Below W0.heap.size W0 wr)) (fun _ i _=>nb-(intOf i).toNat)
       case atStart=>exact⟨0,Nat.zero_le _,rfl,HO,HB⟩
       case round=>
        obtain⟨q,hq,rfl,HO,HB⟩:=hrel
        obtain⟨z0,z1,z2⟩:=HK.out wr HB.out
        have hlen:=HL4.out k q (by omega) (by omega)
        by_cases hqn:q<nb
        ·have f4:decide ((q:Int)<(nb:Int))=true:=decide_eq_true (by omega)
         have hp0:k*nb≤4*64:=Nat.mul_le_mul (by omega) (by omega)
         obtain⟨p,hp⟩:=zx (k*nb)
         obtain⟨r,hr⟩:=zx (p+q)
         have hpi:(k:Int)*(nb:Int)=(p:Int):=by rw[←hp]; exact(Int.natCast_mul _ _).symm
         rw[hp] at hp0
         have m1:IntKind.i64.wrap ((k:Int)*(nb:Int))=(p:Int):=by rw[hpi]; exact IntWalk.i64_in _ (by omega)
         have m2:IntKind.i64.wrap ((p:Int)+(q:Int))=(r:Int):=by rw[IntWalk.i64_in _ (by omega)]; omega
         have HN:Hid ((k:Int)*(nb:Int)+(q:Int)=(r:Int)):=by show _=_; rw[hpi]; omega
         clear hp hr hpi
         obtain⟨ia6,ib6,ic6,id6,ie6⟩:=info_parts infoThing
         have hrow6:=HO.out
         unfold OwnR at hrow6
         have HRow6:=zh hrow6
         clear hrow6
         have HIb6:=zh ib6
         have HIc6:=zh ic6
         have HId6:=zh id6
         have HIe6:=zh ie6
         clear ib6 ic6 id6 ie6
         go_wp2_with (at_builtin; refine wpList_append_lies _ rfl _ _ _ rfl W0.heap.size 128 ia6 _ 4 32 Tryz.underlying77 HIb6.out HIc6.out HId6.out HIe6.out rfl (by decide) _ _ _ rfl (HRow6.out.alloc _) ⟨wr.heap.size,0,none⟩ 1 1 [.int .i64 6,.int .i64 (r:Int),.int .i64 (k:Int),.int .i64 (q:Int)] rfl rfl (World.news_of_block (cs:=#[.int .i64 6,.int .i64 (r:Int),.int .i64 (k:Int),.int .i64 (q:Int)]) (t:=128) (fr:=(0,0)) (heapNew wr _)) (by simp[Value.oneCell']) (by omega) ?c1 ?c2 ?c3 (wr.heap.size+1) (by simp) ?_)
         case c1=>unfold maxLen; omega
         case c2=>omega
         case c3=>have:=HB.out.size; first | (simp; done) | (simp; omega)
         intro g6 cap6 w6 hown6 hgrow6 hat6 hlt6
         have HO6:=zh (OwnR.snoc (f:=thC) (x:=⟨6,(r:Int),(k:Int),(q:Int)⟩) hown6 rfl rfl)
         have HB6:Hid (Below W0.heap.size _ w6):=Below.grown (bl1 HB.out _) hgrow6 (bl1 HB.out _).size (fun q hq=>(HRow6.out.lt q hq).1)
         clear hown6 hgrow6 hat6 hlt6 HRow6
         have HO7:Hid (Things W0.heap.size w6 (.slice (some ⟨g6,0,none⟩) ((M4 k q).length+1) cap6) (M4 k (q+1))):=by rw[E4.out,HN.out]; exact HO6.out
         clear HO6 z0 z1 z2
         go_wp2
         go_roundw
         case rel=>exact⟨q+1,by omega,by go_num,HO7,HB6⟩
         case measure=>simp[intOf]; omega
        ·have f4:decide ((q:Int)<(nb:Int))=false:=decide_eq_false (by omega)
         obtain rfl:q=nb:=by omega
         rw[←E2.out] at HO
         clear hlen
         go_wp2
         go_roundw
         case rel=>exact⟨k+1,by omega,by go_num,HO,HB⟩
         case measure=>simp[intOf]; omega
    ·have f2:decide ((k:Int)<(ng:Int))=false:=decide_eq_false (by omega)
     obtain rfl:k=ng:=by omega
     obtain⟨ad,cap,rfl⟩:=OwnR.form HO.out
     have HF:=zh (HFIN.out _ _ (OwnR.mono HO.out HB0.out.size) (blN HB0.out HB.out))
     go_wp2
     first | exact HF.out | (go_ret; exact HF.out) | (go_ret2; exact HF.out)
end
theorem things_facts {base:Nat} {w:World} {v:Value} {l:List Sp.Thing} (h:Things base w v l):∃(ad:Option Addr) (n cap:Nat),v = .slice ad n cap∧Hid (n=l.length)∧n≤9223372036854775807 ∧
 Hid (∀j,j<n→∃b off x,ad=some ⟨b,off,none⟩∧b<w.heap.size∧l[j]? = some x∧w.cell? ⟨b,off+j*4,none⟩=some (.int .i64 x.kind)∧w.cell? ⟨b,off+j*4+1,none⟩=some (.int .i64 x.number)):=by
 obtain⟨ad,n,cap,e,HN,hn,HF⟩:=RowAt.facts (f:=thC) (OwnR.row (fun _ _=>rfl) h)
 refine⟨ad,n,cap,e,HN,hn,fun j hj=>?_⟩
 obtain⟨b,o,x,e1,hb,hx,hc⟩:=HF.out j hj
 exact⟨b,o,x,e1,hb,hx,hc 0 _ rfl,hc 1 _ rfl⟩
def RWhatPost (g:Sp.Geom) (s:Int) (w:World) (e:Ending) (w':World):Prop:=
 e = .returned (.tuple #[.int .i64 (g.what s).1,.int .i64 (g.what s).2.1,.int .i64 (g.what s).2.2])∧Below w.heap.size w w'
section
theorem rgsize_any (w:World) (g:Sp.Geom):Calls Tryz.prog 21 #[gV g] w fun e w'=>e = .returned (.int .i64 g.size)∧Below w.heap.size w w':=by
 have hch:=fun W:World=>rgcheck_any W g
 by_cases hg:g.ok
 ·rw[Geom.check_ok hg] at hch
  have hal:=fun W:World=>rgall_any W g hg
  have hln:=allL_length hg
  unfold AllPost at hal
  obtain⟨l,hl⟩:=zx (allL g)
  obtain⟨z,hz⟩:=zx (g.size)
  rw[hl] at hal hln
  rw[hz] at hln ⊢
  obtain⟨ga,gb,gc⟩:=g
  unfold gV at hch hal ⊢
  clear hg hl hz
  have HCH:=zh hch
  have HAL:=zh hal
  have HLN:=zh hln
  clear hch hal hln
  obtain⟨W0,hW0⟩:=zg w ga gb gc
  have hk:=g_keep hW0
  have HB0:=zh hk.1
  have HK:=zh hk.2
  clear hk
  obtain⟨z0,z1,z2⟩:=HK.out W0 (Below.refl _ _)
  go_enter Tryz.func21,Tryz.ntmps21
  go_wp2_with fail
  refine(HCH.out _).mono ?_
  rintro e w1 ⟨rfl,hb1⟩
  have HB1:=zh (blN (Below.refl _ _) hb1)
  clear hb1
  clear z0 z1 z2
  obtain⟨z0,z1,z2⟩:=HK.out w1 HB1.out
  go_wp2_with fail
  refine(HAL.out _).mono ?_
  rintro e w2 ⟨v,rfl,ho,hb2⟩
  obtain⟨ad,n,cap,rfl,HN,hn,HF⟩:=things_facts ho
  have HB2:=zh (blN HB1.out hb2)
  have hnz:(n:Int)=z:=by rw[HN.out]; exact HLN.out
  clear ho hb2 z0 z1 z2
  go_wp2
  go_ret
  exact⟨rfl,blN HB0.out HB2.out⟩
 ·rw[Geom.check_no hg] at hch
  have hr:g.size=0:=if_neg hg
  rw[hr]
  obtain⟨ga,gb,gc⟩:=g
  unfold gV at hch ⊢
  clear hg hr
  have HCH:=zh hch
  clear hch
  obtain⟨W0,hW0⟩:=zg w ga gb gc
  have hk:=g_keep hW0
  have HB0:=zh hk.1
  have HK:=zh hk.2
  clear hk
  obtain⟨z0,z1,z2⟩:=HK.out W0 (Below.refl _ _)
  go_enter Tryz.func21,Tryz.ntmps21
  go_wp2_with fail
  refine(HCH.out _).mono ?_
  rintro e w1 ⟨rfl,hb1⟩
  have HB1:=zh (blN (Below.refl _ _) hb1)
  clear hb1
  clear z0 z1 z2
  go_wp2
  go_ret
  exact⟨rfl,blN HB0.out HB1.out⟩
theorem rgwhat_any (w:World) (g:Sp.Geom) (s:Int):Calls Tryz.prog 109 #[gV g,.int .i64 s] w (RWhatPost g s w):=by
 have hch:=fun W:World=>rgcheck_any W g
 by_cases hg:g.ok
 rotate_left
 ·rw[Geom.check_no hg] at hch
  have HP:Hid (∀w',Below w.heap.size w w'→RWhatPost g s w (.returned (.tuple #[.int .i64 0,.int .i64 0,.int .i64 4])) w'):=fun w' hb=>by
   have e:g.what s=(0,0,4):=by unfold Geom.what Geom.within; rw[if_neg hg,if_neg (by decide)]
   unfold RWhatPost
   rw[e]
   exact⟨rfl,hb⟩
  obtain⟨Q,hQ⟩:=zx (RWhatPost g s w)
  rw[hQ] at HP ⊢
  obtain⟨ga,gb,gc⟩:=g
  unfold gV at hch ⊢
  clear hg hQ
  have HCH:=zh hch
  clear hch
  obtain⟨W0,hW0⟩:=zg w ga gb gc
  have hk:=g_keep hW0
  have HB0:=zh hk.1
  have HK:=zh hk.2
  clear hk
  obtain⟨z0,z1,z2⟩:=HK.out W0 (Below.refl _ _)
  go_enter Tryz.func109,Tryz.ntmps109
  go_wp2_with fail
  refine(HCH.out _).mono ?_
  rintro e w1 ⟨rfl,hb1⟩
  have HB1:=zh (blN (Below.refl _ _) hb1)
  clear hb1
  clear z0 z1 z2
  go_wp2
  first | exact HP.out _ (blN HB0.out HB1.out) | (go_ret3; exact HP.out _ (blN HB0.out HB1.out))
 rw[Geom.check_ok hg] at hch
 have hal:=fun W:World=>rgall_any W g hg
 have hln:=allL_length hg
 unfold AllPost at hal
 have hat:=fun(k:Nat) (hk:(k:Int)<g.size)=>allL_at hg hk
 have HPa:Hid (s<0∨g.size≤s→∀w',Below w.heap.size w w'→RWhatPost g s w (.returned (.tuple #[.int .i64 0,.int .i64 0,.int .i64 1])) w'):=fun h w' hb=>by
  have e:g.what s=(0,0,1):=by unfold Geom.what Geom.within; rw[if_pos hg,if_pos h,if_neg (by decide)]
  unfold RWhatPost
  rw[e]
  exact⟨rfl,hb⟩
 have HPb:Hid (¬(s<0∨g.size≤s)→∀a b,(a,b)=g.kind s→∀w',Below w.heap.size w w'→RWhatPost g s w (.returned (.tuple #[.int .i64 a,.int .i64 b,.int .i64 0])) w'):=fun h a b hab w' hb=>by
  have e:g.what s=(a,b,0):=by
   unfold Geom.what Geom.within
   rw[if_pos hg,if_neg h,if_pos rfl,←hab]
  unfold RWhatPost
  rw[e]
  exact⟨rfl,hb⟩
 obtain⟨Q,hQ⟩:=zx (RWhatPost g s w)
 rw[hQ] at HPa HPb ⊢
 obtain⟨l,hl⟩:=zx (allL g)
 obtain⟨z,hz⟩:=zx (g.size)
 obtain⟨kd,hkd⟩:=zx (g.kind s)
 rw[hl] at hal hln hat
 rw[hz] at hln hat HPa HPb
 have hat2:∀(k:Nat) (x:Sp.Thing),(k:Int)=s→(k:Int)<z→l[k]? = some x→(x.kind,x.number)=g.kind s:=fun k x hk hz hx=>by
  obtain⟨y,hy,e⟩:=hat k hz
  obtain rfl:x=y:=Option.some.inj (hx.symm.trans hy)
  rw[e,hk]
 rw[hkd] at hat2 HPb
 obtain⟨ga,gb,gc⟩:=g
 unfold gV at hch hal ⊢
 clear hg hl hz hQ hkd hat
 have HCH:=zh hch
 have HAL:=zh hal
 have HLN:=zh hln
 have HAT2:=zh hat2
 clear hch hal hln hat2
 obtain⟨W0,hW0⟩:=zg w ga gb gc
 have hk:=g_keep hW0
 have HB0:=zh hk.1
 have HK:=zh hk.2
 clear hk
 obtain⟨z0,z1,z2⟩:=HK.out W0 (Below.refl _ _)
 go_enter Tryz.func109,Tryz.ntmps109
 go_wp2_with fail
 refine(HCH.out _).mono ?_
 rintro e w1 ⟨rfl,hb1⟩
 have HB1:=zh (blN (Below.refl _ _) hb1)
 clear hb1
 clear z0 z1 z2
 obtain⟨z0,z1,z2⟩:=HK.out w1 HB1.out
 go_wp2_with fail
 refine(HAL.out _).mono ?_
 rintro e w2 ⟨v,rfl,ho,hb2⟩
 obtain⟨ad,n,cap,rfl,HN,hn,HF⟩:=things_facts ho
 have HB2:=zh (blN HB1.out hb2)
 have hnz:(n:Int)=z:=by rw[HN.out]; exact HLN.out
 have HNZ:=zh hnz
 clear ho hb2 z0 z1 z2 hnz
 by_cases h0:s<0
 ·have f1:decide (s<0)=true:=decide_eq_true h0
  have HF1:=zh (HPa.out (Or.inl h0) w2 (blN HB0.out HB2.out))
  go_wp2
  first | exact HF1.out | (go_ret3; exact HF1.out)
 have f1:decide (s<0)=false:=decide_eq_false h0
 by_cases h1:(n:Int)≤s
 ·have f2:decide (s≥(n:Int))=true:=decide_eq_true h1
  have f2':decide ((n:Int)≤s)=true:=decide_eq_true h1
  have HF1:=zh (HPa.out (Or.inr (by have:=HNZ.out; omega)) w2 (blN HB0.out HB2.out))
  go_wp2
  first | exact HF1.out | (go_ret3; exact HF1.out)
 have f2:decide (s≥(n:Int))=false:=decide_eq_false h1
 have f2':decide ((n:Int)≤s)=false:=decide_eq_false h1
 obtain⟨k,rfl⟩:∃k:Nat,s=(k:Int):=⟨s.toNat,by omega⟩
 obtain⟨b,o,x,rfl,hbb,hx,hc0,hc1⟩:=HF.out k (by omega)
 have hab:=HAT2.out k x rfl (by have:=HNZ.out; omega) hx
 have HFin:=zh (HPb.out (by have:=HNZ.out; omega) _ _ hab)
 have HKC:Hid (∀W,Below w2.heap.size w2 W→W.cell? ⟨b,o+k*4,none⟩=some (.int .i64 x.kind)∧W.cell? ⟨b,o+k*4+1,none⟩=some (.int .i64 x.number)):=fun W hW=>⟨(hW.cell (p:=⟨b,o+k*4,none⟩) hbb).trans hc0,(hW.cell (p:=⟨b,o+k*4+1,none⟩) hbb).trans hc1⟩
 have hkn:(k:Int)<(n:Int):=by omega
 obtain⟨xk,xn,xg,xp⟩:=x
 simp only at HKC HFin
 clear hc0 hc1 hx hab HPa HPb HAT2 HAL HF
 go_wp2_with fail
 go_region_held3 (fun W=>W.cell? ⟨b,o+k*4,none⟩=some (.int .i64 xk)∧W.cell? ⟨b,o+k*4+1,none⟩=some (.int .i64 xn))
  ((refine HKC.out _ ?_; repeat' first | with_reducible exact Below.refl _ _ | with_reducible refine blD ?_ | with_reducible refine bl1 ?_ _))
  (fail)
 all_goals
  go_wp2
  first | exact HFin.out _ (blN HB0.out (blD HB2.out)) | (go_ret3; exact HFin.out _ (blN HB0.out (blD HB2.out)))
end
