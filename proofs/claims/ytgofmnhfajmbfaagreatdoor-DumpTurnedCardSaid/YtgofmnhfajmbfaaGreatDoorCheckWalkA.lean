import Derived.Test.YtgofmnhfajmbfaaGreatDoorTk
import Derived.Test.YtgofmnhfajmbfaaGreatDoorCheckName
import Derived.Test.YtgofmnhfajmbfaaGreatDoorBmWrite
set_option maxHeartbeats 4000000
namespace Go.Proofs.YtgofmnhfajmbfaaGreatDoor
open Go Go.RowKit Txt Sp
def q45z (w:World) (vs:Value) (N:Nat) (S:Int→ByteArray) (D:Nat→Prop):Prop:=
 ∃b o cap,vs = .slice (some ⟨b,o,none⟩) N cap∧b<w.heap.size∧¬D b∧N≤1000000∧∀k:Nat,k<N→w.cell? ⟨b,o+k,none⟩=some (.string (S k))
section
variable {w w1 w':World} {base B N:Nat} {g:Sp.Geom} {vs:Value} {m:LookP} {t t':Sp.Look} {D D' K:Nat→Prop} {S:Int→ByteArray}
theorem q45z.turn (h:q45z w vs N S D) (hT:Turn D w w'):q45z w' vs N S D:=by
 obtain⟨b,o,cap,e,hb,hd,hn,hc⟩:=h
 have hz:=hT.size
 refine⟨b,o,cap,e,by omega,hd,hn,fun k hk=>?_⟩
 have h1:=hc k hk
 unfold World.cell? at h1 ⊢
 simp only at h1 ⊢
 rw[hT.block b hb hd]
 exact h1
theorem q45z.below (h:q45z w vs N S D) (hb:Below w.heap.size w w'):q45z w' vs N S D:=h.turn (Turn.of_below hb)
theorem q45z.to (h:q45z w vs N S D) (hL:q8z w base B g vs m t D w' D'):q45z w' vs N S D':=by
 obtain⟨b,o,cap,e,hb,hd,hn,hc⟩:=h.turn hL.2.2
 refine⟨b,o,cap,e,hb,fun hj=>(hL.2.1 b hj).elim hd (fun hj=>?_),hn,hc⟩
 obtain⟨b',o',cap',e',hb',_⟩:=h
 rw[e] at e'
 cases e'
 omega
theorem q45z.facts (h:q45z w vs N S D) {k:Nat} (hk:k<N):∃b o cap,vs = .slice (some ⟨b,o,none⟩) N cap∧N≤1000000∧w.cell? ⟨b,o+k,none⟩=some (.string (S k)):=by
 obtain⟨b,o,cap,e,_,_,hn,hc⟩:=h
 exact⟨b,o,cap,e,hn,hc k hk⟩
theorem q8z.turned (h:q8z w base B g vs m t D w1 D') (hB:B<w.heap.size) (hT:Turn K w1 w') (hK:∀j,K j→¬D' j∧w.heap.size≤j):q8z w base B g vs m t D w' D':=by
 obtain⟨h1,h2,h3⟩:=h
 have hz:=hT.size
 exact⟨h1.turn hT (fun j hd hk=>(hK j hk).1 hd) (fun hk=>by have:=(hK B hk).2; omega),fun j hj=>(h2 j hj).imp_right (fun h=>⟨h.1,by omega⟩),h3.trans hT (fun _ _ h=>h) (fun j hj hk=>by have:=(hK j hk).2; omega)⟩
theorem q108z {row:Option Nat} (hg:w.grownBy w' row):Turn (fun j=>row=some j) w w':=⟨hg.os,hg.tape,hg.output,hg.size,fun k hk hne=>hg.block k hk (fun e=>hne e.symm)⟩
theorem LookAt.cells (h:LookAt w base B g vs m t D):(w.cell? ⟨B,0,none⟩=some (.int .i64 g.groups)∧w.cell? ⟨B,1,none⟩=some (.int .i64 g.inodes)∧w.cell? ⟨B,2,none⟩=some (.int .i64 g.blocks))∧w.cell? ⟨B,3,none⟩=some vs ∧
 w.cell? ⟨B,4,none⟩=some (.map (some m.nodes))∧w.cell? ⟨B,5,none⟩=some (.map (some m.inn))∧w.cell? ⟨B,6,none⟩=some (.map (some m.names))∧w.cell? ⟨B,7,none⟩=some (.map (some m.named))∧w.cell? ⟨B,8,none⟩=some (.map (some m.found)):=
 ⟨⟨cellOf h.box rfl,cellOf h.box rfl,cellOf h.box rfl⟩,cellOf h.box rfl,cellOf h.box rfl,cellOf h.box rfl,cellOf h.box rfl,cellOf h.box rfl,cellOf h.box rfl⟩
set_option maxRecDepth 20000
theorem q73z (h:LookAt w base B g vs m t D) (k a:Int):Calls Tryz.prog 147 #[pt B,.int .i64 k,.int .i64 a] w fun e w'=>e = .returned (.tuple #[])∧q8z w base B g vs m (t.tell k a) D w' D:=by
 obtain⟨W,hrun,hW,hT⟩:=h.tell k a
 obtain⟨-,-,-,-,-,-,c8⟩:=h.cells
 have HQ:Hid (q8z w base B g vs m (t.tell k a) D W D):=⟨hW,fun _ h=>Or.inl h,hT.mono (fun j _ hj=>by rw[show j=m.found from hj]; exact h.own.2.2.2.2)⟩
 unfold pt
 clear hW hT h
 go_enter Tryz.func147,Tryz.ntmps147
 go_wp2
 go_end0
 exact⟨rfl,HQ.out⟩
theorem cat_any (h:LookAt w base B g vs m t D) (i:Int):Calls Tryz.prog 149 #[pt B,.int .i64 i] w fun e w'=>e = .returned (.int .i64 (q23z g i).1)∧Below w.heap.size w w':=by
 have hi:=fun W:World=>ginode_any W g i
 obtain⟨⟨c0,c1,c2⟩,-⟩:=h.cells
 obtain⟨x,hx⟩:=zx (q23z g i)
 rw[hx] at hi ⊢
 obtain⟨x1,x2,x3,x4⟩:=x
 unfold gV at hi
 dsimp only at hi ⊢
 obtain⟨ga,gb,gc⟩:=g
 dsimp only at hi c0 c1 c2
 unfold pt
 have HI:=zh hi
 clear hi
 clear h hx
 go_enter Tryz.func149,Tryz.ntmps149
 go_wp2_with fail
 refine(HI.out _).mono ?_
 rintro e w1 ⟨rfl,hb1⟩
 have HB1:=zh hb1
 clear hb1 c0 c1 c2
 go_wp2
 go_ret
 exact⟨rfl,HB1.out⟩
theorem list8x {l:List Int} (h:l.length=8):∃a b c d e f g i,l=[a,b,c,d,e,f,g,i]:=by
 match l,h with
 | [a,b,c,d,e,f,g,i],_=>exact⟨a,b,c,d,e,f,g,i,rfl⟩
theorem ints_direct {W:World} {b:Nat} {x0 x1 x2 x3 x4 d0 d1 d2 d3 d4 d5 d6 d7 x6:Int} (h:W.heap[b]? = some (.cells #[.int .i64 x0,.int .i64 x1,.int .i64 x2,.int .i64 x3,.int .i64 x4,.int .i64 d0,.int .i64 d1,.int .i64 d2,.int .i64 d3,.int .i64 d4,.int .i64 d5,.int .i64 d6,.int .i64 d7,.int .i64 x6] 69 (0,0))) :
 Ints W (.slice (some ⟨b,5,none⟩) 8 8) [d0,d1,d2,d3,d4,d5,d6,d7]:=
 q75z (o:=5) h (fun j y hj=>by
  have h8:j<8:=(List.getElem?_eq_some_iff.1 hj).1
  match j,h8,hj with
  | 0,_,hj | 1,_,hj | 2,_,hj | 3,_,hj | 4,_,hj | 5,_,hj | 6,_,hj | 7,_,hj=>(have e:=Option.some.inj hj; rw[←e]; rfl)
  | k+8,h,_=>omega) (by unfold maxLen; simp) rfl
def BlksPost (w:World) (base B:Nat) (g:Sp.Geom) (vs:Value) (m:LookP) (D:Nat→Prop) (p:Sp.Look×List Int) (e:Ending) (w':World):Prop:=
 ∃v,e = .returned v∧OwnR 3 1 intC w.heap.size w' v p.2∧q8z w base B g vs m p.1 D w' D
theorem cblocks_any (h:LookAt w base B g vs m t D) (hs:q45z w vs N S D) (hN:(N:Int)=g.size) {n:Sp.Inode} (hn:NodeOk g n):Calls Tryz.prog 207 #[pt B,.agg (nA n)] w (BlksPost w base B g vs m D (t.blocks g S n)):=by
 obtain⟨ga,gb,gc⟩:=g
 have hmore:=hn.more
 have hlen:=hn.len
 obtain⟨x0,x1,x2,x3,x4,dd,x6⟩:=n
 dsimp only at hmore hlen
 obtain⟨d0,d1,d2,d3,d4,d5,d6,d7,rfl⟩:=list8x hlen
 have hno:x6=0→t.blocks ⟨ga,gb,gc⟩ S ⟨x0,x1,x2,x3,x4,[d0,d1,d2,d3,d4,d5,d6,d7],x6⟩=(t,[d0,d1,d2,d3,d4,d5,d6,d7]):=fun e=>by unfold Look.blocks; rw[if_pos e]
 obtain⟨b,hb⟩:=zx (t.blocks ⟨ga,gb,gc⟩ S ⟨x0,x1,x2,x3,x4,[d0,d1,d2,d3,d4,d5,d6,d7],x6⟩)
 rw[hb] at hno ⊢
 obtain⟨W0,hW0⟩:=zx (w.alloc (.cells #[.int .i64 x0,.int .i64 x1,.int .i64 x2,.int .i64 x3,.int .i64 x4,.int .i64 d0,.int .i64 d1,.int .i64 d2,.int .i64 d3,.int .i64 d4,.int .i64 d5,.int .i64 d6,.int .i64 d7,.int .i64 x6] 69))
 have HB0:Hid (Below w.heap.size w W0):=by rw[←hW0]; exact bl2 _
 have HZ0:Hid (W0.heap[w.heap.size]? = some (.cells #[.int .i64 x0,.int .i64 x1,.int .i64 x2,.int .i64 x3,.int .i64 x4,.int .i64 d0,.int .i64 d1,.int .i64 d2,.int .i64 d3,.int .i64 d4,.int .i64 d5,.int .i64 d6,.int .i64 d7,.int .i64 x6] 69 (0,0))):=by rw[←hW0]; exact q5z w _
 have hcl:=cloneInts_any (ints_direct HZ0.out) (by simp)
 unfold nA iA pt
 dsimp only
 have HL:=zh h
 have HSec:=zh hs
 have HCL:=zh hcl
 clear hcl
 clear h hs hn hlen
 by_cases h0:x6=0
 ·have HE:=zh (hno h0)
  have hm0:(x6 == 0)=true:=by rw[h0]; rfl
  clear hno hb h0 hmore hN
  go_enter Tryz.func207,Tryz.ntmps207
  go_wp2_with fail
  refine HCL.out.mono ?_
  rintro e w1 ⟨v1,rfl,ho1,hb1⟩
  have HO1:=zh (ho1.mono HB0.out.size)
  have HB1:=zh (blN HB0.out hb1)
  have y13:w1.cell? ⟨w.heap.size,13,none⟩=some (.int .i64 x6):=cellOf (q1z hb1 HZ0.out) rfl
  clear hb1 ho1 hW0
  go_wp2
  go_ret
  refine⟨v1,rfl,?_,?_⟩
  ·rw[HE.out]; exact HO1.out
  ·rw[HE.out]; exact q8z.none HL.out HB1.out
 ·have hx:=blockOk_bd hmore h0
  rw[←hN] at hx
  obtain⟨k6,hk6⟩:∃k:Nat,x6=(k:Int):=⟨x6.toNat,by omega⟩
  subst hk6
  have hx6:k6<N:=by omega
  have hm0:((k6:Int) == 0)=false:=beq_eq_false_iff_ne.2 h0
  have hyes:t.blocks ⟨ga,gb,gc⟩ S ⟨x0,x1,x2,x3,x4,[d0,d1,d2,d3,d4,d5,d6,d7],(k6:Int)⟩=(if listC ⟨ga,gb,gc⟩ (S (k6:Int))=0 then t.count (k6:Int) else(t.count (k6:Int)).tell 1 (k6:Int),[d0,d1,d2,d3,d4,d5,d6,d7] ++ (if listC ⟨ga,gb,gc⟩ (S (k6:Int))=0 then listOf (S (k6:Int)) else [])):=by unfold Look.blocks; rw[if_neg h0]
  have HE:Hid (b=(if listC ⟨ga,gb,gc⟩ (S (k6:Int))=0 then t.count (k6:Int) else(t.count (k6:Int)).tell 1 (k6:Int),[d0,d1,d2,d3,d4,d5,d6,d7] ++ (if listC ⟨ga,gb,gc⟩ (S (k6:Int))=0 then listOf (S (k6:Int)) else []))):=hb.symm.trans hyes
  clear hno hb h0 hmore hyes hN
  go_enter Tryz.func207,Tryz.ntmps207
  go_wp2_with fail
  refine HCL.out.mono ?_
  rintro e w1 ⟨v1,rfl,ho1,hb1⟩
  have HO1:=zh (ho1.mono HB0.out.size)
  have HB1:=zh (blN HB0.out hb1)
  have hl1:=HL.out.below (blD HB1.out)
  obtain⟨W2,hrun,hl2,hT2⟩:=hl1.count (k6:Int)
  have hcnt:=hl1.run_cnt (k6:Int)
  obtain⟨q,hq⟩:=zx (t.cnt (k6:Int))
  rw[hq] at hrun hcnt
  have HZ1:Hid (w1.drew.heap[w.heap.size]? = some (.cells #[.int .i64 x0,.int .i64 x1,.int .i64 x2,.int .i64 x3,.int .i64 x4,.int .i64 d0,.int .i64 d1,.int .i64 d2,.int .i64 d3,.int .i64 d4,.int .i64 d5,.int .i64 d6,.int .i64 d7,.int .i64 (k6:Int)] 69 (0,0))):=q1z hb1 HZ0.out
  have hmlt:m.named<w.heap.size:=(HL.out.low.2 _ HL.out.own.2.2.2.1).2
  have HZ2:=zh (hT2.heap HZ1.out (fun e=>by have e:w.heap.size=m.named:=e; omega))
  have HO2:=zh (OwnR.turn HO1.out ((Turn.of_below (K:=fun j=>j=m.named) (blD (Below.refl w1.heap.size w1))).trans (K:=fun j=>j=m.named) hT2 (fun _ _ h=>h) (fun _ _ h=>h)) (fun k hk e=>by have:=(OwnR.lt ho1 k hk).1; have:=HB0.out.size; have e:k=m.named:=e; omega))
  have HT2:Hid (Turn D w W2):=(Turn.of_below (K:=D) (blD HB1.out)).trans hT2 (fun _ _ h=>h) (fun k _ e=>by rw[show k=m.named from e]; exact HL.out.own.2.2.2.1)
  have HL2:=zh hl2
  obtain⟨-,-,-,-,-,c7,-⟩:=(HL.out.below HB1.out).cells
  have y13:w1.cell? ⟨w.heap.size,13,none⟩=some (.int .i64 (k6:Int)):=cellOf (q1z hb1 HZ0.out) rfl
  clear hb1 ho1 hW0 hl1 hl2 hT2 hmlt hq
  go_wp2_with fail
  go_still_tail 8,(by kernel_rfl)
  clear hcnt c7 y13
  go_wp2_with fail
  clear hrun
  have hsec:=HSec.out.turn HT2.out
  obtain⟨bv,o,cap,rfl,hN6,hcell⟩:=hsec.facts hx6
  obtain⟨s,hs⟩:=zx (S (k6:Int))
  rw[hs] at hcell
  have HE2:Hid (b=(if listC ⟨ga,gb,gc⟩ s=0 then t.count (k6:Int) else(t.count (k6:Int)).tell 1 (k6:Int),[d0,d1,d2,d3,d4,d5,d6,d7] ++ (if listC ⟨ga,gb,gc⟩ s=0 then listOf s else []))):=by rw[←hs]; exact HE.out
  have hil:=fun W:World=>ilist_any W ⟨ga,gb,gc⟩ s
  have hll:(if listC ⟨ga,gb,gc⟩ s=0 then listOf s else []).length≤32:=by split <;> simp[listOf]
  obtain⟨L,hL⟩:=zx ((if listC ⟨ga,gb,gc⟩ s=0 then listOf s else []))
  unfold q87z at hil
  rw[hL] at hil hll HE2
  obtain⟨c,hc⟩:=zx (listC ⟨ga,gb,gc⟩ s)
  rw[hc] at hil HE2
  have hk:∀W,Below W2.heap.size W2 W→W.cell? ⟨B,0,none⟩=some (.int .i64 ga)∧W.cell? ⟨B,1,none⟩=some (.int .i64 gb)∧W.cell? ⟨B,2,none⟩=some (.int .i64 gc)∧W.cell? ⟨B,3,none⟩=some (.slice (some ⟨bv,o,none⟩) N cap)∧W.cell? ⟨w.heap.size,13,none⟩=some (.int .i64 (k6:Int))∧W.cell? ⟨bv,o+k6,none⟩=some (.string s):=fun W hW=>by
   obtain⟨⟨a0,a1,a2⟩,a3,-⟩:=(HL2.out.below hW).cells
   obtain⟨bv',o',cap',e',-,hcell'⟩:=(hsec.below hW).facts hx6
   cases e'
   rw[hs] at hcell'
   exact⟨a0,a1,a2,a3,cellOf (q1z hW HZ2.out) rfl,hcell'⟩
  have hx0:(0:Int)≤(k6:Int):=hx.1
  have hx1:(k6:Int)<(N:Int):=hx.2
  clear hx
  have HK:=zh hk
  unfold gV at hil
  dsimp only at hil
  have HIL:=zh hil
  clear hil
  clear hsec hcell hs hL hc hk HE HZ1 HO1
  obtain⟨z0,z1,z2,z3,z4,z5⟩:=HK.out W2.drew (blD (Below.refl _ _))
  have hS2:=HK.out W2.drew (blD (Below.refl _ _))
  refine wp_region_held_drew (S:=(fun W=>W.cell? ⟨B,0,none⟩=some (.int .i64 ga)∧W.cell? ⟨B,1,none⟩=some (.int .i64 gb)∧W.cell? ⟨B,2,none⟩=some (.int .i64 gc)∧W.cell? ⟨B,3,none⟩=some (.slice (some ⟨bv,o,none⟩) N cap)∧W.cell? ⟨w.heap.size,13,none⟩=some (.int .i64 (k6:Int))∧W.cell? ⟨bv,o+k6,none⟩=some (.string s))) (by kernel_rfl) (by first | trivial | assumption) (fun hHeld=>?_)
  refine tkH 0 ?_; simp only[Act.put,ps0]
  refine tkH 1 ?_; simp only[Act.put,ps0]
  refine tkH 2 ?_; simp only[Act.put,ps0]
  refine tkH 3 ?_; simp only[Act.put,ps0]
  refine tkH 4 ?_; simp only[Act.put,ps0]
  refine tkH 5 ?_; simp only[Act.put,ps0]
  refine tkH 6 ?_; simp only[Act.put,ps0]
  refine tkH 7 ?_; simp only[Act.put,ps0]
  refine tkH 8 ?_; simp only[Act.put,ps0]
  refine tkH 9 ?_; simp only[Act.put,ps0]
  refine tkH 10 ?_; simp only[Act.put,ps0]
  refine tkH 11 ?_; simp only[Act.put,ps0]
  refine wpAnyH_ready (rs:=[12]) (by kernel_rfl) (by simp) ?_
  refine AllReadyH.cons rfl (fun K hK=>?_) AllReadyH.nil
  try simp only[gg0]
  go_simp
  refine(HIL.out _).mono ?_
  rintro e w3 ⟨v3,rfl,ho3,hb3⟩
  have HB3:Hid (Below W2.heap.size W2 w3):=blN (blD (Below.refl _ _)) hb3
  have HO3:=zh ho3
  clear hb3 ho3
  try simp only
  refine hK.out _ _ ?hkS (fun hHeld=>?_)
  case hkS=>
   exact HK.out _ HB3.out
  clear hK K
  try simp only[Act.put,ps0]
  refine tkH 13 ?_; simp only[Act.put,ps0]
  refine tkH 14 ?_; simp only[Act.put,ps0]
  refine tkH 15 ?_; simp only[Act.put,ps0]
  refine tkH 16 ?_; simp only[Act.put,ps0]
  refine tkH 17 ?_; simp only[Act.put,ps0]
  refine wpAnyH_done (by kernel_rfl) ?_ _
  have HO2b:=zh (OwnR.below HO2.out HB3.out)
  have HA:Hid (q8z w base B ⟨ga,gb,gc⟩ (.slice (some ⟨bv,o,none⟩) N cap) m (t.count k6) D w3 D):=⟨HL2.out.below HB3.out,fun _ h=>Or.inl h,HT2.out.trans (Turn.of_below (K:=D) HB3.out) (fun _ _ h=>h) (fun _ _ h=>h)⟩
  have y13:w3.cell? ⟨w.heap.size,13,none⟩=some (.int .i64 (k6:Int)):=cellOf (q1z HB3.out HZ2.out) rfl
  have HZ3:Hid (w.heap.size≤w3.heap.size):=HA.out.size
  obtain⟨ia,ib,ic,id,ie⟩:=info_parts q103z
  clear hS2 z0 z1 z2 z3 z4 z5
  have HFin:Hid (∀(W W':World) (u:Look) (v5:Value),q8z w base B ⟨ga,gb,gc⟩ (.slice (some ⟨bv,o,none⟩) N cap) m u D W D→OwnR 3 1 intC w.heap.size W v1 [d0,d1,d2,d3,d4,d5,d6,d7]→W.grownBy W' v1.ownBlock→W'.ownsRow w.heap.size 3 1 v5 ([d0,d1,d2,d3,d4,d5,d6,d7].length+L.length) ([d0,d1,d2,d3,d4,d5,d6,d7].flatMap intC ++ L.flatMap intC)→b=(u,[d0,d1,d2,d3,d4,d5,d6,d7] ++ L) →
   BlksPost w base B ⟨ga,gb,gc⟩ (.slice (some ⟨bv,o,none⟩) N cap) m D b (.returned v5) W'):=fun W W' u v5 hto hrow hg hown e=>by
   subst e
   refine⟨v5,rfl,?_,hto.turned HL.out.ltB (q108z hg) (fun j hj=>?_)⟩
   ·unfold OwnR
    rw[List.length_append,List.flatMap_append]
    exact hown
   ·have h1:=(OwnR.lt hrow j hj).1
    exact⟨fun hd=>by have:=(HL.out.low.2 j hd).2; omega,h1⟩
  by_cases hc0:c=0
  ·have hq0:(c == 0)=true:=by rw[hc0]; rfl
   have hq1:(c != 0)=false:=by rw[hc0]; rfl
   rw[if_pos hc0] at HE2
   clear hc0
   go_wp2_with (at_builtin; refine wpList_append_rows _ rfl (.tmp 45) (.tmp 46) _ rfl w.heap.size W2.drew.heap.size 3 ia _ 1 8 Tryz.underlying58 ib ic id ie rfl (by decide) v1 v3 [d0,d1,d2,d3,d4,d5,d6,d7].length L.length ([d0,d1,d2,d3,d4,d5,d6,d7].flatMap intC) (L.flatMap intC) rfl HO2b.out rfl HO3.out ?c1 ?c2 ?c3 ?c4 ?_)
   case c1=>rw[intC_map]; intro u hu; obtain⟨s,_,rfl⟩:=List.mem_map.1 hu; rfl
   case c2=>unfold maxLen; simp; omega
   case c3=>simp; omega
   case c4=>exact HZ3.out
   intro v5 w5 hown5 hg5
   have HP:=zh (HFin.out w3 w5 _ v5 HA.out HO2b.out hg5 hown5 HE2.out)
   clear hown5 hg5
   go_wp2
   go_ret
   exact HP.out
  ·have hq0:(c == 0)=false:=beq_eq_false_iff_ne.2 hc0
   have hq1:(c != 0)=true:=by simpa using hc0
   rw[if_neg hc0] at HE2
   clear hc0
   have htl:=q73z HA.out.1 1 (k6:Int)
   unfold pt at htl
   have HTL:=zh htl
   clear htl
   go_wp2_with fail
   refine HTL.out.mono ?_
   rintro e w4 ⟨rfl,hto4⟩
   have HA4:=zh (HA.out.trans hto4)
   have HO4:=zh (hto4.row HO2b.out (fun k hk hd=>by have:=(OwnR.lt HO2b.out k hk).1; have:=(HL.out.low.2 k hd).2; omega)).1
   have HO4b:=zh (hto4.row HO3.out (fun k hk hd=>by have:=(OwnR.lt HO3.out k hk).1; have:=(HL.out.low.2 k hd).2; have h5:=HT2.out.size; have h6:W2.drew.heap.size=W2.heap.size:=rfl; omega)).1
   have HZ4:Hid (w.heap.size≤w4.heap.size):=HA4.out.size
   clear hto4 y13
   go_wp2_with (at_builtin; refine wpList_append_rows _ rfl (.tmp 45) (.tmp 46) _ rfl w.heap.size W2.drew.heap.size 3 ia _ 1 8 Tryz.underlying58 ib ic id ie rfl (by decide) v1 v3 [d0,d1,d2,d3,d4,d5,d6,d7].length L.length ([d0,d1,d2,d3,d4,d5,d6,d7].flatMap intC) (L.flatMap intC) rfl HO4.out rfl HO4b.out ?k1 ?k2 ?k3 ?k4 ?_)
   case k1=>rw[intC_map]; intro u hu; obtain⟨s,_,rfl⟩:=List.mem_map.1 hu; rfl
   case k2=>unfold maxLen; simp; omega
   case k3=>simp; omega
   case k4=>exact HZ4.out
   intro v5 w5 hown5 hg5
   have HP:=zh (HFin.out w4 w5 _ v5 HA4.out HO4.out hg5 hown5 HE2.out)
   clear hown5 hg5
   go_wp2
   go_ret
   exact HP.out
end
