import Derived.Test.YtmljdnlmpiklgaaGreatDoorInodeA
namespace Go.Proofs.YtmljdnlmpiklgaaGreatDoor
open Go Go.RowKit Txt Sp
def nA (n:Sp.Inode):Array Value:=iA n.kind n.links n.size n.parent n.gen (n.direct.getD 0 0) (n.direct.getD 1 0) (n.direct.getD 2 0) (n.direct.getD 3 0) (n.direct.getD 4 0) (n.direct.getD 5 0) (n.direct.getD 6 0) (n.direct.getD 7 0) n.more
def zeroN:Sp.Inode:=⟨0,0,0,0,0,[0,0,0,0,0,0,0,0],0⟩
def IDec (g:Sp.Geom) (s:ByteArray) (w:World) (e:Ending) (w':World):Prop:=
 e = .returned (.tuple #[.agg (nA (if g.ok∧isInode g s then inodeOf s else zeroN)),.int .i64 (if g.ok then(if isInode g s then 0 else 60) else 4)])∧Below w.heap.size w w'
theorem idec_four {g:Sp.Geom} {s:ByteArray} {w w':World} (h:¬g.ok) (hb:Below w.heap.size w w'):IDec g s w (.returned (.tuple #[.agg #[.int .i64 0,.int .i64 0,.int .i64 0,.int .i64 0,.int .i64 0,.int .i64 0,.int .i64 0,.int .i64 0,.int .i64 0,.int .i64 0,.int .i64 0,.int .i64 0,.int .i64 0,.int .i64 0],.int .i64 4])) w':=by
 refine⟨?_,hb⟩
 rw[if_neg (fun k=>h k.1),if_neg h]
 rfl
theorem idec_no {g:Sp.Geom} {s:ByteArray} {w w':World} (hg:g.ok) (h:¬isInode g s) (hb:Below w.heap.size w w'):IDec g s w (.returned (.tuple #[.agg #[.int .i64 0,.int .i64 0,.int .i64 0,.int .i64 0,.int .i64 0,.int .i64 0,.int .i64 0,.int .i64 0,.int .i64 0,.int .i64 0,.int .i64 0,.int .i64 0,.int .i64 0,.int .i64 0],.int .i64 60])) w':=by
 refine⟨?_,hb⟩
 rw[if_neg (fun k=>h k.2),if_pos hg,if_neg h]
 rfl
theorem idec_yes {g:Sp.Geom} {s:ByteArray} {w w':World} {x0 x1 x2 x3 x4 d0 d1 d2 d3 d4 d5 d6 d7 x6:Int} (hg:g.ok) (h:isInode g s) (hn:inodeOf s=iN x0 x1 x2 x3 x4 d0 d1 d2 d3 d4 d5 d6 d7 x6) (hb:Below w.heap.size w w'):IDec g s w (.returned (.tuple #[.agg #[.int .i64 x0,.int .i64 x1,.int .i64 x2,.int .i64 x3,.int .i64 x4,.int .i64 d0,.int .i64 d1,.int .i64 d2,.int .i64 d3,.int .i64 d4,.int .i64 d5,.int .i64 d6,.int .i64 d7,.int .i64 x6],.int .i64 0])) w':=by
 refine⟨?_,hb⟩
 rw[if_pos ⟨hg,h⟩,if_pos hg,if_pos h,hn]
 rfl
theorem inodeOf_eq {s:ByteArray} (hs:s.size=64):inodeOf s=iN (getN s 0 1) (getN s 1 1) (getN s 2 2) (getN s 4 2) (getN s 6 2) (getN s 8 2) (getN s 10 2) (getN s 12 2) (getN s 14 2) (getN s 16 2) (getN s 18 2) (getN s 20 2) (getN s 22 2) (getN s 24 2):=by
 have h1:∀(off:Nat) (b:Int),wide b→inside (off:Int) b→getN s (off:Int) b=(numAt s off b.toNat:Int):=fun off b hw hi=>by
  have hc:getC s (off:Int) b=0:=by
   unfold getC
   rw[if_neg (by simp[hs]),if_pos ⟨hw,hi⟩]
  unfold getN
  rw[if_pos hc]
  rfl
 have b0:byteAt s 0=(numAt s 0 1:Int):=by rw[byteAt_get (by omega),num_one (by omega)]
 have b1:byteAt s 1=(numAt s 1 1:Int):=by rw[byteAt_get (by omega),num_one (by omega)]
 have e0:getN s 0 1=(numAt s 0 1:Int):=h1 0 1 (by decide) (by decide)
 have e1:getN s 1 1=(numAt s 1 1:Int):=h1 1 1 (by decide) (by decide)
 have e2:getN s 2 2=(numAt s 2 2:Int):=h1 2 2 (by decide) (by decide)
 have e3:getN s 4 2=(numAt s 4 2:Int):=h1 4 2 (by decide) (by decide)
 have e4:getN s 6 2=(numAt s 6 2:Int):=h1 6 2 (by decide) (by decide)
 have g0:getN s 8 2=(numAt s 8 2:Int):=h1 8 2 (by decide) (by decide)
 have g1:getN s 10 2=(numAt s 10 2:Int):=h1 10 2 (by decide) (by decide)
 have g2:getN s 12 2=(numAt s 12 2:Int):=h1 12 2 (by decide) (by decide)
 have g3:getN s 14 2=(numAt s 14 2:Int):=h1 14 2 (by decide) (by decide)
 have g4:getN s 16 2=(numAt s 16 2:Int):=h1 16 2 (by decide) (by decide)
 have g5:getN s 18 2=(numAt s 18 2:Int):=h1 18 2 (by decide) (by decide)
 have g6:getN s 20 2=(numAt s 20 2:Int):=h1 20 2 (by decide) (by decide)
 have g7:getN s 22 2=(numAt s 22 2:Int):=h1 22 2 (by decide) (by decide)
 have e6:getN s 24 2=(numAt s 24 2:Int):=h1 24 2 (by decide) (by decide)
 unfold inodeOf iN
 rw[b0,b1,e0,e1,e2,e3,e4,e6,g0,g1,g2,g3,g4,g5,g6,g7]
 rfl
def decL (x0 x1 x2 x3 x4:Int) (d:Nat→Int) (x6:Int) (j:Nat):List Int:=
 [x0,x1,x2,x3,x4,if 0<j then d 0 else 0,if 1<j then d 1 else 0,if 2<j then d 2 else 0,if 3<j then d 3 else 0,if 4<j then d 4 else 0,if 5<j then d 5 else 0,if 6<j then d 6 else 0,if 7<j then d 7 else 0,x6]
theorem decL_set (x0 x1 x2 x3 x4 x6:Int) (d:Nat→Int):∀j,j<8→(decL x0 x1 x2 x3 x4 d x6 j).set (5+j) (d j)=decL x0 x1 x2 x3 x4 d x6 (j+1)
 | 0,_=>rfl
 | 1,_=>rfl
 | 2,_=>rfl
 | 3,_=>rfl
 | 4,_=>rfl
 | 5,_=>rfl
 | 6,_=>rfl
 | 7,_=>rfl
section
set_option maxHeartbeats 16000000
theorem iget_any (w:World) (bx:Nat) (s:ByteArray) (off n:Int) (hb:w.cell? ⟨bx,0,none⟩=some (.string s)):Calls Tryz.prog 179 #[.int .i64 off,.int .i64 n,.pointer (some ⟨bx,0,none⟩)] w fun e w'=>e = .returned (.int .i64 (getN s off n))∧Below w.heap.size w w':=by
 have hg:=fun W:World=>fget_draws W s off n
 have HG:=zh hg
 clear hg
 go_enter Tryz.func179,Tryz.ntmps179
 go_wp2_with fail
 refine(HG.out _).mono ?_
 rintro e w1 ⟨rfl,q,rfl⟩
 go_wp2
 go_ret
 exact⟨rfl,below_drewN (Below.refl _ _) q⟩
set_option maxRecDepth 20000 in
theorem idecode_any (w:World) (g:Sp.Geom) (s:ByteArray):Calls Tryz.prog 138 #[gV g,.string s] w (IDec g s w):=by
 have hc:=fun W:World=>gcheck_any W g
 have HF4:Hid (¬g.ok→∀w',Below w.heap.size w w'→IDec g s w (.returned (.tuple #[.agg #[.int .i64 0,.int .i64 0,.int .i64 0,.int .i64 0,.int .i64 0,.int .i64 0,.int .i64 0,.int .i64 0,.int .i64 0,.int .i64 0,.int .i64 0,.int .i64 0,.int .i64 0,.int .i64 0],.int .i64 4])) w'):=fun h w' hb=>idec_four h hb
 have HNo:Hid (g.ok→¬isInode g s→∀w',Below w.heap.size w w'→IDec g s w (.returned (.tuple #[.agg #[.int .i64 0,.int .i64 0,.int .i64 0,.int .i64 0,.int .i64 0,.int .i64 0,.int .i64 0,.int .i64 0,.int .i64 0,.int .i64 0,.int .i64 0,.int .i64 0,.int .i64 0,.int .i64 0],.int .i64 60])) w'):=fun hg h w' hb=>idec_no hg h hb
 have HYes:Hid (g.ok→isInode g s→∀x0 x1 x2 x3 x4 d0 d1 d2 d3 d4 d5 d6 d7 x6 w',inodeOf s=iN x0 x1 x2 x3 x4 d0 d1 d2 d3 d4 d5 d6 d7 x6→Below w.heap.size w w'→IDec g s w (.returned (.tuple #[.agg #[.int .i64 x0,.int .i64 x1,.int .i64 x2,.int .i64 x3,.int .i64 x4,.int .i64 d0,.int .i64 d1,.int .i64 d2,.int .i64 d3,.int .i64 d4,.int .i64 d5,.int .i64 d6,.int .i64 d7,.int .i64 x6],.int .i64 0])) w'):=fun hg h _ _ _ _ _ _ _ _ _ _ _ _ _ _ w' hn hb=>idec_yes hg h hn hb
 have hen:=fun(W:World) (x0 x1 x2 x3 x4 d0 d1 d2 d3 d4 d5 d6 d7 x6:Int)=>iencode_any W g x0 x1 x2 x3 x4 d0 d1 d2 d3 d4 d5 d6 d7 x6
 obtain⟨Q,hQ⟩:=zx (IDec g s w)
 rw[hQ] at HF4 HNo HYes ⊢
 clear hQ
 by_cases hg:g.ok
 rotate_left
 ·rw[Geom.check_no hg] at hc
  have HE:=zh (HF4.out hg)
  obtain⟨ga,gb,gc⟩:=g
  unfold gV at hc ⊢
  have HC:=zh hc
  clear hc
  clear hg HNo HYes hen HF4
  go_enter Tryz.func138,Tryz.ntmps138
  go_wp2_with fail
  refine(HC.out _).mono ?_
  rintro e w1 ⟨rfl,hb1⟩
  obtain⟨hbl,hz0,hz1,hz2⟩:=boxes3 hb1
  have HB1:=zh hbl
  have HZ2:=zh hz2
  have y0:=zc 0 hz2
  have y1:=zc 1 hz2
  have y2:=zc 2 hz2
  have y3:=zc 3 hz2
  have y4:=zc 4 hz2
  have y5:=zc 5 hz2
  have y6:=zc 6 hz2
  have y7:=zc 7 hz2
  have y8:=zc 8 hz2
  have y9:=zc 9 hz2
  have y10:=zc 10 hz2
  have y11:=zc 11 hz2
  have y12:=zc 12 hz2
  have y13:=zc 13 hz2
  have v0:w1.frozen? ⟨w.heap.size+1+1,0,none⟩=false:=freeOf hz2
  have v1:w1.frozen? ⟨w.heap.size+1+1,1,none⟩=false:=freeOf hz2
  have v2:w1.frozen? ⟨w.heap.size+1+1,2,none⟩=false:=freeOf hz2
  have v3:w1.frozen? ⟨w.heap.size+1+1,3,none⟩=false:=freeOf hz2
  have v4:w1.frozen? ⟨w.heap.size+1+1,4,none⟩=false:=freeOf hz2
  have v5:w1.frozen? ⟨w.heap.size+1+1,5,none⟩=false:=freeOf hz2
  have v6:w1.frozen? ⟨w.heap.size+1+1,6,none⟩=false:=freeOf hz2
  have v7:w1.frozen? ⟨w.heap.size+1+1,7,none⟩=false:=freeOf hz2
  have v8:w1.frozen? ⟨w.heap.size+1+1,8,none⟩=false:=freeOf hz2
  have v9:w1.frozen? ⟨w.heap.size+1+1,9,none⟩=false:=freeOf hz2
  have v10:w1.frozen? ⟨w.heap.size+1+1,10,none⟩=false:=freeOf hz2
  have v11:w1.frozen? ⟨w.heap.size+1+1,11,none⟩=false:=freeOf hz2
  have v12:w1.frozen? ⟨w.heap.size+1+1,12,none⟩=false:=freeOf hz2
  have v13:w1.frozen? ⟨w.heap.size+1+1,13,none⟩=false:=freeOf hz2
  clear hb1 hbl hz0 hz1 hz2
  go_wp2
  obtain⟨Wf,hWf⟩:=zx (sets w1 (w.heap.size+1+1) 0 [.int .i64 0,.int .i64 0,.int .i64 0,.int .i64 0,.int .i64 0,.int .i64 0,.int .i64 0,.int .i64 0,.int .i64 0,.int .i64 0,.int .i64 0,.int .i64 0,.int .i64 0,.int .i64 0])
  have hw4:=sets_all (vs:=[.int .i64 0,.int .i64 0,.int .i64 0,.int .i64 0,.int .i64 0,.int .i64 0,.int .i64 0,.int .i64 0,.int .i64 0,.int .i64 0,.int .i64 0,.int .i64 0,.int .i64 0,.int .i64 0]) HZ2.out rfl
  have hb4:=sets_below (B:=w.heap.size) (b:=w.heap.size+1+1) (by omega) [.int .i64 0,.int .i64 0,.int .i64 0,.int .i64 0,.int .i64 0,.int .i64 0,.int .i64 0,.int .i64 0,.int .i64 0,.int .i64 0,.int .i64 0,.int .i64 0,.int .i64 0,.int .i64 0] 0 _ HB1.out
  rw[hWf] at hw4 hb4
  show bodyPost _ _ _ _ _ (sets w1 (w.heap.size+1+1) 0 [.int .i64 0,.int .i64 0,.int .i64 0,.int .i64 0,.int .i64 0,.int .i64 0,.int .i64 0,.int .i64 0,.int .i64 0,.int .i64 0,.int .i64 0,.int .i64 0,.int .i64 0,.int .i64 0])
  rw[hWf]
  clear y0 v0 y1 v1 y2 v2 y3 v3 y4 v4 y5 v5 y6 v6 y7 v7 y8 v8 y9 v9 y10 v10 y11 v11 y12 v12 y13 v13 
  have y0:=zc 0 hw4
  have y1:=zc 1 hw4
  have y2:=zc 2 hw4
  have y3:=zc 3 hw4
  have y4:=zc 4 hw4
  have y5:=zc 5 hw4
  have y6:=zc 6 hw4
  have y7:=zc 7 hw4
  have y8:=zc 8 hw4
  have y9:=zc 9 hw4
  have y10:=zc 10 hw4
  have y11:=zc 11 hw4
  have y12:=zc 12 hw4
  have y13:=zc 13 hw4
  refine bodyPost_ret (v:=.tuple #[.agg #[.int .i64 0,.int .i64 0,.int .i64 0,.int .i64 0,.int .i64 0,.int .i64 0,.int .i64 0,.int .i64 0,.int .i64 0,.int .i64 0,.int .i64 0,.int .i64 0,.int .i64 0,.int .i64 0],.int .i64 4]) (by simp[results,Tryz.results138,go_sem,y0,y1,y2,y3,y4,y5,y6,y7,y8,y9,y10,y11,y12,y13]) rfl ?_
  exact HE.out _ hb4
 rw[Geom.check_ok hg] at hc
 have HNg:=zh (HNo.out hg)
 have HYg:=zh (HYes.out hg)
 clear HF4 HNo HYes
 by_cases hs:s.size=64
 rotate_left
 ·have hni:¬isInode g s:=fun h=>hs h.1
  have HE:=zh (HNg.out hni)
  have f1:((s.size:Int) == 64)=false:=beq_eq_false_iff_ne.2 (by omega)
  have f2:((s.size:Int) != 64)=true:=by rw[bne,f1]; rfl
  obtain⟨ga,gb,gc⟩:=g
  unfold gV at hc ⊢
  have HC:=zh hc
  clear hc
  clear hg hen hs hni HNg HYg
  go_enter Tryz.func138,Tryz.ntmps138
  go_wp2_with fail
  refine(HC.out _).mono ?_
  rintro e w1 ⟨rfl,hb1⟩
  obtain⟨hbl,hz0,hz1,hz2⟩:=boxes3 hb1
  have HB1:=zh hbl
  have HZ2:=zh hz2
  have k0:=zc 0 hz1
  have y0:=zc 0 hz2
  have y1:=zc 1 hz2
  have y2:=zc 2 hz2
  have y3:=zc 3 hz2
  have y4:=zc 4 hz2
  have y5:=zc 5 hz2
  have y6:=zc 6 hz2
  have y7:=zc 7 hz2
  have y8:=zc 8 hz2
  have y9:=zc 9 hz2
  have y10:=zc 10 hz2
  have y11:=zc 11 hz2
  have y12:=zc 12 hz2
  have y13:=zc 13 hz2
  have v0:w1.frozen? ⟨w.heap.size+1+1,0,none⟩=false:=freeOf hz2
  have v1:w1.frozen? ⟨w.heap.size+1+1,1,none⟩=false:=freeOf hz2
  have v2:w1.frozen? ⟨w.heap.size+1+1,2,none⟩=false:=freeOf hz2
  have v3:w1.frozen? ⟨w.heap.size+1+1,3,none⟩=false:=freeOf hz2
  have v4:w1.frozen? ⟨w.heap.size+1+1,4,none⟩=false:=freeOf hz2
  have v5:w1.frozen? ⟨w.heap.size+1+1,5,none⟩=false:=freeOf hz2
  have v6:w1.frozen? ⟨w.heap.size+1+1,6,none⟩=false:=freeOf hz2
  have v7:w1.frozen? ⟨w.heap.size+1+1,7,none⟩=false:=freeOf hz2
  have v8:w1.frozen? ⟨w.heap.size+1+1,8,none⟩=false:=freeOf hz2
  have v9:w1.frozen? ⟨w.heap.size+1+1,9,none⟩=false:=freeOf hz2
  have v10:w1.frozen? ⟨w.heap.size+1+1,10,none⟩=false:=freeOf hz2
  have v11:w1.frozen? ⟨w.heap.size+1+1,11,none⟩=false:=freeOf hz2
  have v12:w1.frozen? ⟨w.heap.size+1+1,12,none⟩=false:=freeOf hz2
  have v13:w1.frozen? ⟨w.heap.size+1+1,13,none⟩=false:=freeOf hz2
  clear hb1 hbl hz0 hz1 hz2
  go_wp2
  obtain⟨Wf,hWf⟩:=zx (sets w1 (w.heap.size+1+1) 0 [.int .i64 0,.int .i64 0,.int .i64 0,.int .i64 0,.int .i64 0,.int .i64 0,.int .i64 0,.int .i64 0,.int .i64 0,.int .i64 0,.int .i64 0,.int .i64 0,.int .i64 0,.int .i64 0])
  have hw4:=sets_all (vs:=[.int .i64 0,.int .i64 0,.int .i64 0,.int .i64 0,.int .i64 0,.int .i64 0,.int .i64 0,.int .i64 0,.int .i64 0,.int .i64 0,.int .i64 0,.int .i64 0,.int .i64 0,.int .i64 0]) HZ2.out rfl
  have hb4:=sets_below (B:=w.heap.size) (b:=w.heap.size+1+1) (by omega) [.int .i64 0,.int .i64 0,.int .i64 0,.int .i64 0,.int .i64 0,.int .i64 0,.int .i64 0,.int .i64 0,.int .i64 0,.int .i64 0,.int .i64 0,.int .i64 0,.int .i64 0,.int .i64 0] 0 _ HB1.out
  rw[hWf] at hw4 hb4
  show bodyPost _ _ _ _ _ (sets w1 (w.heap.size+1+1) 0 [.int .i64 0,.int .i64 0,.int .i64 0,.int .i64 0,.int .i64 0,.int .i64 0,.int .i64 0,.int .i64 0,.int .i64 0,.int .i64 0,.int .i64 0,.int .i64 0,.int .i64 0,.int .i64 0])
  rw[hWf]
  clear y0 v0 y1 v1 y2 v2 y3 v3 y4 v4 y5 v5 y6 v6 y7 v7 y8 v8 y9 v9 y10 v10 y11 v11 y12 v12 y13 v13 
  have y0:=zc 0 hw4
  have y1:=zc 1 hw4
  have y2:=zc 2 hw4
  have y3:=zc 3 hw4
  have y4:=zc 4 hw4
  have y5:=zc 5 hw4
  have y6:=zc 6 hw4
  have y7:=zc 7 hw4
  have y8:=zc 8 hw4
  have y9:=zc 9 hw4
  have y10:=zc 10 hw4
  have y11:=zc 11 hw4
  have y12:=zc 12 hw4
  have y13:=zc 13 hw4
  refine bodyPost_ret (v:=.tuple #[.agg #[.int .i64 0,.int .i64 0,.int .i64 0,.int .i64 0,.int .i64 0,.int .i64 0,.int .i64 0,.int .i64 0,.int .i64 0,.int .i64 0,.int .i64 0,.int .i64 0,.int .i64 0,.int .i64 0],.int .i64 60]) (by simp[results,Tryz.results138,go_sem,y0,y1,y2,y3,y4,y5,y6,y7,y8,y9,y10,y11,y12,y13]) rfl ?_
  exact HE.out _ hb4
 have f1:((s.size:Int) == 64)=true:=by rw[hs]; rfl
 have f2:((s.size:Int) != 64)=false:=by rw[hs]; rfl
 have hnn:=inodeOf_eq hs
 have hcase:∀c T,(inodeOf s).check g=c→(if(inodeOf s).check g=0 then inodeB (inodeOf s) else⟨#[]⟩)=T→(c=0∧T=s∧isInode g s)∨(c=0∧T≠s∧¬isInode g s)∨(c≠0∧¬isInode g s):=fun c T h1 h2=>by
  unfold Inode.check at h1 h2
  rw[if_pos hg] at h1 h2
  by_cases hf:(inodeOf s).fits g
  ·rw[if_pos hf] at h1 h2
   rw[if_pos rfl] at h2
   subst h1 h2
   by_cases ht:inodeB (inodeOf s)=s
   ·exact Or.inl ⟨rfl,ht,hs,hf,ht⟩
   ·exact Or.inr (Or.inl ⟨rfl,ht,fun h=>ht h.2.2⟩)
  ·rw[if_neg hf] at h1
   exact Or.inr (Or.inr ⟨by rw[←h1]; decide,fun h=>hf h.2.1⟩)
 rw[hnn] at hcase
 have hget:=fun(W:World) (bx:Nat) (off n:Int) (hb:W.cell? ⟨bx,0,none⟩=some (.string s))=>iget_any W bx s off n hb
 obtain⟨G,hG⟩:∃G:Int→Int→Int,∀o n,getN s o n=G o n:=⟨getN s,fun _ _=>rfl⟩
 simp only[hG] at hget hnn hcase
 have HGet:=zh hget
 have HNN:=zh hnn
 obtain⟨ga,gb,gc⟩:=g
 unfold gV at hc ⊢
 have HHen:Hid (∀(W:World) (x0 x1 x2 x3 x4 d0 d1 d2 d3 d4 d5 d6 d7 x6:Int),Calls Tryz.prog 39 #[.agg #[.int .i64 ga,.int .i64 gb,.int .i64 gc],.agg #[.int .i64 x0,.int .i64 x1,.int .i64 x2,.int .i64 x3,.int .i64 x4,.int .i64 d0,.int .i64 d1,.int .i64 d2,.int .i64 d3,.int .i64 d4,.int .i64 d5,.int .i64 d6,.int .i64 d7,.int .i64 x6]] W (IEnc ⟨ga,gb,gc⟩ (iN x0 x1 x2 x3 x4 d0 d1 d2 d3 d4 d5 d6 d7 x6) W)):=hen
 have HCase:=zh hcase
 have HC:=zh hc
 clear hc
 clear hg hen hs hnn hget hcase hG
 go_enter Tryz.func138,Tryz.ntmps138
 go_wp2_with fail
 refine(HC.out _).mono ?_
 rintro e w1 ⟨rfl,hb1⟩
 obtain⟨hbl,hz0,hz1,hz2⟩:=boxes3 hb1
 have HB1:=zh hbl
 have HZ0:=zh hz0
 have HZ1:=zh hz1
 have HZ2:=zh hz2
 have k0:=zc 0 hz1
 clear hb1 hbl hz0 hz1 hz2
 have HB2:Hid (Below w1.heap.size w1 w1):=Below.refl _ _
 go_wp2_with fail
 clear k0
 refine(HGet.out _ _ _ _ (zc 0 (heapOld HB2.out HZ1.out))).mono ?_
 rintro e r0 ⟨rfl,hbu⟩
 replace HB2:Hid (Below w1.heap.size w1 r0):=blN HB2.out hbu
 clear hbu
 go_wp2_with fail
 refine(HGet.out _ _ _ _ (zc 0 (heapOld HB2.out HZ1.out))).mono ?_
 rintro e r1 ⟨rfl,hbu⟩
 replace HB2:Hid (Below w1.heap.size w1 r1):=blN HB2.out hbu
 clear hbu
 go_wp2_with fail
 refine(HGet.out _ _ _ _ (zc 0 (heapOld HB2.out HZ1.out))).mono ?_
 rintro e r2 ⟨rfl,hbu⟩
 replace HB2:Hid (Below w1.heap.size w1 r2):=blN HB2.out hbu
 clear hbu
 go_wp2_with fail
 refine(HGet.out _ _ _ _ (zc 0 (heapOld HB2.out HZ1.out))).mono ?_
 rintro e r3 ⟨rfl,hbu⟩
 replace HB2:Hid (Below w1.heap.size w1 r3):=blN HB2.out hbu
 clear hbu
 go_wp2_with fail
 refine(HGet.out _ _ _ _ (zc 0 (heapOld HB2.out HZ1.out))).mono ?_
 rintro e r4 ⟨rfl,hbu⟩
 replace HB2:Hid (Below w1.heap.size w1 r4):=blN HB2.out hbu
 clear hbu
 go_wp2_with fail
 refine(HGet.out _ _ _ _ (zc 0 (heapOld HB2.out HZ1.out))).mono ?_
 rintro e r5 ⟨rfl,hbu⟩
 replace HB2:Hid (Below w1.heap.size w1 r5):=blN HB2.out hbu
 clear hbu
 obtain⟨x0,hx0⟩:=zx (G 0 1)
 obtain⟨x1,hx1⟩:=zx (G 1 1)
 obtain⟨x2,hx2⟩:=zx (G 2 2)
 obtain⟨x3,hx3⟩:=zx (G 4 2)
 obtain⟨x4,hx4⟩:=zx (G 6 2)
 obtain⟨x6,hx6⟩:=zx (G 24 2)
 rw[hx0,hx1,hx2,hx3,hx4,hx6] at HNN HCase ⊢
 clear hx0 hx1 hx2 hx3 hx4 hx6
 obtain⟨Wl,hWl⟩:∃W,r5.alloc (intsO (decL x0 x1 x2 x3 x4 (fun i=>G (8+2*(i:Int)) 2) x6 0) 71)=W:=⟨_,rfl⟩
 have hWl2:r5.alloc (.cells #[.int .i64 x0,.int .i64 x1,.int .i64 x2,.int .i64 x3,.int .i64 x4,.int .i64 0,.int .i64 0,.int .i64 0,.int .i64 0,.int .i64 0,.int .i64 0,.int .i64 0,.int .i64 0,.int .i64 x6] 71)=Wl:=hWl
 have HR0:Hid (Wl.heap[r5.heap.size]? = some (intsO (decL x0 x1 x2 x3 x4 (fun i=>G (8+2*(i:Int)) 2) x6 0) 71)):=by rw[←hWl]; exact heapNew r5 _
 have HBl:Hid (Below w1.heap.size w1 Wl):=by rw[←hWl]; exact bl1 HB2.out _
 have hge:w1.heap.size≤r5.heap.size:=HB2.out.size
 have HGE:=zh hge
 clear hWl hge
 go_wp2
 go_loopw [36] (fun i wr=>∃j:Nat,j≤8∧i = .int .i64 j∧Hid (wr.heap[r5.heap.size]? = some (intsO (decL x0 x1 x2 x3 x4 (fun i=>G (8+2*(i:Int)) 2) x6 j) 71))∧Hid (Below w1.heap.size w1 wr)) (fun i _=>8-(intOf i).toNat)
 case atStart=>exact⟨0,Nat.zero_le _,rfl,HR0,HBl⟩
 case round=>
  obtain⟨j,hj,rfl,HR,HB⟩:=hrel
  clear HR0 HBl hWl2
  by_cases hlt:j<8
  ·go_wp2_with fail
   refine(HGet.out _ _ _ _ (zc 0 (heapOld HB.out HZ1.out))).mono ?_
   rintro e wg ⟨rfl,hbu⟩
   have HBg:Hid (Below w1.heap.size w1 wg):=blN HB.out hbu
   have hrow:=heapOld hbu HR.out
   have hset:=ints_set (i:=5+j) hrow (G (8+2*(j:Int)) 2)
   rw[decL_set x0 x1 x2 x3 x4 x6 (fun i=>G (8+2*(i:Int)) 2) j hlt] at hset
   have hlen:(decL x0 x1 x2 x3 x4 (fun i=>G (8+2*(i:Int)) 2) x6 j).length=14:=rfl
   have c0:=ints_cell (i:=5+j) (n:=(decL x0 x1 x2 x3 x4 (fun i=>G (8+2*(i:Int)) 2) x6 j)[5+j]'(by rw[hlen]; omega)) hrow (List.getElem?_eq_getElem _)
   have c1:=ints_free (i:=5+j) hrow
   obtain⟨old,hold⟩:∃x,(decL x0 x1 x2 x3 x4 (fun i=>G (8+2*(i:Int)) 2) x6 j)[5+j]'(by rw[hlen]; omega)=x:=⟨_,rfl⟩
   rw[hold] at c0
   have HS:=zh hset
   have HB5:=zh (HBg.out.setCell (p:=⟨r5.heap.size,5+j,none⟩) HGE.out (.int .i64 (G (8+2*(j:Int)) 2)))
   have hj8:(j:Int)<8:=by omega
   clear hbu hrow hset hlen hold
   go_wp2
   go_roundw
   case rel=>exact⟨j+1,by omega,by go_num,HS,HB5⟩
   case measure=>simp[intOf]; omega
  ·obtain rfl:j=8:=by omega
   have hrow:=HR.out
   change wr.heap[r5.heap.size]? = some (.cells #[.int .i64 x0,.int .i64 x1,.int .i64 x2,.int .i64 x3,.int .i64 x4,.int .i64 (G (8+2*((0:Nat):Int)) 2),.int .i64 (G (8+2*((1:Nat):Int)) 2),.int .i64 (G (8+2*((2:Nat):Int)) 2),.int .i64 (G (8+2*((3:Nat):Int)) 2),.int .i64 (G (8+2*((4:Nat):Int)) 2),.int .i64 (G (8+2*((5:Nat):Int)) 2),.int .i64 (G (8+2*((6:Nat):Int)) 2),.int .i64 (G (8+2*((7:Nat):Int)) 2),.int .i64 x6] 71 (0,0)) at hrow
   have hrow2:wr.heap[r5.heap.size]? = some (.cells #[.int .i64 x0,.int .i64 x1,.int .i64 x2,.int .i64 x3,.int .i64 x4,.int .i64 (G 8 2),.int .i64 (G 10 2),.int .i64 (G 12 2),.int .i64 (G 14 2),.int .i64 (G 16 2),.int .i64 (G 18 2),.int .i64 (G 20 2),.int .i64 (G 22 2),.int .i64 x6] 71 (0,0)):=hrow
   obtain⟨d0,hd0⟩:=zx (G 8 2)
   obtain⟨d1,hd1⟩:=zx (G 10 2)
   obtain⟨d2,hd2⟩:=zx (G 12 2)
   obtain⟨d3,hd3⟩:=zx (G 14 2)
   obtain⟨d4,hd4⟩:=zx (G 16 2)
   obtain⟨d5,hd5⟩:=zx (G 18 2)
   obtain⟨d6,hd6⟩:=zx (G 20 2)
   obtain⟨d7,hd7⟩:=zx (G 22 2)
   rw[hd0,hd1,hd2,hd3,hd4,hd5,hd6,hd7] at HNN HCase hrow2
   have HRow:=zh hrow2
   have y0:=zc 0 hrow2
   have y1:=zc 1 hrow2
   have y2:=zc 2 hrow2
   have y3:=zc 3 hrow2
   have y4:=zc 4 hrow2
   have y5:=zc 5 hrow2
   have y6:=zc 6 hrow2
   have y7:=zc 7 hrow2
   have y8:=zc 8 hrow2
   have y9:=zc 9 hrow2
   have y10:=zc 10 hrow2
   have y11:=zc 11 hrow2
   have y12:=zc 12 hrow2
   have y13:=zc 13 hrow2
   have g0:=zc 0 (heapOld HB.out HZ0.out)
   have g1:=zc 1 (heapOld HB.out HZ0.out)
   have g2:=zc 2 (heapOld HB.out HZ0.out)
   clear hrow hrow2 hd0 hd1 hd2 hd3 hd4 hd5 hd6 hd7 HGet
   have HEn:=zh (fun W:World=>HHen.out W x0 x1 x2 x3 x4 d0 d1 d2 d3 d4 d5 d6 d7 x6)
   clear HHen
   go_wp2_with fail
   clear g0 g1 g2 y0 y1 y2 y3 y4 y5 y6 y7 y8 y9 y10 y11 y12 y13
   refine(HEn.out _).mono ?_
   rintro e w5 ⟨rfl,hb5⟩
   obtain⟨c,hcq⟩:=zx ((iN x0 x1 x2 x3 x4 d0 d1 d2 d3 d4 d5 d6 d7 x6).check ⟨ga,gb,gc⟩)
   obtain⟨T,hT⟩:=zx ((if(iN x0 x1 x2 x3 x4 d0 d1 d2 d3 d4 d5 d6 d7 x6).check ⟨ga,gb,gc⟩=0 then inodeB (iN x0 x1 x2 x3 x4 d0 d1 d2 d3 d4 d5 d6 d7 x6) else⟨#[]⟩))
   have hk:=HCase.out c T hcq hT
   rw[hT,hcq]
   have HK:=zh hk
   have HB5:=zh (blN HB.out hb5)
   have HRow5:=zh (heapOld hb5 HRow.out)
   have hz2:=heapOld HB5.out HZ2.out
   have k0:=zc 0 (heapOld HB5.out HZ1.out)
   have q:=list_eq T s
   have HZ5:=zh hz2
   have HBw:=zh (blN HB1.out HB5.out)
   clear hcq hT hk hb5 HCase
   have y0:=zc 0 hz2
   have y1:=zc 1 hz2
   have y2:=zc 2 hz2
   have y3:=zc 3 hz2
   have y4:=zc 4 hz2
   have y5:=zc 5 hz2
   have y6:=zc 6 hz2
   have y7:=zc 7 hz2
   have y8:=zc 8 hz2
   have y9:=zc 9 hz2
   have y10:=zc 10 hz2
   have y11:=zc 11 hz2
   have y12:=zc 12 hz2
   have y13:=zc 13 hz2
   have v0:w5.frozen? ⟨w.heap.size+1+1,0,none⟩=false:=freeOf hz2
   have v1:w5.frozen? ⟨w.heap.size+1+1,1,none⟩=false:=freeOf hz2
   have v2:w5.frozen? ⟨w.heap.size+1+1,2,none⟩=false:=freeOf hz2
   have v3:w5.frozen? ⟨w.heap.size+1+1,3,none⟩=false:=freeOf hz2
   have v4:w5.frozen? ⟨w.heap.size+1+1,4,none⟩=false:=freeOf hz2
   have v5:w5.frozen? ⟨w.heap.size+1+1,5,none⟩=false:=freeOf hz2
   have v6:w5.frozen? ⟨w.heap.size+1+1,6,none⟩=false:=freeOf hz2
   have v7:w5.frozen? ⟨w.heap.size+1+1,7,none⟩=false:=freeOf hz2
   have v8:w5.frozen? ⟨w.heap.size+1+1,8,none⟩=false:=freeOf hz2
   have v9:w5.frozen? ⟨w.heap.size+1+1,9,none⟩=false:=freeOf hz2
   have v10:w5.frozen? ⟨w.heap.size+1+1,10,none⟩=false:=freeOf hz2
   have v11:w5.frozen? ⟨w.heap.size+1+1,11,none⟩=false:=freeOf hz2
   have v12:w5.frozen? ⟨w.heap.size+1+1,12,none⟩=false:=freeOf hz2
   have v13:w5.frozen? ⟨w.heap.size+1+1,13,none⟩=false:=freeOf hz2
   clear hz2
   rcases HK.out with ⟨hc,hT,hs⟩ | ⟨hc,hT,hs⟩ | ⟨hc,hs⟩
   ·have f:(T.toList == s.toList)=true:=q.trans (decide_eq_true hT)
    have HFin:=zh (HYg.out hs x0 x1 x2 x3 x4 d0 d1 d2 d3 d4 d5 d6 d7 x6)
    subst hc
    have HNN2:=HNN
    clear hT hs q HK HNg HYg HNN
    have s0:=zc 0 HRow5.out
    have s1:=zc 1 HRow5.out
    have s2:=zc 2 HRow5.out
    have s3:=zc 3 HRow5.out
    have s4:=zc 4 HRow5.out
    have s5:=zc 5 HRow5.out
    have s6:=zc 6 HRow5.out
    have s7:=zc 7 HRow5.out
    have s8:=zc 8 HRow5.out
    have s9:=zc 9 HRow5.out
    have s10:=zc 10 HRow5.out
    have s11:=zc 11 HRow5.out
    have s12:=zc 12 HRow5.out
    have s13:=zc 13 HRow5.out
    go_wp2
    obtain⟨Wf,hWf⟩:=zx (sets w5 (w.heap.size+1+1) 0 [.int .i64 x0,.int .i64 x1,.int .i64 x2,.int .i64 x3,.int .i64 x4,.int .i64 d0,.int .i64 d1,.int .i64 d2,.int .i64 d3,.int .i64 d4,.int .i64 d5,.int .i64 d6,.int .i64 d7,.int .i64 x6])
    have hw4:=sets_all (vs:=[.int .i64 x0,.int .i64 x1,.int .i64 x2,.int .i64 x3,.int .i64 x4,.int .i64 d0,.int .i64 d1,.int .i64 d2,.int .i64 d3,.int .i64 d4,.int .i64 d5,.int .i64 d6,.int .i64 d7,.int .i64 x6]) HZ5.out rfl
    have hb4:=sets_below (B:=w.heap.size) (b:=w.heap.size+1+1) (by omega) [.int .i64 x0,.int .i64 x1,.int .i64 x2,.int .i64 x3,.int .i64 x4,.int .i64 d0,.int .i64 d1,.int .i64 d2,.int .i64 d3,.int .i64 d4,.int .i64 d5,.int .i64 d6,.int .i64 d7,.int .i64 x6] 0 _ HBw.out
    rw[hWf] at hw4 hb4
    show bodyPost _ _ _ _ _ (sets w5 (w.heap.size+1+1) 0 [.int .i64 x0,.int .i64 x1,.int .i64 x2,.int .i64 x3,.int .i64 x4,.int .i64 d0,.int .i64 d1,.int .i64 d2,.int .i64 d3,.int .i64 d4,.int .i64 d5,.int .i64 d6,.int .i64 d7,.int .i64 x6])
    rw[hWf]
    clear y0 v0 y1 v1 y2 v2 y3 v3 y4 v4 y5 v5 y6 v6 y7 v7 y8 v8 y9 v9 y10 v10 y11 v11 y12 v12 y13 v13 s0 s1 s2 s3 s4 s5 s6 s7 s8 s9 s10 s11 s12 s13
    have y0:=zc 0 hw4
    have y1:=zc 1 hw4
    have y2:=zc 2 hw4
    have y3:=zc 3 hw4
    have y4:=zc 4 hw4
    have y5:=zc 5 hw4
    have y6:=zc 6 hw4
    have y7:=zc 7 hw4
    have y8:=zc 8 hw4
    have y9:=zc 9 hw4
    have y10:=zc 10 hw4
    have y11:=zc 11 hw4
    have y12:=zc 12 hw4
    have y13:=zc 13 hw4
    refine bodyPost_ret (v:=.tuple #[.agg #[.int .i64 x0,.int .i64 x1,.int .i64 x2,.int .i64 x3,.int .i64 x4,.int .i64 d0,.int .i64 d1,.int .i64 d2,.int .i64 d3,.int .i64 d4,.int .i64 d5,.int .i64 d6,.int .i64 d7,.int .i64 x6],.int .i64 0]) (by simp[results,Tryz.results138,go_sem,y0,y1,y2,y3,y4,y5,y6,y7,y8,y9,y10,y11,y12,y13]) rfl ?_
    exact HFin.out _ HNN2.out hb4
   ·have f:(T.toList == s.toList)=false:=q.trans (decide_eq_false hT)
    have HE:=zh (HNg.out hs)
    subst hc
    clear hT hs q HK HNg HYg
    go_wp2
    obtain⟨Wf,hWf⟩:=zx (sets w5 (w.heap.size+1+1) 0 [.int .i64 0,.int .i64 0,.int .i64 0,.int .i64 0,.int .i64 0,.int .i64 0,.int .i64 0,.int .i64 0,.int .i64 0,.int .i64 0,.int .i64 0,.int .i64 0,.int .i64 0,.int .i64 0])
    have hw4:=sets_all (vs:=[.int .i64 0,.int .i64 0,.int .i64 0,.int .i64 0,.int .i64 0,.int .i64 0,.int .i64 0,.int .i64 0,.int .i64 0,.int .i64 0,.int .i64 0,.int .i64 0,.int .i64 0,.int .i64 0]) HZ5.out rfl
    have hb4:=sets_below (B:=w.heap.size) (b:=w.heap.size+1+1) (by omega) [.int .i64 0,.int .i64 0,.int .i64 0,.int .i64 0,.int .i64 0,.int .i64 0,.int .i64 0,.int .i64 0,.int .i64 0,.int .i64 0,.int .i64 0,.int .i64 0,.int .i64 0,.int .i64 0] 0 _ HBw.out
    rw[hWf] at hw4 hb4
    show bodyPost _ _ _ _ _ (sets w5 (w.heap.size+1+1) 0 [.int .i64 0,.int .i64 0,.int .i64 0,.int .i64 0,.int .i64 0,.int .i64 0,.int .i64 0,.int .i64 0,.int .i64 0,.int .i64 0,.int .i64 0,.int .i64 0,.int .i64 0,.int .i64 0])
    rw[hWf]
    clear y0 v0 y1 v1 y2 v2 y3 v3 y4 v4 y5 v5 y6 v6 y7 v7 y8 v8 y9 v9 y10 v10 y11 v11 y12 v12 y13 v13 
    have y0:=zc 0 hw4
    have y1:=zc 1 hw4
    have y2:=zc 2 hw4
    have y3:=zc 3 hw4
    have y4:=zc 4 hw4
    have y5:=zc 5 hw4
    have y6:=zc 6 hw4
    have y7:=zc 7 hw4
    have y8:=zc 8 hw4
    have y9:=zc 9 hw4
    have y10:=zc 10 hw4
    have y11:=zc 11 hw4
    have y12:=zc 12 hw4
    have y13:=zc 13 hw4
    refine bodyPost_ret (v:=.tuple #[.agg #[.int .i64 0,.int .i64 0,.int .i64 0,.int .i64 0,.int .i64 0,.int .i64 0,.int .i64 0,.int .i64 0,.int .i64 0,.int .i64 0,.int .i64 0,.int .i64 0,.int .i64 0,.int .i64 0],.int .i64 60]) (by simp[results,Tryz.results138,go_sem,y0,y1,y2,y3,y4,y5,y6,y7,y8,y9,y10,y11,y12,y13]) rfl ?_
    exact HE.out _ hb4
   ·have f:(c == 0)=false:=beq_eq_false_iff_ne.2 hc
    have f2:(c != 0)=true:=by simp[hc]
    have HE:=zh (HNg.out hs)
    clear hc hs q HK HNg HYg
    go_wp2
    obtain⟨Wf,hWf⟩:=zx (sets w5 (w.heap.size+1+1) 0 [.int .i64 0,.int .i64 0,.int .i64 0,.int .i64 0,.int .i64 0,.int .i64 0,.int .i64 0,.int .i64 0,.int .i64 0,.int .i64 0,.int .i64 0,.int .i64 0,.int .i64 0,.int .i64 0])
    have hw4:=sets_all (vs:=[.int .i64 0,.int .i64 0,.int .i64 0,.int .i64 0,.int .i64 0,.int .i64 0,.int .i64 0,.int .i64 0,.int .i64 0,.int .i64 0,.int .i64 0,.int .i64 0,.int .i64 0,.int .i64 0]) HZ5.out rfl
    have hb4:=sets_below (B:=w.heap.size) (b:=w.heap.size+1+1) (by omega) [.int .i64 0,.int .i64 0,.int .i64 0,.int .i64 0,.int .i64 0,.int .i64 0,.int .i64 0,.int .i64 0,.int .i64 0,.int .i64 0,.int .i64 0,.int .i64 0,.int .i64 0,.int .i64 0] 0 _ HBw.out
    rw[hWf] at hw4 hb4
    show bodyPost _ _ _ _ _ (sets w5 (w.heap.size+1+1) 0 [.int .i64 0,.int .i64 0,.int .i64 0,.int .i64 0,.int .i64 0,.int .i64 0,.int .i64 0,.int .i64 0,.int .i64 0,.int .i64 0,.int .i64 0,.int .i64 0,.int .i64 0,.int .i64 0])
    rw[hWf]
    clear y0 v0 y1 v1 y2 v2 y3 v3 y4 v4 y5 v5 y6 v6 y7 v7 y8 v8 y9 v9 y10 v10 y11 v11 y12 v12 y13 v13 
    have y0:=zc 0 hw4
    have y1:=zc 1 hw4
    have y2:=zc 2 hw4
    have y3:=zc 3 hw4
    have y4:=zc 4 hw4
    have y5:=zc 5 hw4
    have y6:=zc 6 hw4
    have y7:=zc 7 hw4
    have y8:=zc 8 hw4
    have y9:=zc 9 hw4
    have y10:=zc 10 hw4
    have y11:=zc 11 hw4
    have y12:=zc 12 hw4
    have y13:=zc 13 hw4
    refine bodyPost_ret (v:=.tuple #[.agg #[.int .i64 0,.int .i64 0,.int .i64 0,.int .i64 0,.int .i64 0,.int .i64 0,.int .i64 0,.int .i64 0,.int .i64 0,.int .i64 0,.int .i64 0,.int .i64 0,.int .i64 0,.int .i64 0],.int .i64 60]) (by simp[results,Tryz.results138,go_sem,y0,y1,y2,y3,y4,y5,y6,y7,y8,y9,y10,y11,y12,y13]) rfl ?_
    exact HE.out _ hb4
end
