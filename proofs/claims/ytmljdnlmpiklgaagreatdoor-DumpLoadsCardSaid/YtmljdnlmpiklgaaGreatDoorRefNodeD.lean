import Derived.Test.YtmljdnlmpiklgaaGreatDoorRefNodeT
namespace Go.Proofs.YtmljdnlmpiklgaaGreatDoor
open Go Go.RowKit Txt Sp
section
set_option maxHeartbeats 16000000
set_option maxRecDepth 20000 in
theorem rndecode_any (w:World) (g:Sp.Geom) (s:ByteArray):Calls Tryz.prog 150 #[gV g,.string s] w (IDec g s w):=by
 have hc:=fun W:World=>rgcheck_any W g
 have HF4:Hid (¬g.ok→∀w',Below w.heap.size w w'→IDec g s w (.returned (.tuple #[.agg #[.int .i64 0,.int .i64 0,.int .i64 0,.int .i64 0,.int .i64 0,.int .i64 0,.int .i64 0,.int .i64 0,.int .i64 0,.int .i64 0,.int .i64 0,.int .i64 0,.int .i64 0,.int .i64 0],.int .i64 4])) w'):=fun h w' hb=>idec_four h hb
 have HNo:Hid (g.ok→¬isInode g s→∀w',Below w.heap.size w w'→IDec g s w (.returned (.tuple #[.agg #[.int .i64 0,.int .i64 0,.int .i64 0,.int .i64 0,.int .i64 0,.int .i64 0,.int .i64 0,.int .i64 0,.int .i64 0,.int .i64 0,.int .i64 0,.int .i64 0,.int .i64 0,.int .i64 0],.int .i64 60])) w'):=fun hg h w' hb=>idec_no hg h hb
 have HYes:Hid (g.ok→isInode g s→∀y0 y1 y2 y3 y4 e0 e1 e2 e3 e4 e5 e6 e7 y6 w',inodeOf s=iN y0 y1 y2 y3 y4 e0 e1 e2 e3 e4 e5 e6 e7 y6→Below w.heap.size w w'→IDec g s w (.returned (.tuple #[.agg #[.int .i64 y0,.int .i64 y1,.int .i64 y2,.int .i64 y3,.int .i64 y4,.int .i64 e0,.int .i64 e1,.int .i64 e2,.int .i64 e3,.int .i64 e4,.int .i64 e5,.int .i64 e6,.int .i64 e7,.int .i64 y6],.int .i64 0])) w'):=fun hg h _ _ _ _ _ _ _ _ _ _ _ _ _ _ w' hn hb=>idec_yes hg h hn hb
 obtain⟨Q,hQ⟩:=zx (IDec g s w)
 rw[hQ] at HF4 HNo HYes ⊢
 clear hQ
 by_cases hg:g.ok
 rotate_left
 ·rw[Geom.check_no hg] at hc
  have HE:=zh (HF4.out hg)
  obtain⟨ga,gb,gc⟩:=g
  unfold gV at hc ⊢
  have HC:=zh hc
  clear hc
  clear hg HNo HYes HF4
  go_enter Tryz.func150,Tryz.ntmps150
  go_wp2_with fail
  refine(HC.out _).mono ?_
  rintro e w1 ⟨rfl,hb1⟩
  obtain⟨hbl,hz0,hz1⟩:=boxes2 hb1
  have HB1:=zh hbl
  have HZ1:=zh hz1
  have y0:=zc 0 hz1
  have y1:=zc 1 hz1
  have y2:=zc 2 hz1
  have y3:=zc 3 hz1
  have y4:=zc 4 hz1
  have y5:=zc 5 hz1
  have y6:=zc 6 hz1
  have y7:=zc 7 hz1
  have y8:=zc 8 hz1
  have y9:=zc 9 hz1
  have y10:=zc 10 hz1
  have y11:=zc 11 hz1
  have y12:=zc 12 hz1
  have y13:=zc 13 hz1
  have v0:w1.frozen? ⟨w.heap.size+1,0,none⟩=false:=freeOf hz1
  have v1:w1.frozen? ⟨w.heap.size+1,1,none⟩=false:=freeOf hz1
  have v2:w1.frozen? ⟨w.heap.size+1,2,none⟩=false:=freeOf hz1
  have v3:w1.frozen? ⟨w.heap.size+1,3,none⟩=false:=freeOf hz1
  have v4:w1.frozen? ⟨w.heap.size+1,4,none⟩=false:=freeOf hz1
  have v5:w1.frozen? ⟨w.heap.size+1,5,none⟩=false:=freeOf hz1
  have v6:w1.frozen? ⟨w.heap.size+1,6,none⟩=false:=freeOf hz1
  have v7:w1.frozen? ⟨w.heap.size+1,7,none⟩=false:=freeOf hz1
  have v8:w1.frozen? ⟨w.heap.size+1,8,none⟩=false:=freeOf hz1
  have v9:w1.frozen? ⟨w.heap.size+1,9,none⟩=false:=freeOf hz1
  have v10:w1.frozen? ⟨w.heap.size+1,10,none⟩=false:=freeOf hz1
  have v11:w1.frozen? ⟨w.heap.size+1,11,none⟩=false:=freeOf hz1
  have v12:w1.frozen? ⟨w.heap.size+1,12,none⟩=false:=freeOf hz1
  have v13:w1.frozen? ⟨w.heap.size+1,13,none⟩=false:=freeOf hz1
  clear hb1 hbl hz0 hz1
  go_wp2
  obtain⟨Wf,hWf⟩:=zx (sets w1 (w.heap.size+1) 0 [.int .i64 0,.int .i64 0,.int .i64 0,.int .i64 0,.int .i64 0,.int .i64 0,.int .i64 0,.int .i64 0,.int .i64 0,.int .i64 0,.int .i64 0,.int .i64 0,.int .i64 0,.int .i64 0])
  have hw4:=sets_all (vs:=[.int .i64 0,.int .i64 0,.int .i64 0,.int .i64 0,.int .i64 0,.int .i64 0,.int .i64 0,.int .i64 0,.int .i64 0,.int .i64 0,.int .i64 0,.int .i64 0,.int .i64 0,.int .i64 0]) HZ1.out rfl
  have hb4:=sets_below (B:=w.heap.size) (b:=w.heap.size+1) (by omega) [.int .i64 0,.int .i64 0,.int .i64 0,.int .i64 0,.int .i64 0,.int .i64 0,.int .i64 0,.int .i64 0,.int .i64 0,.int .i64 0,.int .i64 0,.int .i64 0,.int .i64 0,.int .i64 0] 0 _ HB1.out
  rw[hWf] at hw4 hb4
  show bodyPost _ _ _ _ _ (sets w1 (w.heap.size+1) 0 [.int .i64 0,.int .i64 0,.int .i64 0,.int .i64 0,.int .i64 0,.int .i64 0,.int .i64 0,.int .i64 0,.int .i64 0,.int .i64 0,.int .i64 0,.int .i64 0,.int .i64 0,.int .i64 0])
  rw[hWf]
  clear y0 v0 y1 v1 y2 v2 y3 v3 y4 v4 y5 v5 y6 v6 y7 v7 y8 v8 y9 v9 y10 v10 y11 v11 y12 v12 y13 v13
  have y0:=zc 0 hw4
  have y1:=zc 1 hw4
  have y2:=zc 2 hw4
  have y3:=zc 3 hw4
  have y4:=zc 4 hw4
  have y5:=zc 5 hw4
  have y6:=zc 6 hw4
  have y7:=zc 7 hw4
  have y8:=zc 8 hw4
  have y9:=zc 9 hw4
  have y10:=zc 10 hw4
  have y11:=zc 11 hw4
  have y12:=zc 12 hw4
  have y13:=zc 13 hw4
  refine bodyPost_ret (v:=.tuple #[.agg #[.int .i64 0,.int .i64 0,.int .i64 0,.int .i64 0,.int .i64 0,.int .i64 0,.int .i64 0,.int .i64 0,.int .i64 0,.int .i64 0,.int .i64 0,.int .i64 0,.int .i64 0,.int .i64 0],.int .i64 4]) (by simp[results,Tryz.results150,go_sem,y0,y1,y2,y3,y4,y5,y6,y7,y8,y9,y10,y11,y12,y13]) rfl ?_
  exact HE.out _ hb4
 rw[Geom.check_ok hg] at hc
 have HNg:=zh (HNo.out hg)
 have HYg:=zh (HYes.out hg)
 clear HF4 HNo HYes
 by_cases hs:s.size=64
 rotate_left
 ·have hni:¬isInode g s:=fun h=>hs h.1
  have HE:=zh (HNg.out hni)
  have f1:((s.size:Int) == 64)=false:=beq_eq_false_iff_ne.2 (by omega)
  have f2:((s.size:Int) != 64)=true:=by rw[bne,f1]; rfl
  obtain⟨ga,gb,gc⟩:=g
  unfold gV at hc ⊢
  have HC:=zh hc
  clear hc
  clear hg hs hni HNg HYg
  go_enter Tryz.func150,Tryz.ntmps150
  go_wp2_with fail
  refine(HC.out _).mono ?_
  rintro e w1 ⟨rfl,hb1⟩
  obtain⟨hbl,hz0,hz1⟩:=boxes2 hb1
  have HB1:=zh hbl
  have HZ1:=zh hz1
  have y0:=zc 0 hz1
  have y1:=zc 1 hz1
  have y2:=zc 2 hz1
  have y3:=zc 3 hz1
  have y4:=zc 4 hz1
  have y5:=zc 5 hz1
  have y6:=zc 6 hz1
  have y7:=zc 7 hz1
  have y8:=zc 8 hz1
  have y9:=zc 9 hz1
  have y10:=zc 10 hz1
  have y11:=zc 11 hz1
  have y12:=zc 12 hz1
  have y13:=zc 13 hz1
  have v0:w1.frozen? ⟨w.heap.size+1,0,none⟩=false:=freeOf hz1
  have v1:w1.frozen? ⟨w.heap.size+1,1,none⟩=false:=freeOf hz1
  have v2:w1.frozen? ⟨w.heap.size+1,2,none⟩=false:=freeOf hz1
  have v3:w1.frozen? ⟨w.heap.size+1,3,none⟩=false:=freeOf hz1
  have v4:w1.frozen? ⟨w.heap.size+1,4,none⟩=false:=freeOf hz1
  have v5:w1.frozen? ⟨w.heap.size+1,5,none⟩=false:=freeOf hz1
  have v6:w1.frozen? ⟨w.heap.size+1,6,none⟩=false:=freeOf hz1
  have v7:w1.frozen? ⟨w.heap.size+1,7,none⟩=false:=freeOf hz1
  have v8:w1.frozen? ⟨w.heap.size+1,8,none⟩=false:=freeOf hz1
  have v9:w1.frozen? ⟨w.heap.size+1,9,none⟩=false:=freeOf hz1
  have v10:w1.frozen? ⟨w.heap.size+1,10,none⟩=false:=freeOf hz1
  have v11:w1.frozen? ⟨w.heap.size+1,11,none⟩=false:=freeOf hz1
  have v12:w1.frozen? ⟨w.heap.size+1,12,none⟩=false:=freeOf hz1
  have v13:w1.frozen? ⟨w.heap.size+1,13,none⟩=false:=freeOf hz1
  clear hb1 hbl hz0 hz1
  go_wp2
  obtain⟨Wf,hWf⟩:=zx (sets w1 (w.heap.size+1) 0 [.int .i64 0,.int .i64 0,.int .i64 0,.int .i64 0,.int .i64 0,.int .i64 0,.int .i64 0,.int .i64 0,.int .i64 0,.int .i64 0,.int .i64 0,.int .i64 0,.int .i64 0,.int .i64 0])
  have hw4:=sets_all (vs:=[.int .i64 0,.int .i64 0,.int .i64 0,.int .i64 0,.int .i64 0,.int .i64 0,.int .i64 0,.int .i64 0,.int .i64 0,.int .i64 0,.int .i64 0,.int .i64 0,.int .i64 0,.int .i64 0]) HZ1.out rfl
  have hb4:=sets_below (B:=w.heap.size) (b:=w.heap.size+1) (by omega) [.int .i64 0,.int .i64 0,.int .i64 0,.int .i64 0,.int .i64 0,.int .i64 0,.int .i64 0,.int .i64 0,.int .i64 0,.int .i64 0,.int .i64 0,.int .i64 0,.int .i64 0,.int .i64 0] 0 _ HB1.out
  rw[hWf] at hw4 hb4
  show bodyPost _ _ _ _ _ (sets w1 (w.heap.size+1) 0 [.int .i64 0,.int .i64 0,.int .i64 0,.int .i64 0,.int .i64 0,.int .i64 0,.int .i64 0,.int .i64 0,.int .i64 0,.int .i64 0,.int .i64 0,.int .i64 0,.int .i64 0,.int .i64 0])
  rw[hWf]
  clear y0 v0 y1 v1 y2 v2 y3 v3 y4 v4 y5 v5 y6 v6 y7 v7 y8 v8 y9 v9 y10 v10 y11 v11 y12 v12 y13 v13
  have y0:=zc 0 hw4
  have y1:=zc 1 hw4
  have y2:=zc 2 hw4
  have y3:=zc 3 hw4
  have y4:=zc 4 hw4
  have y5:=zc 5 hw4
  have y6:=zc 6 hw4
  have y7:=zc 7 hw4
  have y8:=zc 8 hw4
  have y9:=zc 9 hw4
  have y10:=zc 10 hw4
  have y11:=zc 11 hw4
  have y12:=zc 12 hw4
  have y13:=zc 13 hw4
  refine bodyPost_ret (v:=.tuple #[.agg #[.int .i64 0,.int .i64 0,.int .i64 0,.int .i64 0,.int .i64 0,.int .i64 0,.int .i64 0,.int .i64 0,.int .i64 0,.int .i64 0,.int .i64 0,.int .i64 0,.int .i64 0,.int .i64 0],.int .i64 60]) (by simp[results,Tryz.results150,go_sem,y0,y1,y2,y3,y4,y5,y6,y7,y8,y9,y10,y11,y12,y13]) rfl ?_
  exact HE.out _ hb4
 have f1:((s.size:Int) == 64)=true:=by rw[hs]; rfl
 have f2:((s.size:Int) != 64)=false:=by rw[hs]; rfl
 have hnn:inodeOf s=iN (byteAt s 0) (byteAt s 1) (numAt s 2 2) (numAt s 4 2) (numAt s 6 2) (numAt s 8 2) (numAt s 10 2) (numAt s 12 2) (numAt s 14 2) (numAt s 16 2) (numAt s 18 2) (numAt s 20 2) (numAt s 22 2) (numAt s 24 2):=rfl
 rw[byteAt_get (show 0<s.size by omega),byteAt_get (show 1<s.size by omega)] at hnn
 have hx0:∀W:World,(Instr.index 9 (.string s) (.int .i64 0)).run Tryz.prog W = .ok (.int .u8 (s[0].toNat:Int)) W:=fun W=>text_lit W (show 0<s.size by omega)
 have hx1:∀W:World,(Instr.index 9 (.string s) (.int .i64 1)).run Tryz.prog W = .ok (.int .u8 (s[1].toNat:Int)) W:=fun W=>text_lit W (show 1<s.size by omega)
 have b0:=UInt8.toNat_lt s[0]
 have b1:=UInt8.toNat_lt s[1]
 have hn2:∀W,Calls Tryz.prog 108 #[.string s,.int .i64 2,.int .i64 2] W fun e w'=>e = .returned (.int .i64 (numAt s 2 2:Int))∧W=w':=fun W=>q33z W s 2 2 (by decide) (by omega) (by omega)
 have hn4:∀W,Calls Tryz.prog 108 #[.string s,.int .i64 4,.int .i64 2] W fun e w'=>e = .returned (.int .i64 (numAt s 4 2:Int))∧W=w':=fun W=>q33z W s 4 2 (by decide) (by omega) (by omega)
 have hn6:∀W,Calls Tryz.prog 108 #[.string s,.int .i64 6,.int .i64 2] W fun e w'=>e = .returned (.int .i64 (numAt s 6 2:Int))∧W=w':=fun W=>q33z W s 6 2 (by decide) (by omega) (by omega)
 have hn24:∀W,Calls Tryz.prog 108 #[.string s,.int .i64 24,.int .i64 2] W fun e w'=>e = .returned (.int .i64 (numAt s 24 2:Int))∧W=w':=fun W=>q33z W s 24 2 (by decide) (by omega) (by omega)
 obtain⟨d,hd⟩:∃d:Nat→Nat,(fun i=>numAt s (8+2*i) 2)=d:=⟨_,rfl⟩
 have hde:∀i,numAt s (8+2*i) 2=d i:=fun i=>by rw[←hd]
 have hnd:∀(i:Nat),i<8→∀W,Calls Tryz.prog 108 #[.string s,.int .i64 ((8+2*i:Nat):Int),.int .i64 2] W fun e w'=>e = .returned (.int .i64 (d i:Int))∧W=w':=fun i hi W=>by rw[←hde]; exact q33z W s (8+2*i) 2 (by decide) (by omega) (by omega)
 rw[show numAt s 8 2=d 0 from hde 0,show numAt s 10 2=d 1 from hde 1,show numAt s 12 2=d 2 from hde 2,show numAt s 14 2=d 3 from hde 3,show numAt s 16 2=d 4 from hde 4,show numAt s 18 2=d 5 from hde 5,show numAt s 20 2=d 6 from hde 6,show numAt s 22 2=d 7 from hde 7] at hnn
 obtain⟨x0,y0⟩:=zx (s[0].toNat)
 obtain⟨x1,y1⟩:=zx (s[1].toNat)
 obtain⟨x2,y2⟩:=zx (numAt s 2 2)
 obtain⟨x3,y3⟩:=zx (numAt s 4 2)
 obtain⟨x4,y4⟩:=zx (numAt s 6 2)
 obtain⟨x6,y6⟩:=zx (numAt s 24 2)
 rw[y0] at hnn hx0 b0
 rw[y1] at hnn hx1 b1
 rw[y2] at hnn hn2
 rw[y3] at hnn hn4
 rw[y4] at hnn hn6
 rw[y6] at hnn hn24
 have w0:IntKind.i64.wrap (x0:Int)=(x0:Int):=IntWalk.i64_in _ (by omega)
 have w1':IntKind.i64.wrap (x1:Int)=(x1:Int):=IntWalk.i64_in _ (by omega)
 have hck:=fun W:World=>rncheck_any W g (x0:Int) (x1:Int) (x2:Int) (x3:Int) (x4:Int) (d 0:Int) (d 1:Int) (d 2:Int) (d 3:Int) (d 4:Int) (d 5:Int) (d 6:Int) (d 7:Int) (x6:Int)
 have htx:=fun W:World=>rntext_any W x0 x1 x2 x3 x4 (d 0) (d 1) (d 2) (d 3) (d 4) (d 5) (d 6) (d 7) x6 b0 b1
 have hcc:(iN (x0:Int) (x1:Int) (x2:Int) (x3:Int) (x4:Int) (d 0:Int) (d 1:Int) (d 2:Int) (d 3:Int) (d 4:Int) (d 5:Int) (d 6:Int) (d 7:Int) (x6:Int)).check g=if(iN (x0:Int) (x1:Int) (x2:Int) (x3:Int) (x4:Int) (d 0:Int) (d 1:Int) (d 2:Int) (d 3:Int) (d 4:Int) (d 5:Int) (d 6:Int) (d 7:Int) (x6:Int)).fits g then 0 else 60:=if_pos hg
 have hiff:isInode g s↔(iN (x0:Int) (x1:Int) (x2:Int) (x3:Int) (x4:Int) (d 0:Int) (d 1:Int) (d 2:Int) (d 3:Int) (d 4:Int) (d 5:Int) (d 6:Int) (d 7:Int) (x6:Int)).fits g∧inodeB (iN (x0:Int) (x1:Int) (x2:Int) (x3:Int) (x4:Int) (d 0:Int) (d 1:Int) (d 2:Int) (d 3:Int) (d 4:Int) (d 5:Int) (d 6:Int) (d 7:Int) (x6:Int))=s:=by
  rw[←hnn]
  exact⟨fun h=>h.2,fun h=>⟨hs,h⟩⟩
 rw[hcc] at hck
 clear hcc
 obtain⟨F,hF⟩:=zx ((iN (x0:Int) (x1:Int) (x2:Int) (x3:Int) (x4:Int) (d 0:Int) (d 1:Int) (d 2:Int) (d 3:Int) (d 4:Int) (d 5:Int) (d 6:Int) (d 7:Int) (x6:Int)).fits g)
 obtain⟨TB,hTB⟩:=zx (inodeB (iN (x0:Int) (x1:Int) (x2:Int) (x3:Int) (x4:Int) (d 0:Int) (d 1:Int) (d 2:Int) (d 3:Int) (d 4:Int) (d 5:Int) (d 6:Int) (d 7:Int) (x6:Int)))
 rw[hF,hTB] at hiff
 rw[hTB] at htx
 have HNN:=zh hnn
 have HIff:=zh hiff
 have HFe:=zh hF
 obtain⟨ga,gb,gc⟩:=g
 unfold gV at hc hck ⊢
 unfold iA at hck htx
 obtain⟨W1,hW1⟩:=zx ((w.alloc (.cells #[.int .i64 ga,.int .i64 gb,.int .i64 gc] 23)).alloc (.cells #[.int .i64 0,.int .i64 0,.int .i64 0,.int .i64 0,.int .i64 0,.int .i64 0,.int .i64 0,.int .i64 0,.int .i64 0,.int .i64 0,.int .i64 0,.int .i64 0,.int .i64 0,.int .i64 0] 71))
 obtain⟨hbw,hg0,hg1⟩:=boxes2 (w:=w) (a:=.cells #[.int .i64 ga,.int .i64 gb,.int .i64 gc] 23) (b:=.cells #[.int .i64 0,.int .i64 0,.int .i64 0,.int .i64 0,.int .i64 0,.int .i64 0,.int .i64 0,.int .i64 0,.int .i64 0,.int .i64 0,.int .i64 0,.int .i64 0,.int .i64 0,.int .i64 0] 71) (w1:=W1) (by rw[hW1]; exact Below.refl _ _)
 have HBw:=zh hbw
 have HX0:=zh hg0
 have HX1:=zh hg1
 have q0:=zc 0 hg0
 have q1:=zc 1 hg0
 have q2:=zc 2 hg0
 have HC:=zh hc
 have HCK:=zh hck
 have HTX:=zh htx
 have HN2:=zh hn2
 have HN4:=zh hn4
 have HN6:=zh hn6
 have HN24:=zh hn24
 have HND:=zh hnd
 clear hc hck htx hn2 hn4 hn6 hn24 hnd
 clear hg hs hnn hd hde y0 y1 y2 y3 y4 y6 b0 b1 hiff hF hTB hbw hg0 hg1
 go_enter Tryz.func150,Tryz.ntmps150
 go_wp2_with fail
 clear q0 q1 q2 hW1
 refine(HC.out _).mono ?_
 rintro e w1 ⟨rfl,hb1⟩
 have HB1:Hid (Below W1.heap.size W1 w1):=hb1
 clear hb1
 go_upto_region 5 with fail
 go_cut [6] (fun v wx=>v = .pointer (some ⟨w1.heap.size,0,none⟩)∧wx=(w1.alloc (.cells #[.int .i64 (x0:Int),.int .i64 (x1:Int),.int .i64 (x2:Int),.int .i64 (x3:Int),.int .i64 (x4:Int),.int .i64 0,.int .i64 0,.int .i64 0,.int .i64 0,.int .i64 0,.int .i64 0,.int .i64 0,.int .i64 0,.int .i64 (x6:Int)] 71)).drew)
 case first=>
  refine wp_region_held_drew (S:=fun _:World=>True) (by kernel_rfl) trivial (fun hHeld=>?_)
  refine tkH 0 ?_; simp only[Act.put,ps0]
  refine tkH 1 ?_; simp only[Act.put,ps0]
  refine tkH 2 ?_; simp only[Act.put,ps0]
  refine tkH 3 ?_; simp only[Act.put,ps0]
  refine tkH 4 ?_; simp only[Act.put,ps0]
  refine tkH 5 ?_; simp only[Act.put,ps0]
  refine tkH 6 ?_; simp only[Act.put,ps0]
  refine tkH 8 ?_; simp only[Act.put,ps0]
  refine tkH 10 ?_; simp only[Act.put,ps0]
  refine tkH 12 ?_; simp only[Act.put,ps0]
  refine wpAnyH_ready (rs:=[7,15]) (by kernel_rfl) (by simp) ?_
  refine AllReadyH.cons rfl (fun K hK=>?_) ?_
  ·try simp only[gg0]
   go_simp
   go_at_call 108
   refine(HN2.out _).mono ?_
   rintro e w2 ⟨rfl,rfl⟩
   try simp only
   refine hK.out _ _ trivial (fun hHeld=>?_)
   clear hK K
   try simp only[Act.put,ps0]
   refine wpAnyH_ready (rs:=[9,15]) (by kernel_rfl) (by simp) ?_
   refine AllReadyH.cons rfl (fun K hK=>?_) ?_
   ·try simp only[gg0]
    go_simp
    go_at_call 108
    refine(HN4.out _).mono ?_
    rintro e w2 ⟨rfl,rfl⟩
    try simp only
    refine hK.out _ _ trivial (fun hHeld=>?_)
    clear hK K
    try simp only[Act.put,ps0]
    refine wpAnyH_ready (rs:=[11,15]) (by kernel_rfl) (by simp) ?_
    refine AllReadyH.cons rfl (fun K hK=>?_) ?_
    ·try simp only[gg0]
     go_simp
     go_at_call 108
     refine(HN6.out _).mono ?_
     rintro e w2 ⟨rfl,rfl⟩
     try simp only
     refine hK.out _ _ trivial (fun hHeld=>?_)
     clear hK K
     try simp only[Act.put,ps0]
     refine wpAnyH_ready (rs:=[13,15]) (by kernel_rfl) (by simp) ?_
     refine AllReadyH.cons rfl (fun K hK=>?_) ?_
     ·try simp only[gg0]
      go_simp
      go_at_call 108
      refine(HN24.out _).mono ?_
      rintro e w2 ⟨rfl,rfl⟩
      try simp only
      refine hK.out _ _ trivial (fun hHeld=>?_)
      clear hK K
      try simp only[Act.put,ps0]
      refine tkH 14 ?_; simp only[Act.put,ps0]
      refine wpAnyH_ready (rs:=[15]) (by kernel_rfl) (by simp) ?_
      refine AllReadyH.cons rfl (fun K hK=>?_) ?_
      ·try simp only[gg0]
       go_simp
       refine hK.out _ _ trivial (fun hHeld=>?_)
       clear hK K
       try simp only[Act.put,ps0]
       refine wpAnyH_ready (rs:=[16]) (by kernel_rfl) (by simp) ?_
       refine AllReadyH.cons rfl (fun K hK=>?_) ?_
       ·try simp only[gg0]
        go_simp
        refine hK.out _ _ trivial (fun hHeld=>?_)
        clear hK K
        try simp only[Act.put,ps0]
        refine wpAnyH_done (by kernel_rfl) ?_ _
        clear hHeld
        go_wp2
        go_meet
        case rel=>exact⟨rfl,rfl⟩
       exact AllReadyH.nil
      exact AllReadyH.nil
     refine AllReadyH.cons rfl (fun K hK=>?_) ?_
     ·try simp only[gg0]
      go_simp
      refine hK.out _ _ trivial (fun hHeld=>?_)
      clear hK K
      try simp only[Act.put,ps0]
      refine wpAnyH_ready (rs:=[13]) (by kernel_rfl) (by simp) ?_
      refine AllReadyH.cons rfl (fun K hK=>?_) ?_
      ·try simp only[gg0]
       go_simp
       go_at_call 108
       refine(HN24.out _).mono ?_
       rintro e w2 ⟨rfl,rfl⟩
       try simp only
       refine hK.out _ _ trivial (fun hHeld=>?_)
       clear hK K
       try simp only[Act.put,ps0]
       refine tkH 14 ?_; simp only[Act.put,ps0]
       refine wpAnyH_ready (rs:=[16]) (by kernel_rfl) (by simp) ?_
       refine AllReadyH.cons rfl (fun K hK=>?_) ?_
       ·try simp only[gg0]
        go_simp
        refine hK.out _ _ trivial (fun hHeld=>?_)
        clear hK K
        try simp only[Act.put,ps0]
        refine wpAnyH_done (by kernel_rfl) ?_ _
        clear hHeld
        go_wp2
        go_meet
        case rel=>exact⟨rfl,rfl⟩
       exact AllReadyH.nil
      exact AllReadyH.nil
     exact AllReadyH.nil
    refine AllReadyH.cons rfl (fun K hK=>?_) ?_
    ·try simp only[gg0]
     go_simp
     refine hK.out _ _ trivial (fun hHeld=>?_)
     clear hK K
     try simp only[Act.put,ps0]
     refine wpAnyH_ready (rs:=[11]) (by kernel_rfl) (by simp) ?_
     refine AllReadyH.cons rfl (fun K hK=>?_) ?_
     ·try simp only[gg0]
      go_simp
      go_at_call 108
      refine(HN6.out _).mono ?_
      rintro e w2 ⟨rfl,rfl⟩
      try simp only
      refine hK.out _ _ trivial (fun hHeld=>?_)
      clear hK K
      try simp only[Act.put,ps0]
      refine wpAnyH_ready (rs:=[13]) (by kernel_rfl) (by simp) ?_
      refine AllReadyH.cons rfl (fun K hK=>?_) ?_
      ·try simp only[gg0]
       go_simp
       go_at_call 108
       refine(HN24.out _).mono ?_
       rintro e w2 ⟨rfl,rfl⟩
       try simp only
       refine hK.out _ _ trivial (fun hHeld=>?_)
       clear hK K
       try simp only[Act.put,ps0]
       refine tkH 14 ?_; simp only[Act.put,ps0]
       refine wpAnyH_ready (rs:=[16]) (by kernel_rfl) (by simp) ?_
       refine AllReadyH.cons rfl (fun K hK=>?_) ?_
       ·try simp only[gg0]
        go_simp
        refine hK.out _ _ trivial (fun hHeld=>?_)
        clear hK K
        try simp only[Act.put,ps0]
        refine wpAnyH_done (by kernel_rfl) ?_ _
        clear hHeld
        go_wp2
        go_meet
        case rel=>exact⟨rfl,rfl⟩
       exact AllReadyH.nil
      exact AllReadyH.nil
     exact AllReadyH.nil
    exact AllReadyH.nil
   refine AllReadyH.cons rfl (fun K hK=>?_) ?_
   ·try simp only[gg0]
    go_simp
    refine hK.out _ _ trivial (fun hHeld=>?_)
    clear hK K
    try simp only[Act.put,ps0]
    refine wpAnyH_ready (rs:=[9]) (by kernel_rfl) (by simp) ?_
    refine AllReadyH.cons rfl (fun K hK=>?_) ?_
    ·try simp only[gg0]
     go_simp
     go_at_call 108
     refine(HN4.out _).mono ?_
     rintro e w2 ⟨rfl,rfl⟩
     try simp only
     refine hK.out _ _ trivial (fun hHeld=>?_)
     clear hK K
     try simp only[Act.put,ps0]
     refine wpAnyH_ready (rs:=[11]) (by kernel_rfl) (by simp) ?_
     refine AllReadyH.cons rfl (fun K hK=>?_) ?_
     ·try simp only[gg0]
      go_simp
      go_at_call 108
      refine(HN6.out _).mono ?_
      rintro e w2 ⟨rfl,rfl⟩
      try simp only
      refine hK.out _ _ trivial (fun hHeld=>?_)
      clear hK K
      try simp only[Act.put,ps0]
      refine wpAnyH_ready (rs:=[13]) (by kernel_rfl) (by simp) ?_
      refine AllReadyH.cons rfl (fun K hK=>?_) ?_
      ·try simp only[gg0]
       go_simp
       go_at_call 108
       refine(HN24.out _).mono ?_
       rintro e w2 ⟨rfl,rfl⟩
       try simp only
       refine hK.out _ _ trivial (fun hHeld=>?_)
       clear hK K
       try simp only[Act.put,ps0]
       refine tkH 14 ?_; simp only[Act.put,ps0]
       refine wpAnyH_ready (rs:=[16]) (by kernel_rfl) (by simp) ?_
       refine AllReadyH.cons rfl (fun K hK=>?_) ?_
       ·try simp only[gg0]
        go_simp
        refine hK.out _ _ trivial (fun hHeld=>?_)
        clear hK K
        try simp only[Act.put,ps0]
        refine wpAnyH_done (by kernel_rfl) ?_ _
        clear hHeld
        go_wp2
        go_meet
        case rel=>exact⟨rfl,rfl⟩
       exact AllReadyH.nil
      exact AllReadyH.nil
     exact AllReadyH.nil
    exact AllReadyH.nil
   exact AllReadyH.nil
  refine AllReadyH.cons rfl (fun K hK=>?_) ?_
  ·try simp only[gg0]
   go_simp
   refine hK.out _ _ trivial (fun hHeld=>?_)
   clear hK K
   try simp only[Act.put,ps0]
   refine wpAnyH_ready (rs:=[7]) (by kernel_rfl) (by simp) ?_
   refine AllReadyH.cons rfl (fun K hK=>?_) ?_
   ·try simp only[gg0]
    go_simp
    go_at_call 108
    refine(HN2.out _).mono ?_
    rintro e w2 ⟨rfl,rfl⟩
    try simp only
    refine hK.out _ _ trivial (fun hHeld=>?_)
    clear hK K
    try simp only[Act.put,ps0]
    refine wpAnyH_ready (rs:=[9]) (by kernel_rfl) (by simp) ?_
    refine AllReadyH.cons rfl (fun K hK=>?_) ?_
    ·try simp only[gg0]
     go_simp
     go_at_call 108
     refine(HN4.out _).mono ?_
     rintro e w2 ⟨rfl,rfl⟩
     try simp only
     refine hK.out _ _ trivial (fun hHeld=>?_)
     clear hK K
     try simp only[Act.put,ps0]
     refine wpAnyH_ready (rs:=[11]) (by kernel_rfl) (by simp) ?_
     refine AllReadyH.cons rfl (fun K hK=>?_) ?_
     ·try simp only[gg0]
      go_simp
      go_at_call 108
      refine(HN6.out _).mono ?_
      rintro e w2 ⟨rfl,rfl⟩
      try simp only
      refine hK.out _ _ trivial (fun hHeld=>?_)
      clear hK K
      try simp only[Act.put,ps0]
      refine wpAnyH_ready (rs:=[13]) (by kernel_rfl) (by simp) ?_
      refine AllReadyH.cons rfl (fun K hK=>?_) ?_
      ·try simp only[gg0]
       go_simp
       go_at_call 108
       refine(HN24.out _).mono ?_
       rintro e w2 ⟨rfl,rfl⟩
       try simp only
       refine hK.out _ _ trivial (fun hHeld=>?_)
       clear hK K
       try simp only[Act.put,ps0]
       refine tkH 14 ?_; simp only[Act.put,ps0]
       refine wpAnyH_ready (rs:=[16]) (by kernel_rfl) (by simp) ?_
       refine AllReadyH.cons rfl (fun K hK=>?_) ?_
       ·try simp only[gg0]
        go_simp
        refine hK.out _ _ trivial (fun hHeld=>?_)
        clear hK K
        try simp only[Act.put,ps0]
        refine wpAnyH_done (by kernel_rfl) ?_ _
        clear hHeld
        go_wp2
        go_meet
        case rel=>exact⟨rfl,rfl⟩
       exact AllReadyH.nil
      exact AllReadyH.nil
     exact AllReadyH.nil
    exact AllReadyH.nil
   exact AllReadyH.nil
  exact AllReadyH.nil
 case rest=>
 obtain⟨rfl,hwc⟩:=hcut
 have HR0:Hid (wc.heap[w1.heap.size]? = some (intsO (decL (x0:Int) (x1:Int) (x2:Int) (x3:Int) (x4:Int) (fun i=>(d i:Int)) (x6:Int) 0) 71)):=by rw[hwc]; exact heapNew w1 _
 have HBc:Hid (Below W1.heap.size W1 wc):=by rw[hwc]; exact blD (bl1 HB1.out _)
 have HGE:Hid (W1.heap.size≤w1.heap.size):=HB1.out.size
 clear hwc hx0 hx1
 go_wp2
 go_loopw [7] (fun i wr=>∃j:Nat,j≤8∧i = .int .i64 (j:Int)∧Hid (wr.heap[w1.heap.size]? = some (intsO (decL (x0:Int) (x1:Int) (x2:Int) (x3:Int) (x4:Int) (fun i=>(d i:Int)) (x6:Int) j) 71))∧Hid (Below W1.heap.size W1 wr)) (fun i _=>8-(intOf i).toNat)
 case atStart=>exact⟨0,Nat.zero_le _,rfl,HR0,HBc⟩
 case round=>
  obtain⟨j,hj,rfl,HR,HB⟩:=hrel
  clear HR0 HBc
  by_cases hlt:j<8
  ·have hj8:(j:Int)<8:=by omega
   obtain⟨q,hq⟩:=zx (2*j)
   obtain⟨o,ho⟩:=zx (8+2*j)
   have e1:IntKind.i64.wrap (2*(j:Int))=(q:Int):=by rw[IntWalk.i64_in _ (by omega)]; omega
   have e2:IntKind.i64.wrap (8+(q:Int))=(o:Int):=by rw[IntWalk.i64_in _ (by omega)]; omega
   have hnj:=HND.out j hlt
   rw[ho] at hnj
   have hset:=ints_set (i:=5+j) HR.out (d j:Int)
   rw[decL_set (x0:Int) (x1:Int) (x2:Int) (x3:Int) (x4:Int) (x6:Int) (fun i=>(d i:Int)) j hlt] at hset
   have hlen:(decL (x0:Int) (x1:Int) (x2:Int) (x3:Int) (x4:Int) (fun i=>(d i:Int)) (x6:Int) j).length=14:=rfl
   have c0:=ints_cell (i:=5+j) (n:=(decL (x0:Int) (x1:Int) (x2:Int) (x3:Int) (x4:Int) (fun i=>(d i:Int)) (x6:Int) j)[5+j]'(by rw[hlen]; omega)) HR.out (List.getElem?_eq_getElem _)
   have c1:=ints_free (i:=5+j) HR.out
   obtain⟨old,hold⟩:∃x,(decL (x0:Int) (x1:Int) (x2:Int) (x3:Int) (x4:Int) (fun i=>(d i:Int)) (x6:Int) j)[5+j]'(by rw[hlen]; omega)=x:=⟨_,rfl⟩
   rw[hold] at c0
   have HSet:=zh hset
   have HBs:=zh (HB.out.setCell (p:=⟨w1.heap.size,5+j,none⟩) HGE.out (.int .i64 (d j:Int)))
   have HNj:=zh hnj
   clear hset hnj hq ho hlen hold
   go_wp2_with fail
   refine(HNj.out _).mono ?_
   rintro e w2 ⟨rfl,rfl⟩
   go_wp2
   go_roundw
   case rel=>exact⟨j+1,by omega,by go_num,HSet,HBs⟩
   case measure=>simp[intOf]; omega
  ·obtain rfl:j=8:=by omega
   have q0:=zc 0 (heapOld HB.out HX0.out)
   have q1:=zc 1 (heapOld HB.out HX0.out)
   have q2:=zc 2 (heapOld HB.out HX0.out)
   have n0:wr.cell? ⟨w1.heap.size,0,none⟩=some (.int .i64 (x0:Int)):=cellOf HR.out rfl
   have n1:wr.cell? ⟨w1.heap.size,1,none⟩=some (.int .i64 (x1:Int)):=cellOf HR.out rfl
   have n2:wr.cell? ⟨w1.heap.size,2,none⟩=some (.int .i64 (x2:Int)):=cellOf HR.out rfl
   have n3:wr.cell? ⟨w1.heap.size,3,none⟩=some (.int .i64 (x3:Int)):=cellOf HR.out rfl
   have n4:wr.cell? ⟨w1.heap.size,4,none⟩=some (.int .i64 (x4:Int)):=cellOf HR.out rfl
   have n5:wr.cell? ⟨w1.heap.size,5,none⟩=some (.int .i64 (d 0:Int)):=cellOf HR.out rfl
   have n6:wr.cell? ⟨w1.heap.size,6,none⟩=some (.int .i64 (d 1:Int)):=cellOf HR.out rfl
   have n7:wr.cell? ⟨w1.heap.size,7,none⟩=some (.int .i64 (d 2:Int)):=cellOf HR.out rfl
   have n8:wr.cell? ⟨w1.heap.size,8,none⟩=some (.int .i64 (d 3:Int)):=cellOf HR.out rfl
   have n9:wr.cell? ⟨w1.heap.size,9,none⟩=some (.int .i64 (d 4:Int)):=cellOf HR.out rfl
   have n10:wr.cell? ⟨w1.heap.size,10,none⟩=some (.int .i64 (d 5:Int)):=cellOf HR.out rfl
   have n11:wr.cell? ⟨w1.heap.size,11,none⟩=some (.int .i64 (d 6:Int)):=cellOf HR.out rfl
   have n12:wr.cell? ⟨w1.heap.size,12,none⟩=some (.int .i64 (d 7:Int)):=cellOf HR.out rfl
   have n13:wr.cell? ⟨w1.heap.size,13,none⟩=some (.int .i64 (x6:Int)):=cellOf HR.out rfl
   by_cases hfit:(iN (x0:Int) (x1:Int) (x2:Int) (x3:Int) (x4:Int) (d 0:Int) (d 1:Int) (d 2:Int) (d 3:Int) (d 4:Int) (d 5:Int) (d 6:Int) (d 7:Int) (x6:Int)).fits ⟨ga,gb,gc⟩
   rotate_left
   ·have hck:=HCK.out
    rw[if_neg hfit] at hck
    have HE:=zh (HNg.out (fun h=>hfit (by rw[HFe.out]; exact(HIff.out.1 h).1)))
    have HCK:=zh hck
    clear hck
    clear hfit
    go_wp2_with fail
    refine(HCK.out _).mono ?_
    rintro e w2 ⟨rfl,hb2⟩
    have hz1:=heapOld hb2 (heapOld HB.out HX1.out)
    have HZ1:=zh hz1
    have HBy:=zh (blN HBw.out (blN HB.out hb2))
    clear q0 q1 q2 n0 n1 n2 n3 n4 n5 n6 n7 n8 n9 n10 n11 n12 n13
    have y0:=zc 0 hz1
    have y1:=zc 1 hz1
    have y2:=zc 2 hz1
    have y3:=zc 3 hz1
    have y4:=zc 4 hz1
    have y5:=zc 5 hz1
    have y6:=zc 6 hz1
    have y7:=zc 7 hz1
    have y8:=zc 8 hz1
    have y9:=zc 9 hz1
    have y10:=zc 10 hz1
    have y11:=zc 11 hz1
    have y12:=zc 12 hz1
    have y13:=zc 13 hz1
    have v0:w2.frozen? ⟨w.heap.size+1,0,none⟩=false:=freeOf hz1
    have v1:w2.frozen? ⟨w.heap.size+1,1,none⟩=false:=freeOf hz1
    have v2:w2.frozen? ⟨w.heap.size+1,2,none⟩=false:=freeOf hz1
    have v3:w2.frozen? ⟨w.heap.size+1,3,none⟩=false:=freeOf hz1
    have v4:w2.frozen? ⟨w.heap.size+1,4,none⟩=false:=freeOf hz1
    have v5:w2.frozen? ⟨w.heap.size+1,5,none⟩=false:=freeOf hz1
    have v6:w2.frozen? ⟨w.heap.size+1,6,none⟩=false:=freeOf hz1
    have v7:w2.frozen? ⟨w.heap.size+1,7,none⟩=false:=freeOf hz1
    have v8:w2.frozen? ⟨w.heap.size+1,8,none⟩=false:=freeOf hz1
    have v9:w2.frozen? ⟨w.heap.size+1,9,none⟩=false:=freeOf hz1
    have v10:w2.frozen? ⟨w.heap.size+1,10,none⟩=false:=freeOf hz1
    have v11:w2.frozen? ⟨w.heap.size+1,11,none⟩=false:=freeOf hz1
    have v12:w2.frozen? ⟨w.heap.size+1,12,none⟩=false:=freeOf hz1
    have v13:w2.frozen? ⟨w.heap.size+1,13,none⟩=false:=freeOf hz1
    clear hb2 hz1
    go_wp2
    obtain⟨Wf,hWf⟩:=zx (sets w2 (w.heap.size+1) 0 [.int .i64 0,.int .i64 0,.int .i64 0,.int .i64 0,.int .i64 0,.int .i64 0,.int .i64 0,.int .i64 0,.int .i64 0,.int .i64 0,.int .i64 0,.int .i64 0,.int .i64 0,.int .i64 0])
    have hw4:=sets_all (vs:=[.int .i64 0,.int .i64 0,.int .i64 0,.int .i64 0,.int .i64 0,.int .i64 0,.int .i64 0,.int .i64 0,.int .i64 0,.int .i64 0,.int .i64 0,.int .i64 0,.int .i64 0,.int .i64 0]) HZ1.out rfl
    have hb4:=sets_below (B:=w.heap.size) (b:=w.heap.size+1) (by omega) [.int .i64 0,.int .i64 0,.int .i64 0,.int .i64 0,.int .i64 0,.int .i64 0,.int .i64 0,.int .i64 0,.int .i64 0,.int .i64 0,.int .i64 0,.int .i64 0,.int .i64 0,.int .i64 0] 0 _ HBy.out
    rw[hWf] at hw4 hb4
    show bodyPost _ _ _ _ _ (sets w2 (w.heap.size+1) 0 [.int .i64 0,.int .i64 0,.int .i64 0,.int .i64 0,.int .i64 0,.int .i64 0,.int .i64 0,.int .i64 0,.int .i64 0,.int .i64 0,.int .i64 0,.int .i64 0,.int .i64 0,.int .i64 0])
    rw[hWf]
    clear y0 v0 y1 v1 y2 v2 y3 v3 y4 v4 y5 v5 y6 v6 y7 v7 y8 v8 y9 v9 y10 v10 y11 v11 y12 v12 y13 v13
    have y0:=zc 0 hw4
    have y1:=zc 1 hw4
    have y2:=zc 2 hw4
    have y3:=zc 3 hw4
    have y4:=zc 4 hw4
    have y5:=zc 5 hw4
    have y6:=zc 6 hw4
    have y7:=zc 7 hw4
    have y8:=zc 8 hw4
    have y9:=zc 9 hw4
    have y10:=zc 10 hw4
    have y11:=zc 11 hw4
    have y12:=zc 12 hw4
    have y13:=zc 13 hw4
    refine bodyPost_ret (v:=.tuple #[.agg #[.int .i64 0,.int .i64 0,.int .i64 0,.int .i64 0,.int .i64 0,.int .i64 0,.int .i64 0,.int .i64 0,.int .i64 0,.int .i64 0,.int .i64 0,.int .i64 0,.int .i64 0,.int .i64 0],.int .i64 60]) (by simp[results,Tryz.results150,go_sem,y0,y1,y2,y3,y4,y5,y6,y7,y8,y9,y10,y11,y12,y13]) rfl ?_
    exact HE.out _ hb4
   ·have hck:=HCK.out
    rw[if_pos hfit] at hck
    have HFt:Hid F:=by rw[←HFe.out]; exact hfit
    have HCK:=zh hck
    clear hck
    clear hfit
    go_wp2_with fail
    refine(HCK.out _).mono ?_
    rintro e w2 ⟨rfl,hb2⟩
    have HB2:=zh (blN HB.out hb2)
    have HR2:=zh (heapOld hb2 HR.out)
    clear q0 q1 q2 n0 n1 n2 n3 n4 n5 n6 n7 n8 n9 n10 n11 n12 n13 hb2
    have n0:w2.cell? ⟨w1.heap.size,0,none⟩=some (.int .i64 (x0:Int)):=cellOf HR2.out rfl
    have n1:w2.cell? ⟨w1.heap.size,1,none⟩=some (.int .i64 (x1:Int)):=cellOf HR2.out rfl
    have n2:w2.cell? ⟨w1.heap.size,2,none⟩=some (.int .i64 (x2:Int)):=cellOf HR2.out rfl
    have n3:w2.cell? ⟨w1.heap.size,3,none⟩=some (.int .i64 (x3:Int)):=cellOf HR2.out rfl
    have n4:w2.cell? ⟨w1.heap.size,4,none⟩=some (.int .i64 (x4:Int)):=cellOf HR2.out rfl
    have n5:w2.cell? ⟨w1.heap.size,5,none⟩=some (.int .i64 (d 0:Int)):=cellOf HR2.out rfl
    have n6:w2.cell? ⟨w1.heap.size,6,none⟩=some (.int .i64 (d 1:Int)):=cellOf HR2.out rfl
    have n7:w2.cell? ⟨w1.heap.size,7,none⟩=some (.int .i64 (d 2:Int)):=cellOf HR2.out rfl
    have n8:w2.cell? ⟨w1.heap.size,8,none⟩=some (.int .i64 (d 3:Int)):=cellOf HR2.out rfl
    have n9:w2.cell? ⟨w1.heap.size,9,none⟩=some (.int .i64 (d 4:Int)):=cellOf HR2.out rfl
    have n10:w2.cell? ⟨w1.heap.size,10,none⟩=some (.int .i64 (d 5:Int)):=cellOf HR2.out rfl
    have n11:w2.cell? ⟨w1.heap.size,11,none⟩=some (.int .i64 (d 6:Int)):=cellOf HR2.out rfl
    have n12:w2.cell? ⟨w1.heap.size,12,none⟩=some (.int .i64 (d 7:Int)):=cellOf HR2.out rfl
    have n13:w2.cell? ⟨w1.heap.size,13,none⟩=some (.int .i64 (x6:Int)):=cellOf HR2.out rfl
    go_wp2_with fail
    clear n0 n1 n2 n3 n4 n5 n6 n7 n8 n9 n10 n11 n12 n13
    refine(HTX.out _).mono ?_
    rintro e w3 ⟨rfl,hb3⟩
    have hz1:=heapOld (blN HB2.out hb3) HX1.out
    have HZ1:=zh hz1
    have HBy:=zh (blN HBw.out (blN HB2.out hb3))
    have HR3:=zh (heapOld hb3 HR2.out)
    have n0:w3.cell? ⟨w1.heap.size,0,none⟩=some (.int .i64 (x0:Int)):=cellOf HR3.out rfl
    have n1:w3.cell? ⟨w1.heap.size,1,none⟩=some (.int .i64 (x1:Int)):=cellOf HR3.out rfl
    have n2:w3.cell? ⟨w1.heap.size,2,none⟩=some (.int .i64 (x2:Int)):=cellOf HR3.out rfl
    have n3:w3.cell? ⟨w1.heap.size,3,none⟩=some (.int .i64 (x3:Int)):=cellOf HR3.out rfl
    have n4:w3.cell? ⟨w1.heap.size,4,none⟩=some (.int .i64 (x4:Int)):=cellOf HR3.out rfl
    have n5:w3.cell? ⟨w1.heap.size,5,none⟩=some (.int .i64 (d 0:Int)):=cellOf HR3.out rfl
    have n6:w3.cell? ⟨w1.heap.size,6,none⟩=some (.int .i64 (d 1:Int)):=cellOf HR3.out rfl
    have n7:w3.cell? ⟨w1.heap.size,7,none⟩=some (.int .i64 (d 2:Int)):=cellOf HR3.out rfl
    have n8:w3.cell? ⟨w1.heap.size,8,none⟩=some (.int .i64 (d 3:Int)):=cellOf HR3.out rfl
    have n9:w3.cell? ⟨w1.heap.size,9,none⟩=some (.int .i64 (d 4:Int)):=cellOf HR3.out rfl
    have n10:w3.cell? ⟨w1.heap.size,10,none⟩=some (.int .i64 (d 5:Int)):=cellOf HR3.out rfl
    have n11:w3.cell? ⟨w1.heap.size,11,none⟩=some (.int .i64 (d 6:Int)):=cellOf HR3.out rfl
    have n12:w3.cell? ⟨w1.heap.size,12,none⟩=some (.int .i64 (d 7:Int)):=cellOf HR3.out rfl
    have n13:w3.cell? ⟨w1.heap.size,13,none⟩=some (.int .i64 (x6:Int)):=cellOf HR3.out rfl
    have y0:=zc 0 hz1
    have y1:=zc 1 hz1
    have y2:=zc 2 hz1
    have y3:=zc 3 hz1
    have y4:=zc 4 hz1
    have y5:=zc 5 hz1
    have y6:=zc 6 hz1
    have y7:=zc 7 hz1
    have y8:=zc 8 hz1
    have y9:=zc 9 hz1
    have y10:=zc 10 hz1
    have y11:=zc 11 hz1
    have y12:=zc 12 hz1
    have y13:=zc 13 hz1
    have v0:w3.frozen? ⟨w.heap.size+1,0,none⟩=false:=freeOf hz1
    have v1:w3.frozen? ⟨w.heap.size+1,1,none⟩=false:=freeOf hz1
    have v2:w3.frozen? ⟨w.heap.size+1,2,none⟩=false:=freeOf hz1
    have v3:w3.frozen? ⟨w.heap.size+1,3,none⟩=false:=freeOf hz1
    have v4:w3.frozen? ⟨w.heap.size+1,4,none⟩=false:=freeOf hz1
    have v5:w3.frozen? ⟨w.heap.size+1,5,none⟩=false:=freeOf hz1
    have v6:w3.frozen? ⟨w.heap.size+1,6,none⟩=false:=freeOf hz1
    have v7:w3.frozen? ⟨w.heap.size+1,7,none⟩=false:=freeOf hz1
    have v8:w3.frozen? ⟨w.heap.size+1,8,none⟩=false:=freeOf hz1
    have v9:w3.frozen? ⟨w.heap.size+1,9,none⟩=false:=freeOf hz1
    have v10:w3.frozen? ⟨w.heap.size+1,10,none⟩=false:=freeOf hz1
    have v11:w3.frozen? ⟨w.heap.size+1,11,none⟩=false:=freeOf hz1
    have v12:w3.frozen? ⟨w.heap.size+1,12,none⟩=false:=freeOf hz1
    have v13:w3.frozen? ⟨w.heap.size+1,13,none⟩=false:=freeOf hz1
    clear hb3 hz1
    have qq:=list_eq TB s
    by_cases hTs:TB=s
    ·have fq:(TB.toList == s.toList)=true:=qq.trans (decide_eq_true hTs)
     have HE:=zh (HYg.out (HIff.out.2 ⟨HFt.out,hTs⟩) _ _ _ _ _ _ _ _ _ _ _ _ _ _ · HNN.out)
     clear qq hTs
     go_wp2
     obtain⟨Wf,hWf⟩:=zx (sets w3 (w.heap.size+1) 0 [.int .i64 (x0:Int),.int .i64 (x1:Int),.int .i64 (x2:Int),.int .i64 (x3:Int),.int .i64 (x4:Int),.int .i64 (d 0:Int),.int .i64 (d 1:Int),.int .i64 (d 2:Int),.int .i64 (d 3:Int),.int .i64 (d 4:Int),.int .i64 (d 5:Int),.int .i64 (d 6:Int),.int .i64 (d 7:Int),.int .i64 (x6:Int)])
     have hw4:=sets_all (vs:=[.int .i64 (x0:Int),.int .i64 (x1:Int),.int .i64 (x2:Int),.int .i64 (x3:Int),.int .i64 (x4:Int),.int .i64 (d 0:Int),.int .i64 (d 1:Int),.int .i64 (d 2:Int),.int .i64 (d 3:Int),.int .i64 (d 4:Int),.int .i64 (d 5:Int),.int .i64 (d 6:Int),.int .i64 (d 7:Int),.int .i64 (x6:Int)]) HZ1.out rfl
     have hb4:=sets_below (B:=w.heap.size) (b:=w.heap.size+1) (by omega) [.int .i64 (x0:Int),.int .i64 (x1:Int),.int .i64 (x2:Int),.int .i64 (x3:Int),.int .i64 (x4:Int),.int .i64 (d 0:Int),.int .i64 (d 1:Int),.int .i64 (d 2:Int),.int .i64 (d 3:Int),.int .i64 (d 4:Int),.int .i64 (d 5:Int),.int .i64 (d 6:Int),.int .i64 (d 7:Int),.int .i64 (x6:Int)] 0 _ HBy.out
     rw[hWf] at hw4 hb4
     show bodyPost _ _ _ _ _ (sets w3 (w.heap.size+1) 0 [.int .i64 (x0:Int),.int .i64 (x1:Int),.int .i64 (x2:Int),.int .i64 (x3:Int),.int .i64 (x4:Int),.int .i64 (d 0:Int),.int .i64 (d 1:Int),.int .i64 (d 2:Int),.int .i64 (d 3:Int),.int .i64 (d 4:Int),.int .i64 (d 5:Int),.int .i64 (d 6:Int),.int .i64 (d 7:Int),.int .i64 (x6:Int)])
     rw[hWf]
     clear y0 v0 y1 v1 y2 v2 y3 v3 y4 v4 y5 v5 y6 v6 y7 v7 y8 v8 y9 v9 y10 v10 y11 v11 y12 v12 y13 v13
     have y0:=zc 0 hw4
     have y1:=zc 1 hw4
     have y2:=zc 2 hw4
     have y3:=zc 3 hw4
     have y4:=zc 4 hw4
     have y5:=zc 5 hw4
     have y6:=zc 6 hw4
     have y7:=zc 7 hw4
     have y8:=zc 8 hw4
     have y9:=zc 9 hw4
     have y10:=zc 10 hw4
     have y11:=zc 11 hw4
     have y12:=zc 12 hw4
     have y13:=zc 13 hw4
     refine bodyPost_ret (v:=.tuple #[.agg #[.int .i64 (x0:Int),.int .i64 (x1:Int),.int .i64 (x2:Int),.int .i64 (x3:Int),.int .i64 (x4:Int),.int .i64 (d 0:Int),.int .i64 (d 1:Int),.int .i64 (d 2:Int),.int .i64 (d 3:Int),.int .i64 (d 4:Int),.int .i64 (d 5:Int),.int .i64 (d 6:Int),.int .i64 (d 7:Int),.int .i64 (x6:Int)],.int .i64 0]) (by simp[results,Tryz.results150,go_sem,y0,y1,y2,y3,y4,y5,y6,y7,y8,y9,y10,y11,y12,y13]) rfl ?_
     exact HE.out _ hb4
    ·have fq:(TB.toList == s.toList)=false:=qq.trans (decide_eq_false hTs)
     have HE:=zh (HNg.out (fun h=>hTs (HIff.out.1 h).2))
     clear qq hTs
     go_wp2
     obtain⟨Wf,hWf⟩:=zx (sets w3 (w.heap.size+1) 0 [.int .i64 0,.int .i64 0,.int .i64 0,.int .i64 0,.int .i64 0,.int .i64 0,.int .i64 0,.int .i64 0,.int .i64 0,.int .i64 0,.int .i64 0,.int .i64 0,.int .i64 0,.int .i64 0])
     have hw4:=sets_all (vs:=[.int .i64 0,.int .i64 0,.int .i64 0,.int .i64 0,.int .i64 0,.int .i64 0,.int .i64 0,.int .i64 0,.int .i64 0,.int .i64 0,.int .i64 0,.int .i64 0,.int .i64 0,.int .i64 0]) HZ1.out rfl
     have hb4:=sets_below (B:=w.heap.size) (b:=w.heap.size+1) (by omega) [.int .i64 0,.int .i64 0,.int .i64 0,.int .i64 0,.int .i64 0,.int .i64 0,.int .i64 0,.int .i64 0,.int .i64 0,.int .i64 0,.int .i64 0,.int .i64 0,.int .i64 0,.int .i64 0] 0 _ HBy.out
     rw[hWf] at hw4 hb4
     show bodyPost _ _ _ _ _ (sets w3 (w.heap.size+1) 0 [.int .i64 0,.int .i64 0,.int .i64 0,.int .i64 0,.int .i64 0,.int .i64 0,.int .i64 0,.int .i64 0,.int .i64 0,.int .i64 0,.int .i64 0,.int .i64 0,.int .i64 0,.int .i64 0])
     rw[hWf]
     clear y0 v0 y1 v1 y2 v2 y3 v3 y4 v4 y5 v5 y6 v6 y7 v7 y8 v8 y9 v9 y10 v10 y11 v11 y12 v12 y13 v13
     have y0:=zc 0 hw4
     have y1:=zc 1 hw4
     have y2:=zc 2 hw4
     have y3:=zc 3 hw4
     have y4:=zc 4 hw4
     have y5:=zc 5 hw4
     have y6:=zc 6 hw4
     have y7:=zc 7 hw4
     have y8:=zc 8 hw4
     have y9:=zc 9 hw4
     have y10:=zc 10 hw4
     have y11:=zc 11 hw4
     have y12:=zc 12 hw4
     have y13:=zc 13 hw4
     refine bodyPost_ret (v:=.tuple #[.agg #[.int .i64 0,.int .i64 0,.int .i64 0,.int .i64 0,.int .i64 0,.int .i64 0,.int .i64 0,.int .i64 0,.int .i64 0,.int .i64 0,.int .i64 0,.int .i64 0,.int .i64 0,.int .i64 0],.int .i64 60]) (by simp[results,Tryz.results150,go_sem,y0,y1,y2,y3,y4,y5,y6,y7,y8,y9,y10,y11,y12,y13]) rfl ?_
     exact HE.out _ hb4
end
