import Derived.Lib.AppendIntMem
import Derived.Test.YtgofmnhfajmbfaaGreatDoorBmWrite
set_option maxRecDepth 20000
set_option maxHeartbeats 4000000
namespace Go.Proofs.YtgofmnhfajmbfaaGreatDoor
open Go Go.RowKit Txt Sp
theorem sets_other {b k:Nat} (h:k≠b):∀(vs:List Value) (i:Nat) (w:World),(sets w b i vs).heap[k]? = w.heap[k]?
 | [],_,_=>rfl
 | v :: r,i,w=>(sets_other h r (i+1) (w.setCell ⟨b,i,none⟩ v)).trans (by simp[World.setCell,Array.getElem?_modify,Ne.symm h])
section
theorem bLoad_any {w:World} {base B Bd:Nat} {S:Sp.Side} {D:Nat→Prop} (h:SideAt w base B Bd S D) {g:Sp.Geom} {i:Int} {F:File} (hs:Stands S g i F) :
 Calls Tryz.prog 28 #[pt B,gV g,.int .i64 i] w fun e w'=>e = .returned (.tuple #[.agg (nA F.node),.int .i64 0])∧Below w.heap.size w w':=by
 have hlo:=fun(W:World) (hW:Below w.heap.size w W)=>bload_any (h.below hW) hs
 obtain⟨sec,hsec⟩:=zx (q1z g i)
 rw[hsec] at hlo
 obtain⟨n,hn⟩:=zx (F.node)
 rw[hn] at hlo ⊢
 clear h hs hsec hn
 unfold nA iA at hlo ⊢
 obtain⟨x0,h0⟩:=zx (n.kind)
 obtain⟨x1,h1⟩:=zx (n.links)
 obtain⟨x2,h2⟩:=zx (n.size)
 obtain⟨x3,h3⟩:=zx (n.parent)
 obtain⟨x4,h4⟩:=zx (n.gen)
 obtain⟨d0,h5⟩:=zx (n.direct.getD 0 0)
 obtain⟨d1,h6⟩:=zx (n.direct.getD 1 0)
 obtain⟨d2,h7⟩:=zx (n.direct.getD 2 0)
 obtain⟨d3,h8⟩:=zx (n.direct.getD 3 0)
 obtain⟨d4,h9⟩:=zx (n.direct.getD 4 0)
 obtain⟨d5,h10⟩:=zx (n.direct.getD 5 0)
 obtain⟨d6,h11⟩:=zx (n.direct.getD 6 0)
 obtain⟨d7,h12⟩:=zx (n.direct.getD 7 0)
 obtain⟨x6,h13⟩:=zx (n.more)
 rw[h0,h1,h2,h3,h4,h5,h6,h7,h8,h9,h10,h11,h12,h13] at hlo ⊢
 clear h0 h1 h2 h3 h4 h5 h6 h7 h8 h9 h10 h11 h12 h13
 obtain⟨ga,gb,gc⟩:=g
 unfold gV at hlo ⊢
 unfold pt at hlo ⊢
 obtain⟨W0,hW0⟩:=zg w ga gb gc
 have hk:=q30z hW0
 have HB0:=zh hk.1
 have HK:=zh hk.2
 clear hk
 have hsz:W0.heap.size=w.heap.size+1:=by rw[←hW0]; simp
 obtain⟨W1,hW1⟩:=zx (W0.alloc (.cells q186z 69))
 have hsz1:W1.heap.size=w.heap.size+2:=by rw[←hW1]; simp[hsz]
 obtain⟨W2,hW2⟩:=zx (W1.alloc (.cells #[.int .i64 0] 25))
 have HB2:Hid (Below W0.heap.size W0 W2):=by rw[←hW2,←hW1]; exact bl1 (bl2 _) _
 have HZ1:Hid (W2.heap[w.heap.size+1]? = some (.cells q186z 69 (0,0))):=by
  rw[←hW2,←hW1,←hsz]
  exact heapOld (bl2 _) (heapNew W0 _)
 have HZ2:Hid (W2.heap[w.heap.size+2]? = some (.cells #[.int .i64 0] 25 (0,0))):=by rw[←hW2,←hsz1]; exact heapNew W1 _
 unfold q186z at hW1
 have HLO:=zh (hlo W2 (blN HB0.out HB2.out))
 clear hlo
 obtain⟨z0,z1,z2⟩:=HK.out W2 HB2.out
 go_enter_defers Tryz.func28,Tryz.ntmps28
 go_wp2_with fail
 clear z0 z1 z2
 refine HLO.out.mono ?_
 rintro e w3 ⟨rfl,hb3⟩
 have hz1:=heapOld hb3 HZ1.out
 have hz2:=heapOld hb3 HZ2.out
 obtain⟨y0,y1⟩:=ino_cells hz1
 have HB3:=zh (blN HB0.out (blN HB2.out hb3))
 clear hb3
 have HZf:=zh (q45z hz1 (vs:=[.int .i64 x0,.int .i64 x1,.int .i64 x2,.int .i64 x3,.int .i64 x4,.int .i64 d0,.int .i64 d1,.int .i64 d2,.int .i64 d3,.int .i64 d4,.int .i64 d5,.int .i64 d6,.int .i64 d7,.int .i64 x6]) rfl)
 have HBf:=zh (sets14 (v0:=.int .i64 x0) (v1:=.int .i64 x1) (v2:=.int .i64 x2) (v3:=.int .i64 x3) (v4:=.int .i64 x4) (v5:=.int .i64 d0) (v6:=.int .i64 d1) (v7:=.int .i64 d2) (v8:=.int .i64 d3) (v9:=.int .i64 d4) (v10:=.int .i64 d5) (v11:=.int .i64 d6) (v12:=.int .i64 d7) (v13:=.int .i64 x6) (b:=w.heap.size+1) (Nat.le_succ _) HB3.out)
 have HCf:Hid ((((((((((((((((w3.setCell ⟨w.heap.size+1,0,none⟩ (.int .i64 x0)).setCell ⟨w.heap.size+1,1,none⟩ (.int .i64 x1)).setCell ⟨w.heap.size+1,2,none⟩ (.int .i64 x2)).setCell ⟨w.heap.size+1,3,none⟩ (.int .i64 x3)).setCell ⟨w.heap.size+1,4,none⟩ (.int .i64 x4)).setCell ⟨w.heap.size+1,5,none⟩ (.int .i64 d0)).setCell ⟨w.heap.size+1,6,none⟩ (.int .i64 d1)).setCell ⟨w.heap.size+1,7,none⟩ (.int .i64 d2)).setCell ⟨w.heap.size+1,8,none⟩ (.int .i64 d3)).setCell ⟨w.heap.size+1,9,none⟩ (.int .i64 d4)).setCell ⟨w.heap.size+1,10,none⟩ (.int .i64 d5)).setCell ⟨w.heap.size+1,11,none⟩ (.int .i64 d6)).setCell ⟨w.heap.size+1,12,none⟩ (.int .i64 d7)).setCell ⟨w.heap.size+1,13,none⟩ (.int .i64 x6))).heap[w.heap.size+2]? = some (.cells #[.int .i64 0] 25 (0,0))):=(sets_other (by omega) [.int .i64 x0,.int .i64 x1,.int .i64 x2,.int .i64 x3,.int .i64 x4,.int .i64 d0,.int .i64 d1,.int .i64 d2,.int .i64 d3,.int .i64 d4,.int .i64 d5,.int .i64 d6,.int .i64 d7,.int .i64 x6] 0 w3).trans hz2
 clear hz1 hz2
 go_upto_region 3 with fail
 obtain⟨W4,hW4⟩:=zx (((((((((((((((w3.setCell ⟨w.heap.size+1,0,none⟩ (.int .i64 x0)).setCell ⟨w.heap.size+1,1,none⟩ (.int .i64 x1)).setCell ⟨w.heap.size+1,2,none⟩ (.int .i64 x2)).setCell ⟨w.heap.size+1,3,none⟩ (.int .i64 x3)).setCell ⟨w.heap.size+1,4,none⟩ (.int .i64 x4)).setCell ⟨w.heap.size+1,5,none⟩ (.int .i64 d0)).setCell ⟨w.heap.size+1,6,none⟩ (.int .i64 d1)).setCell ⟨w.heap.size+1,7,none⟩ (.int .i64 d2)).setCell ⟨w.heap.size+1,8,none⟩ (.int .i64 d3)).setCell ⟨w.heap.size+1,9,none⟩ (.int .i64 d4)).setCell ⟨w.heap.size+1,10,none⟩ (.int .i64 d5)).setCell ⟨w.heap.size+1,11,none⟩ (.int .i64 d6)).setCell ⟨w.heap.size+1,12,none⟩ (.int .i64 d7)).setCell ⟨w.heap.size+1,13,none⟩ (.int .i64 x6)))
 have hz4:W4.heap[w.heap.size+1]? = some (.cells #[.int .i64 x0,.int .i64 x1,.int .i64 x2,.int .i64 x3,.int .i64 x4,.int .i64 d0,.int .i64 d1,.int .i64 d2,.int .i64 d3,.int .i64 d4,.int .i64 d5,.int .i64 d6,.int .i64 d7,.int .i64 x6] 69 (0,0)):=by rw[←hW4]; exact HZf.out
 have hb4:Below w.heap.size w W4:=by rw[←hW4]; exact HBf.out
 have hc4:=HCf.out
 rw[hW4] at hc4 ⊢
 clear HZf HBf HCf y0 y1 hW4 HB3
 obtain⟨u0,u1⟩:=q96z hz4
 have c4:=zc 0 hc4
 have v4:W4.frozen? ⟨w.heap.size+2,0,none⟩=false:=q4z hc4
 have HZg:=zh (q45z hz4 (vs:=[.int .i64 x0,.int .i64 x1,.int .i64 x2,.int .i64 x3,.int .i64 x4,.int .i64 d0,.int .i64 d1,.int .i64 d2,.int .i64 d3,.int .i64 d4,.int .i64 d5,.int .i64 d6,.int .i64 d7,.int .i64 x6]) rfl)
 have HCg:Hid ((((((((((((((((W4.setCell ⟨w.heap.size+1,0,none⟩ (.int .i64 x0)).setCell ⟨w.heap.size+1,1,none⟩ (.int .i64 x1)).setCell ⟨w.heap.size+1,2,none⟩ (.int .i64 x2)).setCell ⟨w.heap.size+1,3,none⟩ (.int .i64 x3)).setCell ⟨w.heap.size+1,4,none⟩ (.int .i64 x4)).setCell ⟨w.heap.size+1,5,none⟩ (.int .i64 d0)).setCell ⟨w.heap.size+1,6,none⟩ (.int .i64 d1)).setCell ⟨w.heap.size+1,7,none⟩ (.int .i64 d2)).setCell ⟨w.heap.size+1,8,none⟩ (.int .i64 d3)).setCell ⟨w.heap.size+1,9,none⟩ (.int .i64 d4)).setCell ⟨w.heap.size+1,10,none⟩ (.int .i64 d5)).setCell ⟨w.heap.size+1,11,none⟩ (.int .i64 d6)).setCell ⟨w.heap.size+1,12,none⟩ (.int .i64 d7)).setCell ⟨w.heap.size+1,13,none⟩ (.int .i64 x6))).heap[w.heap.size+2]? = some (.cells #[.int .i64 0] 25 (0,0))):=(sets_other (by omega) [.int .i64 x0,.int .i64 x1,.int .i64 x2,.int .i64 x3,.int .i64 x4,.int .i64 d0,.int .i64 d1,.int .i64 d2,.int .i64 d3,.int .i64 d4,.int .i64 d5,.int .i64 d6,.int .i64 d7,.int .i64 x6] 0 W4).trans hc4
 have HBg:=zh (sets14 (v0:=.int .i64 x0) (v1:=.int .i64 x1) (v2:=.int .i64 x2) (v3:=.int .i64 x3) (v4:=.int .i64 x4) (v5:=.int .i64 d0) (v6:=.int .i64 d1) (v7:=.int .i64 d2) (v8:=.int .i64 d3) (v9:=.int .i64 d4) (v10:=.int .i64 d5) (v11:=.int .i64 d6) (v12:=.int .i64 d7) (v13:=.int .i64 x6) (b:=w.heap.size+1) (Nat.le_succ _) hb4)
 go_wp2
 refine leaves_cons (f:=96) (args:=#[.pointer (some ⟨w.heap.size+2,0,none⟩)]) (by simp) (by simp[go_sem]) ?_
 refine(q76z ⟨w.heap.size+2,0,none⟩ _).mono ?_
 rintro e u' w'' ⟨rfl,rfl,rfl⟩
 obtain⟨W5,hW5⟩:=zx (((((((((((((((W4.setCell ⟨w.heap.size+1,0,none⟩ (.int .i64 x0)).setCell ⟨w.heap.size+1,1,none⟩ (.int .i64 x1)).setCell ⟨w.heap.size+1,2,none⟩ (.int .i64 x2)).setCell ⟨w.heap.size+1,3,none⟩ (.int .i64 x3)).setCell ⟨w.heap.size+1,4,none⟩ (.int .i64 x4)).setCell ⟨w.heap.size+1,5,none⟩ (.int .i64 d0)).setCell ⟨w.heap.size+1,6,none⟩ (.int .i64 d1)).setCell ⟨w.heap.size+1,7,none⟩ (.int .i64 d2)).setCell ⟨w.heap.size+1,8,none⟩ (.int .i64 d3)).setCell ⟨w.heap.size+1,9,none⟩ (.int .i64 d4)).setCell ⟨w.heap.size+1,10,none⟩ (.int .i64 d5)).setCell ⟨w.heap.size+1,11,none⟩ (.int .i64 d6)).setCell ⟨w.heap.size+1,12,none⟩ (.int .i64 d7)).setCell ⟨w.heap.size+1,13,none⟩ (.int .i64 x6)))
 have hz5:=HZg.out
 have hc5:=HCg.out
 have hb5:=HBg.out
 change (World.heap ((((((((((((((W4.setCell ⟨w.heap.size+1,0,none⟩ (.int .i64 x0)).setCell ⟨w.heap.size+1,1,none⟩ (.int .i64 x1)).setCell ⟨w.heap.size+1,2,none⟩ (.int .i64 x2)).setCell ⟨w.heap.size+1,3,none⟩ (.int .i64 x3)).setCell ⟨w.heap.size+1,4,none⟩ (.int .i64 x4)).setCell ⟨w.heap.size+1,5,none⟩ (.int .i64 d0)).setCell ⟨w.heap.size+1,6,none⟩ (.int .i64 d1)).setCell ⟨w.heap.size+1,7,none⟩ (.int .i64 d2)).setCell ⟨w.heap.size+1,8,none⟩ (.int .i64 d3)).setCell ⟨w.heap.size+1,9,none⟩ (.int .i64 d4)).setCell ⟨w.heap.size+1,10,none⟩ (.int .i64 d5)).setCell ⟨w.heap.size+1,11,none⟩ (.int .i64 d6)).setCell ⟨w.heap.size+1,12,none⟩ (.int .i64 d7)).setCell ⟨w.heap.size+1,13,none⟩ (.int .i64 x6)))[w.heap.size+1]? = _ at hz5
 rw[hW5] at hz5 hc5 hb5 ⊢
 have hc6:=q13z (k:=0) hc5 (.int .i64 0)
 have hz6:=(q14z (w:=W5) (b:=w.heap.size+2) (k:=0) (v:=.int .i64 0)).heap hz5 (by omega)
 have hb6:=hb5.setCell (p:=⟨w.heap.size+2,0,none⟩) (by show w.heap.size≤w.heap.size+2; omega) (.int .i64 0)
 obtain⟨W6,hW6⟩:=zx (W5.setCell ⟨w.heap.size+2,0,none⟩ (.int .i64 0))
 rw[hW6] at hc6 hz6 hb6 ⊢
 clear u0 u1 c4 v4 hz5 hc5 hb5
 obtain⟨t0,-⟩:=q96z hz6
 have t1:=zc 0 hc6
 simp[Leaves,settle,results,Tryz.results28,go_sem,t0,t1]
 exact hb6
theorem bBlocks_any {w:World} {base B Bd:Nat} {S:Sp.Side} {D:Nat→Prop} (h:SideAt w base B Bd S D) {g:Sp.Geom} {i:Int} {F:File} (hs:Stands S g i F) :
 Calls Tryz.prog 92 #[pt B,gV g,.agg (nA F.node)] w fun e w'=>∃v,e = .returned (.tuple #[v,.int .i64 0])∧OwnR 3 1 intC w.heap.size w' v F.blocks∧Below w.heap.size w w':=by
 have hbl:=fun(W:World) (hW:Below w.heap.size w W)=>bblocks_any (h.below hW) hs
 obtain⟨n,hn⟩:=zx (F.node)
 rw[hn] at hbl ⊢
 obtain⟨BL,hBL⟩:=zx (F.blocks)
 rw[hBL] at hbl ⊢
 clear h hs hn hBL
 unfold nA iA at hbl ⊢
 obtain⟨x0,h0⟩:=zx (n.kind)
 obtain⟨x1,h1⟩:=zx (n.links)
 obtain⟨x2,h2⟩:=zx (n.size)
 obtain⟨x3,h3⟩:=zx (n.parent)
 obtain⟨x4,h4⟩:=zx (n.gen)
 obtain⟨d0,h5⟩:=zx (n.direct.getD 0 0)
 obtain⟨d1,h6⟩:=zx (n.direct.getD 1 0)
 obtain⟨d2,h7⟩:=zx (n.direct.getD 2 0)
 obtain⟨d3,h8⟩:=zx (n.direct.getD 3 0)
 obtain⟨d4,h9⟩:=zx (n.direct.getD 4 0)
 obtain⟨d5,h10⟩:=zx (n.direct.getD 5 0)
 obtain⟨d6,h11⟩:=zx (n.direct.getD 6 0)
 obtain⟨d7,h12⟩:=zx (n.direct.getD 7 0)
 obtain⟨x6,h13⟩:=zx (n.more)
 rw[h0,h1,h2,h3,h4,h5,h6,h7,h8,h9,h10,h11,h12,h13] at hbl ⊢
 clear h0 h1 h2 h3 h4 h5 h6 h7 h8 h9 h10 h11 h12 h13
 obtain⟨ga,gb,gc⟩:=g
 unfold gV at hbl ⊢
 unfold pt at hbl ⊢
 obtain⟨W0,hW0⟩:=zg w ga gb gc
 have hk:=q30z hW0
 have HB0:=zh hk.1
 have HK:=zh hk.2
 clear hk
 have hsz:W0.heap.size=w.heap.size+1:=by rw[←hW0]; simp
 obtain⟨W1,hW1⟩:=zx (W0.alloc (.cells #[.int .i64 x0,.int .i64 x1,.int .i64 x2,.int .i64 x3,.int .i64 x4,.int .i64 d0,.int .i64 d1,.int .i64 d2,.int .i64 d3,.int .i64 d4,.int .i64 d5,.int .i64 d6,.int .i64 d7,.int .i64 x6] 69))
 have hsz1:W1.heap.size=w.heap.size+2:=by rw[←hW1]; simp[hsz]
 obtain⟨W2,hW2⟩:=zx (W1.alloc (.cells #[.int .i64 0] 25))
 have HB2:Hid (Below W0.heap.size W0 W2):=by rw[←hW2,←hW1]; exact bl1 (bl2 _) _
 have HZ1:Hid (W2.heap[w.heap.size+1]? = some (.cells #[.int .i64 x0,.int .i64 x1,.int .i64 x2,.int .i64 x3,.int .i64 x4,.int .i64 d0,.int .i64 d1,.int .i64 d2,.int .i64 d3,.int .i64 d4,.int .i64 d5,.int .i64 d6,.int .i64 d7,.int .i64 x6] 69 (0,0))):=by
  rw[←hW2,←hW1,←hsz]
  exact heapOld (bl2 _) (heapNew W0 _)
 have HZ2:Hid (W2.heap[w.heap.size+2]? = some (.cells #[.int .i64 0] 25 (0,0))):=by rw[←hW2,←hsz1]; exact heapNew W1 _
 have HBL:=zh (hbl W2 (blN HB0.out HB2.out))
 clear hbl
 obtain⟨z0,z1,z2⟩:=HK.out W2 HB2.out
 obtain⟨y0,-⟩:=q96z HZ1.out
 go_enter_defers Tryz.func92,Tryz.ntmps92
 go_wp2_with fail
 clear z0 z1 z2 y0
 refine HBL.out.mono ?_
 rintro e w3 ⟨v,rfl,ho3,hb3⟩
 have hz2:=heapOld hb3 HZ2.out
 have hbw:=blN HB0.out HB2.out
 have hB3:Below w.heap.size w (w3.setCell ⟨w.heap.size+2,0,none⟩ (.int .i64 0)):=(blN hbw hb3).setCell (p:=⟨w.heap.size+2,0,none⟩) (by show w.heap.size≤w.heap.size+2; omega) _
 have ho4:OwnR 3 1 intC w.heap.size (w3.setCell ⟨w.heap.size+2,0,none⟩ (.int .i64 0)) v BL:=(ho3.turn (q14z (b:=w.heap.size+2) (k:=0)) (fun k hk e=>by
  have h1:=(ho3.lt k hk).1
  have h2:=(Array.getElem?_eq_some_iff.1 HZ2.out).1
  omega)).mono hbw.size
 have hz4:=q13z (k:=0) hz2 (.int .i64 0)
 have HB4:=zh hB3
 have HO4:=zh ho4
 have HZ4:=zh hz4
 have c4:=zc 0 hz2
 have v4:w3.frozen? ⟨w.heap.size+2,0,none⟩=false:=q4z hz2
 clear ho3 hb3 hz2 hbw hB3 ho4 hz4
 go_wp2
 refine leaves_cons (f:=96) (args:=#[.pointer (some ⟨w.heap.size+2,0,none⟩)]) (by simp) (by simp[go_sem]) ?_
 refine(q76z ⟨w.heap.size+2,0,none⟩ _).mono ?_
 rintro e u' w'' ⟨rfl,rfl,rfl⟩
 have hb6:=HB4.out
 have ho6:=HO4.out
 have hz6:=HZ4.out
 clear HB4 HO4 HZ4 c4 v4
 generalize w3.setCell ⟨w.heap.size+2,0,none⟩ (.int .i64 0)=W6 at hb6 ho6 hz6 ⊢
 have t1:=zc 0 hz6
 simp[Leaves,settle,results,Tryz.results92,go_sem,t1]
 exact⟨ho6,hb6⟩
end
/-- All blocks below R, but b, are as they were. -/
structure Kept (R b:Nat) (w w':World):Prop where
 os:w'.os=w.os
 tape:w'.tape=w.tape
 output:w'.output=w.output
 size:w.heap.size≤w'.heap.size
 block:∀k,k<R→k≠b→w'.heap[k]? = w.heap[k]?
theorem Kept.refl (R b:Nat) (w:World):Kept R b w w:=⟨rfl,rfl,rfl,Nat.le_refl _,fun _ _ _=>rfl⟩
theorem Kept.setCell {R b:Nat} {w w1:World} (h:Kept R b w w1) {p:Addr} (hp:p.block=b∨R≤p.block) (v:Value):Kept R b w (w1.setCell p v):=by
 refine⟨h.os,h.tape,h.output,?_,fun k hk hn=>?_⟩
 ·have:=h.size
  simpa [World.setCell] using this
 ·refine(Below.heap_setCell _ _ _ _ ?_).trans (h.block k hk hn)
  rcases hp with hp | hp
  ·rw[hp]; exact hn
  ·omega
def BldP (R b:Nat) (p:Value) (l:List UInt8) (w:World):Prop:=b<R∧∃v,w.heap[b]? = some (.cells #[p,v] 222 (0,0))∧w.ownsRow R 5 1 v l.length (bytesV l)
def Bld (R b:Nat) (l:List UInt8) (w:World):Prop:=BldP R b (.pointer none) l w∨BldP R b (.pointer (some ⟨b,0,none⟩)) l w
theorem Bld.is {R b:Nat} {l:List UInt8} {w:World} (h:Bld R b l w):Lib.IsBuilder 222 5 b b (bytesV l) w:=by
 have hl:(bytesV l).length=l.length:=q60z l
 have key:∀p,BldP R b p l w→Lib.BuilderAt 222 5 b b p (bytesV l) w:=fun p ⟨hR,v,hb,hown⟩=>by
  refine⟨Nat.le_refl _,v,hb,?_,Lib.ownBlock_ne hown hb (by decide)⟩
  rw[hl]
  rcases hown with ⟨h1,h | ⟨g,cap,cur,rfl,h2,h3⟩⟩
  ·exact⟨h1,Or.inl h⟩
  ·exact⟨h1,Or.inr ⟨g,cap,cur,rfl,by omega,h3⟩⟩
 rcases h with h | h
 ·exact Or.inl (key _ h)
 ·exact Or.inr (key _ h)
theorem BldP.below {R b:Nat} {p:Value} {l:List UInt8} {w w':World} (h:BldP R b p l w) (hb:Below w.heap.size w w'):BldP R b p l w':=by
 obtain⟨hR,v,hbk,hown⟩:=h
 refine⟨hR,v,heapOld hb hbk,?_⟩
 obtain⟨h1,h | ⟨g,cap,cur,rfl,h2,h3,h4⟩⟩:=hown
 ·exact⟨h1,Or.inl h⟩
 ·exact⟨h1,Or.inr ⟨g,cap,cur,rfl,h2,heapOld hb h3,h4⟩⟩
theorem Bld.below {R b:Nat} {l:List UInt8} {w w':World} (h:Bld R b l w) (hb:Below w.heap.size w w'):Bld R b l w':=by
 rcases h with h | h
 ·exact Or.inl (h.below hb)
 ·exact Or.inr (h.below hb)
theorem Bld.fresh {R b:Nat} {w:World} (hR:b<R) (h:w.heap[b]? = some (.cells #[.pointer none,.slice none 0 0] 222 (0,0))):Bld R b [] w:=Or.inl ⟨hR,_,h,World.ownsRow_nil _ _ _ _⟩
theorem BldP.used {R b:Nat} {p:Value} {l:List UInt8} {w:World} (h:BldP R b p l w) (q:Value):BldP R b q l (w.setCell ⟨b,0,none⟩ q):=by
 obtain⟨hR,v,hbk,hown⟩:=h
 refine⟨hR,v,q13z (k:=0) hbk q,?_⟩
 obtain⟨h1,h | ⟨g,cap,cur,rfl,h2,h3,h4⟩⟩:=hown
 ·exact⟨h1,Or.inl h⟩
 ·exact⟨h1,Or.inr ⟨g,cap,cur,rfl,h2,(q75z q (by omega)).trans h3,h4⟩⟩
section
theorem bcheck_any (R b:Nat) (l:List UInt8) (w:World) (h:Bld R b l w):Calls Tryz.prog 203 #[.pointer (some ⟨b,0,none⟩)] w fun e w'=>e = .returned (.tuple #[])∧BldP R b (.pointer (some ⟨b,0,none⟩)) l w'∧Kept R b w w':=by
 have hinfo:(Tryz.prog.info? 222).map (fun i=>i.size)=some 2:=by kernel_rfl
 obtain⟨j,hj,hj2⟩:=Option.map_eq_some_iff.1 hinfo
 have hself:=fun W:World=>Lib.run_neq_ptr_same (P:=Tryz.prog) W ⟨b,0,none⟩ Tryz.underlying220 hj
 rcases h with h | h
 ·obtain⟨hR,v,hbk,hown⟩:=id h
  have c0:w.cell? ⟨b,0,none⟩=some (.pointer none):=cellOf hbk rfl
  have f0:w.frozen? ⟨b,0,none⟩=false:=q4z hbk
  have hsh:w.shape? b=some (222,2):=by simp[World.shape?,hbk]
  have htu:=Lib.run_to_unsafe (P:=Tryz.prog) w ⟨b,0,none⟩ Tryz.underlying220 Tryz.underlying327 hj (by rw[hj2]; decide) hsh (by show 0<2; decide)
  have hfu:=Lib.run_from_unsafe (P:=Tryz.prog) w (u:=222) ⟨b,0,none⟩ Tryz.underlying327 Tryz.underlying220 hj hsh (by kernel_rfl)
  have HU:=zh (h.used (.pointer (some ⟨b,0,none⟩)))
  have HB:=zh ((Kept.refl R b w).setCell (p:=⟨b,0,none⟩) (Or.inl rfl) (.pointer (some ⟨b,0,none⟩)))
  have hno:∀W:World,(callFunc 259 #[.pointer (some ⟨b,0,none⟩)]).run Tryz.prog W = .ok (.value (.pointer (some ⟨b,0,none⟩))) W:=fun W=>by kernel_rfl
  clear h hj hj2 hinfo hbk hown hsh hR
  go_enter Tryz.func203,Tryz.ntmps203
  go_wp2
  go_end0
  exact⟨rfl,HU.out,HB.out⟩
 ·obtain⟨hR,v,hbk,hown⟩:=id h
  have c0:w.cell? ⟨b,0,none⟩=some (.pointer (some ⟨b,0,none⟩)):=cellOf hbk rfl
  have HU:=zh h
  have heq:(binOp .eql 220 (.pointer (some ⟨b,0,none⟩)) (.pointer none)).run Tryz.prog w = .ok (.bool false) w:=by kernel_rfl
  clear h hj hj2 hinfo hbk hown hR
  go_enter Tryz.func203,Tryz.ntmps203
  go_wp2
  go_end0
  exact⟨rfl,HU.out,Kept.refl _ _ _⟩
theorem btext_any (R b:Nat) (l:List UInt8) (s:ByteArray) (w:World) (h:Bld R b l w) (hlen:l.length+s.size≤140737488355328) (hBw:R≤w.heap.size):Calls Tryz.prog 141 #[.pointer (some ⟨b,0,none⟩),.string s] w fun e w'=>e = .returned (.tuple #[.int .i64 s.size,.nilIface])∧Bld R b (l ++ s.data.toList) w'∧Kept R b w w':=by
 obtain⟨i0,hi,hz0,hz1,hz2⟩:=info_parts infoU8
 have hc:=bcheck_any R b l w h
 have hap:bytesV l ++ Lib.strCells s=bytesV (l ++ s.data.toList):=by unfold bytesV Lib.strCells; rw[List.map_append]
 have HAP:=zh hap
 have HC:=zh hc
 clear hc
 clear h hap
 go_enter Tryz.func141,Tryz.ntmps141
 go_wp2_with fail
 refine HC.out.mono ?_
 rintro e w1 ⟨rfl,h1,hb1⟩
 obtain⟨hR,v,hbk,hown⟩:=h1
 have c1:w1.cell? ⟨b,1,none⟩=some v:=cellOf hbk rfl
 have HOwn:=zh hown
 have HBk:=zh hbk
 have HB1:=zh hb1
 have hsz:R≤w1.heap.size:=Nat.le_trans hBw hb1.size
 clear hown hbk hb1
 go_wp2_with (at_builtin; refine Lib.wpList_append_own_string _ rfl _ _ 47 9 rfl R 5 i0 Tryz.underlying47 Tryz.underlying9 hi hz0 hz1 hz2 _ _ _ rfl HOwn.out s rfl ?c3 ?c4 ?c5 ?_)
 case c3=>unfold maxLen; omega
 case c4=>omega
 case c5=>exact hsz
 intro v' w4 hown4 hgrow4 _
 have hlt:b<w1.heap.size:=(Array.getElem?_eq_some_iff.1 HBk.out).1
 have hge:∀q,v.ownBlock=some q→R≤q:=fun q hq=>(HOwn.out.lt q hq).1
 have hb4:w4.heap[b]? = some (.cells #[.pointer (some ⟨b,0,none⟩),v] 222 (0,0)):=by
  rw[hgrow4.block b hlt (fun e=>by have:=hge b e.symm; omega)]
  exact HBk.out
 have d1:w4.cell? ⟨b,1,none⟩=some v:=cellOf hb4 rfl
 have f1:w4.frozen? ⟨b,1,none⟩=false:=q4z hb4
 have HFin:Hid (Bld R b (l ++ s.data.toList) (w4.setCell ⟨b,1,none⟩ v')):=by
  refine Or.inr ⟨hR,_,q13z (k:=1) hb4 _,?_⟩
  have hss:s.data.toList.length=s.size:=Array.length_toList
  rw[List.length_append,←HAP.out,hss]
  obtain⟨q1,h | ⟨g,cap,cur,he,q2,q3,q4⟩⟩:=hown4
  ·exact⟨q1,Or.inl h⟩
  ·exact⟨q1,Or.inr ⟨g,cap,cur,he,q2,(q75z _ (by omega)).trans q3,q4⟩⟩
 have HB4:Hid (Kept R b w (w4.setCell ⟨b,1,none⟩ v')):=by
  refine zh (Kept.setCell (p:=⟨b,1,none⟩) ?_ (Or.inl rfl) _)
  have k1:=HB1.out
  refine⟨hgrow4.os.trans k1.os,hgrow4.tape.trans k1.tape,hgrow4.output.trans k1.output,Nat.le_trans k1.size hgrow4.size,fun j hj hn=>?_⟩
  exact(hgrow4.block j (by omega) (fun e=>by have:=hge j e.symm; omega)).trans (k1.block j hj hn)
 obtain⟨ao,n',cap,hv⟩:∃ao n' cap,v' = .slice ao n' cap:=by
  rcases hown4.2 with ⟨hv,_⟩ | ⟨g,cap,cur,hv,_⟩
  ·exact⟨_,_,_,hv⟩
  ·exact⟨_,_,_,hv⟩
 subst hv
 clear hown4 hgrow4 hb4 hlt hge
 go_wp2
 go_ret2
 exact⟨rfl,HFin.out,HB4.out⟩
theorem bstring_any (R b:Nat) (l:List UInt8) (w:World) (h:Bld R b l w) (hb:b≤w.heap.size):Calls Tryz.prog 143 #[.pointer (some ⟨b,0,none⟩)] w fun e w'=>e = .returned (.string (ofL l))∧Below b w w':=
 Tryz.Builder_String_any b b l w h.is hb
end
def headL (V:Int→ByteArray) (F:File) (k:Nat):List UInt8:=(F.blocks.take k).flatMap (secL V)
theorem headL_snoc {V:Int→ByteArray} {F:File} {k:Nat} (hk:k<F.blocks.length):headL V F (k+1)=headL V F k ++ secL V (F.blocks.getD k 0):=by
 unfold headL
 rw[q31z (List.getElem?_eq_getElem hk),List.flatMap_append,List.getD_eq_getElem?_getD,List.getElem?_eq_getElem hk]
 simp
theorem headL_len {V:Int→ByteArray} {F:File} (h:∀b∈F.blocks,(secL V b).length=64) (k:Nat) (hk:k≤F.blocks.length):(headL V F k).length=64*k:=by
 unfold headL
 rw[q185z _ _ (fun b hb=>h b (List.mem_of_mem_take hb)),List.length_take,Nat.min_eq_left hk]
theorem headL_take {V:Int→ByteArray} {F:File} (h:∀b∈F.blocks,(secL V b).length=64) {k sz:Nat} (hk:k≤F.blocks.length) (hs:sz≤64*k):(headL V F k).take sz=(F.img V).take sz:=by
 have hl:=headL_len h k hk
 have e:F.img V=headL V F k ++ (F.blocks.drop k).flatMap (secL V):=by
  unfold File.img headL
  rw[←List.flatMap_append,List.take_append_drop]
 rw[e,List.take_append_of_le_length (by omega)]
theorem ext_take (l:List UInt8) (n:Nat):(ofL l).extract 0 n=ofL (l.take n):=by
 refine Txt.ext ?_
 rw[q8z,Lib.extract_data,q8z,List.drop_zero,Nat.sub_zero]
theorem ext_min (l:List UInt8) (n:Nat):(ofL l).extract 0 (min n (ofL l).size)=ofL (l.take n):=by
 have hs:(ofL l).size=l.length:=by rw[Lib.size_eq,q8z]
 rw[ext_take,hs]
 congr 1
 by_cases h:n≤l.length
 ·rw[Nat.min_eq_left h]
 ·rw[Nat.min_eq_right (by omega),List.take_of_length_le (Nat.le_refl _),List.take_of_length_le (by omega)]
theorem ext_drop (l:List UInt8) (n:Nat):(ofL l).extract (min n (ofL l).size) (ofL l).size=ofL (l.drop n):=by
 have hs:(ofL l).size=l.length:=by rw[Lib.size_eq,q8z]
 refine Txt.ext ?_
 rw[q8z,Lib.extract_data,q8z,hs]
 by_cases h:n≤l.length
 ·rw[Nat.min_eq_left h,List.take_of_length_le (by rw[List.length_drop]; omega)]
 ·rw[Nat.min_eq_right (by omega),List.drop_of_length_le (Nat.le_refl _),List.drop_of_length_le (by omega)]
  simp
theorem Kept.turn {R b:Nat} {w w':World} (h:Kept R b w w'):Turn (fun j=>j=b∨R≤j) w w':=⟨h.os,h.tape,h.output,h.size,fun k _ hn=>h.block k (by omega) (by omega)⟩
def ReadRel (W1:World) (base B Bd Bf:Nat) (D:Nat→Prop) (g:Sp.Geom) (i:Int) (S:Sp.Side) (F:File) (vb:Value) (R b:Nat) (q:Value) (wr:World):Prop:=
 ∃k:Nat,(k=0∨((64*(k-1):Nat):Int)<F.size)∧q = .int .i64 (k:Int)∧FM W1 base B Bd Bf D g i (q1z g i) F.node ⟨S,F,[]⟩ vb (.slice none 0 0) D wr∧Bld R b (headL S.read F k) wr∧R≤wr.heap.size
theorem FM.kept {w0 w w':World} {base B Bd Bf R b:Nat} {D0 D:Nat→Prop} {g:Sp.Geom} {i at_:Int} {n:Sp.Inode} {t:BSt} {vb vm:Value} (h:FM w0 base B Bd Bf D0 g i at_ n t vb vm D w) (hk:Kept R b w w') (hD:∀j,D j→j<b) (hf:Bf<b) (hv:∀k,vb.ownBlock=some k→k<b) (hm:∀k,vm.ownBlock=some k→k<b) (hR:b<R) (h0:w0.heap.size≤b):FM w0 base B Bd Bf D0 g i at_ n t vb vm D w':=by
 have hT:=hk.turn
 exact⟨h.core.turn hT (fun j hj hd=>by have:=hD j hd; omega) (by omega) (fun k hk' hK=>by have:=hv k hk'; omega) (fun j hj=>by omega),h.mad.turn hT (fun k hk' hK=>by have:=hm k hk'; omega),h.nm,h.nbm⟩
def readB (F:File) (V:Int→ByteArray) (off bytes:Nat):ByteArray:=ofL ((((F.img V).take F.size.toNat).drop off).take bytes)
theorem q140z (d:Nat) (v:Value) (h1:d≠10) (h2:d≠11) (t:Array Value):results Tryz.f84 (t.setIfInBounds d v)=results Tryz.f84 t:=by
 simp[results,Tryz.results84,Array.getElem?_setIfInBounds,h1,h2]
section
theorem bread_any {w:World} {base B Bd:Nat} {S:Sp.Side} {D:Nat→Prop} (h:SideAt w base B Bd S D) (hD:∀j,D j→j<w.heap.size) {g:Sp.Geom} {i:Int} {F:File} (hs:Stands S g i F) (hsec:∀b∈F.blocks,b≠0→S.disk.has b) (off bytes:Nat) (ho:off≤1000000) (hby:bytes≤1000000) :
 Calls Tryz.prog 84 #[pt B,gV g,.int .i64 i,.int .i64 (off:Int),.int .i64 (bytes:Int)] w fun e w'=>e = .returned (.tuple #[.string (readB F S.read off bytes),.int .i64 0])∧q18z w base B Bd S D w':=by
 obtain⟨ga,gb,gc⟩:=g
 unfold gV pt
 obtain⟨W0,hW0⟩:=zg w ga gb gc
 have hk:=q30z hW0
 have HB0:=zh hk.1
 have HK:=zh hk.2
 clear hk
 have hsz:W0.heap.size=w.heap.size+1:=by rw[←hW0]; simp
 obtain⟨W1,hW1⟩:=zx (W0.alloc (.cells #[.int .i64 0] 25))
 have HB1:Hid (Below W0.heap.size W0 W1):=by rw[←hW1]; exact bl2 _
 have HZ1:Hid (W1.heap[w.heap.size+1]? = some (.cells #[.int .i64 0] 25 (0,0))):=by rw[←hW1,←hsz]; exact heapNew W0 _
 have hbw:Below w.heap.size w W1:=blN HB0.out HB1.out
 have hbs:=h.baseLe
 have hop:=bopen_any (Below.refl W1.heap.size W1) (h.below hbw).baseLe (h.below hbw) (fun j hj=>Nat.lt_of_lt_of_le (hD j hj) hbw.size) hs
 unfold OpenPost gV pt at hop
 obtain⟨z0,z1,z2⟩:=HK.out W1 HB1.out
 have HOP:=zh hop
 have hbl:=fun W:World=>q84z W
 have q0:decide (min (off:Int) (bytes:Int)<0)=false:=decide_eq_false (by omega)
 clear hop hbw
 have H:=zh h
 have HS:=zh hs
 have HSEC:=zh hsec
 have HBL:=zh hbl
 have HO:=zh ho
 have HBY:=zh hby
 clear h hs hsec hbl ho hby
 go_enter_defers Tryz.func84,Tryz.ntmps84
 go_wp2_with fail
 refine HOP.out.mono ?_
 rintro e w2 ⟨Bf,vb,rfl,hM,hb2⟩
 obtain⟨W3,hW3⟩:=zx (w2.alloc (.cells #[.pointer none,.slice none 0 0] 222))
 have hb3:Below w2.heap.size w2 W3:=by rw[←hW3]; exact bl2 _
 have hs3:W3.heap.size=w2.heap.size+1:=by rw[←hW3]; simp
 have hz3:W3.heap[w2.heap.size]? = some (.cells #[.pointer none,.slice none 0 0] 222 (0,0)):=by rw[←hW3]; exact heapNew w2 _
 have HLT:Hid ((∀j,D j→j<w2.heap.size)∧Bf<w2.heap.size∧(∀k,vb.ownBlock=some k→k<w2.heap.size)∧W1.heap.size≤w2.heap.size):=⟨hM.core.lt,hM.core.bf,fun k hk=>(hM.core.blk.lt k hk).2,hb2.size⟩
 have HR0:Hid (ReadRel W1 base B Bd Bf D ⟨ga,gb,gc⟩ i S F vb (w2.heap.size+1) w2.heap.size (.int .i64 0) W3):=⟨0,Or.inl rfl,rfl,hM.below hb3,Bld.fresh (Nat.lt_succ_self _) hz3,by omega⟩
 clear hM hb2 hb3 hz3 z0 z1 z2 HOP
 go_wp2
 clear hs3
 have hs64:∀b∈F.blocks,(secL S.read b).length=64:=fun b hb=>by
  unfold secL
  split
  ·exact zeros_length 64
  ·rename_i h0
   exact q164z HS.out.ok (HSEC.out b hb h0)
 have hszb:0≤F.size∧F.size≤2560:=⟨HS.out.fits.2.2.2.2.1,HS.out.fits.2.2.2.2.2.1⟩
 have HS64:=zh hs64
 obtain⟨sz,hszn⟩:∃sz:Nat,F.size=(sz:Int):=⟨F.size.toNat,by omega⟩
 have hsz2:sz≤2560:=by omega
 have HSZN:=zh hszn
 have HSZ2:=zh hsz2
 clear hs64 hszb hszn hsz2
 go_loopw [14] (fun q wr=>ReadRel W1 base B Bd Bf D ⟨ga,gb,gc⟩ i S F vb (w2.heap.size+1) w2.heap.size q wr) (fun q _=>41-(intOf q).toNat)
 case atStart=>exact HR0.out
 case round=>
  clear HR0
  obtain⟨k,hk0,rfl,hM,hB,hRz⟩:=hrel
  have hk40:k≤40:=by
   have:=HSZN.out
   have:=HSZ2.out
   rcases hk0 with h | h <;> omega
  have x8a:=zc 8 hM.core.box
  have x8:wr.cell? ⟨Bf,8,none⟩=some (.int .i64 (sz:Int)):=by rw[←HSZN.out]; exact x8a
  clear x8a
  obtain⟨K64,hK64⟩:=zx (k*64)
  have e1:IntKind.i64.wrap ((k:Int)*64)=(K64:Int):=by rw[IntWalk.i64_in _ (by omega)]; omega
  by_cases hlt:K64<sz
  ·have hq1:decide ((K64:Int)<(sz:Int))=true:=decide_eq_true (by omega)
   have hk:k<40:=by have:=HSZ2.out; omega
   have hki:(k:Int)<40:=by omega
   have hlen:=HS.out.file.len
   obtain⟨gb',cap,hvb0,c0a⟩:=hM.blkCell (q:=k) (by show k<F.blocks.length; omega)
   have hvb:vb = .slice (some ⟨gb',0,none⟩) 40 cap:=by rw[hvb0]; congr 1
   have c0:wr.cell? ⟨gb',k,none⟩=some (.int .i64 (F.blocks.getD k 0)):=c0a
   clear hvb0 c0a
   have x20a:=zc 20 hM.core.box
   have x20:wr.cell? ⟨Bf,20,none⟩=some (.slice (some ⟨gb',0,none⟩) 40 cap):=by rw[←hvb]; exact x20a
   have hsn:=headL_snoc (V:=S.read) (F:=F) (k:=k) (by omega)
   have hln:=headL_len HS64.out k (by omega)
   have hmem:F.blocks.getD k 0∈F.blocks:=by rw[List.getD_eq_getElem?_getD,List.getElem?_eq_getElem (by omega)]; exact List.getElem_mem _
   have hnext:∀(w6 w7:World) (x:ByteArray),Below wr.heap.size wr w6→x.data.toList=secL S.read (F.blocks.getD k 0)→Bld (w2.heap.size+1) w2.heap.size (headL S.read F k ++ x.data.toList) w7→Kept (w2.heap.size+1) w2.heap.size w6 w7→ReadRel W1 base B Bd Bf D ⟨ga,gb,gc⟩ i S F vb (w2.heap.size+1) w2.heap.size (.int .i64 ((k+1:Nat):Int)) w7:=fun w6 w7 x hb6 hx hB7 hk7=>by
    obtain⟨l1,l2,l3,l4⟩:=HLT.out
    rw[hx,←hsn] at hB7
    refine⟨k+1,Or.inr (by have:=HSZN.out; rw[Nat.add_sub_cancel]; omega),rfl,(hM.below hb6).kept hk7 l1 l2 l3 (fun k hk=>by cases hk) (Nat.lt_succ_self _) l4,hB7,?_⟩
    have:=hk7.size
    have:=hb6.size
    omega
   have htx:∀w6 (x:ByteArray),Below wr.heap.size wr w6→x.size=64→Calls Tryz.prog 141 #[.pointer (some ⟨w2.heap.size,0,none⟩),.string x] w6 fun e w'=>e = .returned (.tuple #[.int .i64 x.size,.nilIface])∧Bld (w2.heap.size+1) w2.heap.size (headL S.read F k ++ x.data.toList) w'∧Kept (w2.heap.size+1) w2.heap.size w6 w':=fun w6 x hb6 hx=>
    btext_any (w2.heap.size+1) w2.heap.size (headL S.read F k) x w6 (hB.below hb6) (by rw[hln,hx]; omega) (Nat.le_trans hRz hb6.size)
   obtain⟨b,hb⟩:=zx (F.blocks.getD k 0)
   rw[hb] at c0 hnext hmem
   have hsee:=fun(hb0:b≠0)=>bseen_any hM.core.side HS.out.ok (HSEC.out b hmem hb0)
   have hsx:b≠0→(S.read b).size=64:=fun hb0=>q164z HS.out.ok (HSEC.out b hmem hb0)
   have HNX:=zh hnext
   have HTX:=zh htx
   unfold pt at hsee
   have HSEE:=zh hsee
   have HSX:=zh hsx
   clear hnext htx hsee hsx hsn hln hmem hb hM hB hRz hk0 hvb x20a hlen hk40
   by_cases hb0:b=0
   ·subst hb0
    obtain⟨BK,hBK⟩:=zx (Sp.blank)
    have hb64:BK.size=64:=by rw[←hBK]; unfold Sp.blank; rw[Lib.size_eq,q8z,zeros_length]
    have hbd:BK.data.toList=secL S.read 0:=by rw[←hBK]; unfold Sp.blank; rw[q8z]; exact(if_pos rfl).symm
    have HBL2:Hid (∀W:World,Calls Tryz.prog 35 #[] W fun e w'=>e = .returned (.string BK)∧Below W.heap.size W w'):=by rw[←hBK]; exact HBL.out
    have H64:=zh hb64
    have HBD:=zh hbd
    clear hb64 hbd hBK
    go_wp2_with fail
    refine(HBL2.out _).mono ?_
    rintro e w6 ⟨rfl,hb6⟩
    have HT6:=zh (HTX.out w6 BK hb6 H64.out)
    have HN6:=zh (fun w7=>HNX.out w6 w7 BK hb6 HBD.out)
    clear hb6
    go_wp2_with fail
    refine HT6.out.mono ?_
    rintro e w7 ⟨rfl,hB7,hk7⟩
    have HRel:=zh (HN6.out w7 hB7 hk7)
    clear hB7 hk7
    go_wp2
    go_roundw
    case rel=>exact HRel.out
    case measure=>simp[intOf]; omega
   ·have q2:(b == 0)=false:=beq_eq_false_iff_ne.2 hb0
    have HSE:=zh (HSEE.out hb0)
    have H64:=zh (HSX.out hb0)
    have HBD:Hid ((S.read b).data.toList=secL S.read b):=(if_neg hb0).symm
    obtain⟨X,hX⟩:=zx (S.read b)
    rw[hX] at HSE H64 HBD
    clear hX hb0 HSEE HSX
    go_wp2_with fail
    refine HSE.out.mono ?_
    rintro e w6 ⟨rfl,hb6⟩
    have HT6:=zh (HTX.out w6 X hb6 H64.out)
    have HN6:=zh (fun w7=>HNX.out w6 w7 X hb6 HBD.out)
    clear hb6
    go_wp2_with fail
    refine HT6.out.mono ?_
    rintro e w7 ⟨rfl,hB7,hk7⟩
    have HRel:=zh (HN6.out w7 hB7 hk7)
    clear hB7 hk7
    go_wp2
    go_roundw
    case rel=>exact HRel.out
    case measure=>simp[intOf]; omega
  ·have hq1:decide ((K64:Int)<(sz:Int))=false:=decide_eq_false (by omega)
   have hst:=bstring_any (w2.heap.size+1) w2.heap.size (headL S.read F k) wr.drew (hB.below (blD (Below.refl _ _))) (Nat.le_trans (Nat.le_succ _) hRz)
   have hlen:=HS.out.file.len
   have hln:=headL_len HS64.out k (by omega)
   have htk:=headL_take HS64.out (k:=k) (sz:=sz) (by omega) (by omega)
   have hT1:=ext_take (headL S.read F k) sz
   rw[htk] at hT1
   have hA1:=ext_drop ((F.img S.read).take sz) off
   have hA2:=ext_min (((F.img S.read).take sz).drop off) bytes
   have hrb:ofL ((((F.img S.read).take sz).drop off).take bytes)=readB F S.read off bytes:=by
    unfold readB
    rw[HSZN.out,Int.toNat_natCast]
   rw[hrb] at hA2
   have hTs:(ofL (headL S.read F k)).size=64*k:=by rw[Lib.size_eq,q8z,hln]
   obtain⟨T,hT⟩:=zx (ofL (headL S.read F k))
   obtain⟨A,hA⟩:=zx (ofL ((F.img S.read).take sz))
   obtain⟨A2,hA2e⟩:=zx (ofL (((F.img S.read).take sz).drop off))
   obtain⟨RB,hRB⟩:=zx (readB F S.read off bytes)
   rw[hT] at hst hT1 hTs
   rw[hA] at hT1 hA1
   rw[hA2e] at hA1 hA2
   rw[hRB] at hA2
   obtain⟨m,hm⟩:=zx (min off A.size)
   obtain⟨m3,hm3⟩:=zx (min bytes A2.size)
   rw[hm] at hA1
   rw[hm3] at hA2
   have f1:min (off:Int) (A.size:Int)=(m:Int):=by omega
   have f2:min (bytes:Int) (A2.size:Int)=(m3:Int):=by omega
   have f3:(sz:Int)≤(T.size:Int):=by omega
   have f3n:sz≤T.size:=by omega
   have f4:(m:Int)≤(A.size:Int):=by omega
   have f4n:m≤A.size:=by omega
   have f5:(m3:Int)≤(A2.size:Int):=by omega
   have f5n:m3≤A2.size:=by omega
   have hkeep:∀we,Below w2.heap.size wr.drew we→FM W1 base B Bd Bf D ⟨ga,gb,gc⟩ i (q1z ⟨ga,gb,gc⟩ i) F.node ⟨S,F,[]⟩ vb (.slice none 0 0) D we:=fun we hwe=>by
    obtain⟨l1,l2,l3,l4⟩:=HLT.out
    have hk:Kept (w2.heap.size+1) w2.heap.size wr we:=⟨hwe.os,hwe.tape,hwe.output,hwe.size,fun k hk hn=>hwe.block k (by omega)⟩
    exact hM.kept hk l1 l2 l3 (fun k hk=>by cases hk) (Nat.lt_succ_self _) l4
   have HKEEP:=zh hkeep
   have HST:=zh hst
   have HRBE:=zh hRB
   have x8d:wr.drew.cell? ⟨Bf,8,none⟩=some (.int .i64 (sz:Int)):=x8
   clear hst hlen hln htk hrb hTs hT hA hA2e hRB hm hm3 hkeep hM hB hRz hk0
   go_wp2_with fail
   clear x8
   refine wp_region_held_drew (S:=(fun W=>W.cell? ⟨Bf,8,none⟩=some (.int .i64 (sz:Int)))) (by kernel_rfl) (by first | trivial | assumption) (fun hHeld=>?_)
   refine tkH 1 ?_ rfl (hQ:=(q23z (q140z _ _ (by decide) (by decide)))); simp only[Act.put,ps0]
   refine tkH 2 ?_ rfl (hQ:=(q23z (q140z _ _ (by decide) (by decide)))); simp only[Act.put,ps0]
   refine tkH 3 ?_ rfl (hQ:=(q23z (q140z _ _ (by decide) (by decide)))); simp only[Act.put,ps0]
   refine tkH 4 ?_ rfl (hQ:=(q23z (q140z _ _ (by decide) (by decide)))); simp only[Act.put,ps0]
   refine tkH 5 ?_ rfl (hQ:=(q23z (q140z _ _ (by decide) (by decide)))); simp only[Act.put,ps0]
   refine wpAnyH_ready (rs:=[0]) (by kernel_rfl) (by simp) ?_
   refine AllReadyH.cons rfl (fun K hK=>?_) AllReadyH.nil
   try simp only[List.getElem_toArray,List.getElem_cons_zero]
   go_simp
   refine HST.out.mono ?_
   rintro e we ⟨rfl,hbe⟩
   have HMe:=zh (HKEEP.out we hbe)
   have x8a:=zc 8 HMe.out.core.box
   have x8:we.cell? ⟨Bf,8,none⟩=some (.int .i64 (sz:Int)):=by rw[←HSZN.out]; exact x8a
   clear x8a hbe
   try simp only
   refine hK.out _ _ ?hkS (fun hHeld=>?_)
   case hkS=>
    exact x8
   clear hK K
   try simp only[Act.put,ps0]
   refine tkH 6 ?_ rfl (hQ:=(q23z (q140z _ _ (by decide) (by decide)))); simp only[Act.put,ps0]
   refine tkH 7 ?_ rfl (hQ:=(q23z (q140z _ _ (by decide) (by decide)))); simp only[Act.put,ps0]
   refine wpAnyH_done (by kernel_rfl) ?_ _
   clear hHeld
   have hze:we.heap[w.heap.size+1]? = some (.cells #[.int .i64 0] 25 (0,0)):=HMe.out.core.tn.heap HZ1.out (fun hd=>by have:=hD _ hd; omega)
   have hfin:=HMe.out.finish (blN HB0.out HB1.out) hD hbs (q:=w.heap.size+1) (Nat.le_succ _) (Array.getElem?_eq_some_iff.1 HZ1.out).1 (.int .i64 0)
   have HFIN:=zh hfin.2
   have HZ7:=zh (q13z (k:=0) hze (.int .i64 0))
   have c6:=zc 0 hze
   have v6:we.frozen? ⟨w.heap.size+1,0,none⟩=false:=q4z hze
   clear hfin hze x8
   go_wp2
   refine leaves_cons (f:=96) (args:=#[.pointer (some ⟨w.heap.size+1,0,none⟩)]) (by simp) (by simp[go_sem]) ?_
   refine(q76z ⟨w.heap.size+1,0,none⟩ _).mono ?_
   rintro e u' w'' ⟨rfl,rfl,rfl⟩
   have hz8:=HZ7.out
   have hEnd:=HFIN.out
   clear HZ7 HFIN c6 v6
   generalize we.setCell ⟨w.heap.size+1,0,none⟩ (.int .i64 0)=W7 at hz8 hEnd ⊢
   have u0:=zc 0 hz8
   simp[Leaves,settle,results,Tryz.results84,go_sem,u0]
   exact⟨HRBE.out.symm,hEnd⟩
end
theorem block_ok {g:Sp.Geom} (hg:g.ok) {k p:Int} (hk:0≤k∧k<g.groups) (hp:0≤p∧p<g.blocks):q22z g (q2z g k p):=by
 obtain⟨h0,h1,h2⟩:=q67z hg hk hp
 refine Or.inr ?_
 unfold Sp.Geom.what
 have hw:g.within (q2z g k p) g.size=0:=by
  unfold Sp.Geom.within
  rw[if_pos hg,if_neg (by omega)]
 rw[if_pos hw,h2]
 exact⟨rfl,rfl⟩
theorem Bm.stands {g:Sp.Geom} {i:Int} {S:Sp.Side} {F:File} {X Y:List Int} {r:Nat} (h:Bm g i S F X Y r) (hg:g.ok) (h1:1≤i) (h2:i≤g.groups*g.inodes) (hk:F.kind=1) (hp:F.parent=0) (hge:0≤F.gen∧F.gen≤65535) (hl:0≤F.links∧F.links≤255) (hz:0≤F.size∧F.size≤2560):Stands S g i F:=by
 have hblk:∀b,b=F.more∨b∈F.blocks→q22z g b:=fun b hb=>by
  by_cases h0:b=0
  ·exact Or.inl h0
  ·obtain⟨k,p,hkk,hpp,e⟩:=h.held.blk (h.own b (q6z.2 ⟨hb,h0⟩))
   rw[e]
   exact block_ok hg hkk hpp
 exact⟨hg,h.held.ok,h1,h2,h.inode_in hg h1 h2,h.file,⟨hge.1,hge.2,hl.1,hl.2,hz.1,hz.2,Or.inr (Or.inl ⟨hk,hp,fun b hb=>hblk b (Or.inr (List.mem_of_mem_take hb)),hblk _ (Or.inl rfl)⟩)⟩,fun hm=>h.hasB hg (h.own _ (q6z.2 ⟨Or.inl rfl,hm⟩)),fun b hb=>hblk b (Or.inr hb)⟩
