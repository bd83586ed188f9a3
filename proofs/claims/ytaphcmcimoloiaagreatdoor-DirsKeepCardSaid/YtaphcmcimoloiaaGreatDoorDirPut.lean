/-
 BmE: BmLoads,Builder,BmRead,BmStands.
-/
import Derived.Lib.AppendIntMem
import Derived.Test.YtaphcmcimoloiaaGreatDoorBmWrite
import Derived.Test.YtaphcmcimoloiaaGreatDoorSpDirAsk
import Derived.Test.YtaphcmcimoloiaaGreatDoorEntryDec
set_option maxRecDepth 20000
set_option maxHeartbeats 4000000
namespace Go.Proofs.YtaphcmcimoloiaaGreatDoor
open Go Go.RowKit Txt Sp
theorem sets_other {b k:Nat} (h:k≠b):∀(vs:List Value) (i:Nat) (w:World),(sets w b i vs).heap[k]? = w.heap[k]?
 | [],_,_=>rfl
 | v :: r,i,w=>(sets_other h r (i+1) (w.setCell ⟨b,i,none⟩ v)).trans (by simp[World.setCell,Array.getElem?_modify,Ne.symm h])
section
theorem bLoad_any {w:World} {base B Bd:Nat} {S:Sp.Side} {D:Nat→Prop} (h:SideAt w base B Bd S D) {g:Sp.Geom} {i:Int} {F:File} (hs:Stands S g i F) :
 Calls Tryz.prog 30 #[pt B,gV g,.int .i64 i] w fun e w'=>e = .returned (.tuple #[.agg (nA F.node),.int .i64 0])∧Below w.heap.size w w':=by
 have hlo:=fun(W:World) (hW:Below w.heap.size w W)=>bload_any (h.below hW) hs
 obtain⟨sec,hsec⟩:∃s,q5z g i=s:=⟨_,rfl⟩
 rw[hsec] at hlo
 obtain⟨n,hn⟩:∃n,F.node=n:=⟨_,rfl⟩
 rw[hn] at hlo ⊢
 clear h hs hsec hn
 unfold nA iA at hlo ⊢
 obtain⟨x0,h0⟩:∃x,n.kind=x:=⟨_,rfl⟩
 obtain⟨x1,h1⟩:∃x,n.links=x:=⟨_,rfl⟩
 obtain⟨x2,h2⟩:∃x,n.size=x:=⟨_,rfl⟩
 obtain⟨x3,h3⟩:∃x,n.parent=x:=⟨_,rfl⟩
 obtain⟨x4,h4⟩:∃x,n.gen=x:=⟨_,rfl⟩
 obtain⟨d0,h5⟩:∃x,n.direct.getD 0 0=x:=⟨_,rfl⟩
 obtain⟨d1,h6⟩:∃x,n.direct.getD 1 0=x:=⟨_,rfl⟩
 obtain⟨d2,h7⟩:∃x,n.direct.getD 2 0=x:=⟨_,rfl⟩
 obtain⟨d3,h8⟩:∃x,n.direct.getD 3 0=x:=⟨_,rfl⟩
 obtain⟨d4,h9⟩:∃x,n.direct.getD 4 0=x:=⟨_,rfl⟩
 obtain⟨d5,h10⟩:∃x,n.direct.getD 5 0=x:=⟨_,rfl⟩
 obtain⟨d6,h11⟩:∃x,n.direct.getD 6 0=x:=⟨_,rfl⟩
 obtain⟨d7,h12⟩:∃x,n.direct.getD 7 0=x:=⟨_,rfl⟩
 obtain⟨x6,h13⟩:∃x,n.more=x:=⟨_,rfl⟩
 rw[h0,h1,h2,h3,h4,h5,h6,h7,h8,h9,h10,h11,h12,h13] at hlo ⊢
 clear h0 h1 h2 h3 h4 h5 h6 h7 h8 h9 h10 h11 h12 h13
 obtain⟨ga,gb,gc⟩:=g
 unfold gV at hlo ⊢
 unfold pt at hlo ⊢
 obtain⟨W0,hW0⟩:∃W,w.alloc (.cells #[.int .i64 ga,.int .i64 gb,.int .i64 gc] 27)=W:=⟨_,rfl⟩
 have hk:=q34z hW0
 have HB0:=Lib.hid hk.1
 have HK:=Lib.hid hk.2
 clear hk
 have hsz:W0.heap.size=w.heap.size+1:=by rw[←hW0]; simp
 obtain⟨W1,hW1⟩:∃W,W0.alloc (.cells q174z 56)=W:=⟨_,rfl⟩
 have hsz1:W1.heap.size=w.heap.size+2:=by rw[←hW1]; simp[hsz]
 obtain⟨W2,hW2⟩:∃W,W1.alloc (.cells #[.int .i64 0] 29)=W:=⟨_,rfl⟩
 have HB2:Hid (Below W0.heap.size W0 W2):=by rw[←hW2,←hW1]; exact bl1 (bl2 _) _
 have HZ1:Hid (W2.heap[w.heap.size+1]? = some (.cells q174z 56 (0,0))):=by
  rw[←hW2,←hW1,←hsz]
  exact q1z (bl2 _) (q2z W0 _)
 have HZ2:Hid (W2.heap[w.heap.size+2]? = some (.cells #[.int .i64 0] 29 (0,0))):=by rw[←hW2,←hsz1]; exact q2z W1 _
 unfold q174z at hW1
 have HLO:=Lib.hid (hlo W2 (blN HB0.out HB2.out))
 clear hlo
 obtain⟨z0,z1,z2⟩:=HK.out W2 HB2.out
 go_enter_defers Tryz.func30,Tryz.ntmps30
 go_wp2_with fail
 clear z0 z1 z2
 refine HLO.out.mono ?_
 rintro e w3 ⟨rfl,hb3⟩
 have hz1:=q1z hb3 HZ1.out
 have hz2:=q1z hb3 HZ2.out
 obtain⟨y0,y1⟩:=ino_cells hz1
 have HB3:=Lib.hid (blN HB0.out (blN HB2.out hb3))
 clear hb3
 have HZf:=Lib.hid (q38z hz1 (vs:=[.int .i64 x0,.int .i64 x1,.int .i64 x2,.int .i64 x3,.int .i64 x4,.int .i64 d0,.int .i64 d1,.int .i64 d2,.int .i64 d3,.int .i64 d4,.int .i64 d5,.int .i64 d6,.int .i64 d7,.int .i64 x6]) rfl)
 have HBf:=Lib.hid (sets14 (v0:=.int .i64 x0) (v1:=.int .i64 x1) (v2:=.int .i64 x2) (v3:=.int .i64 x3) (v4:=.int .i64 x4) (v5:=.int .i64 d0) (v6:=.int .i64 d1) (v7:=.int .i64 d2) (v8:=.int .i64 d3) (v9:=.int .i64 d4) (v10:=.int .i64 d5) (v11:=.int .i64 d6) (v12:=.int .i64 d7) (v13:=.int .i64 x6) (b:=w.heap.size+1) (Nat.le_succ _) HB3.out)
 have HCf:Hid ((((((((((((((((w3.setCell ⟨w.heap.size+1,0,none⟩ (.int .i64 x0)).setCell ⟨w.heap.size+1,1,none⟩ (.int .i64 x1)).setCell ⟨w.heap.size+1,2,none⟩ (.int .i64 x2)).setCell ⟨w.heap.size+1,3,none⟩ (.int .i64 x3)).setCell ⟨w.heap.size+1,4,none⟩ (.int .i64 x4)).setCell ⟨w.heap.size+1,5,none⟩ (.int .i64 d0)).setCell ⟨w.heap.size+1,6,none⟩ (.int .i64 d1)).setCell ⟨w.heap.size+1,7,none⟩ (.int .i64 d2)).setCell ⟨w.heap.size+1,8,none⟩ (.int .i64 d3)).setCell ⟨w.heap.size+1,9,none⟩ (.int .i64 d4)).setCell ⟨w.heap.size+1,10,none⟩ (.int .i64 d5)).setCell ⟨w.heap.size+1,11,none⟩ (.int .i64 d6)).setCell ⟨w.heap.size+1,12,none⟩ (.int .i64 d7)).setCell ⟨w.heap.size+1,13,none⟩ (.int .i64 x6))).heap[w.heap.size+2]? = some (.cells #[.int .i64 0] 29 (0,0))):=(sets_other (by omega) [.int .i64 x0,.int .i64 x1,.int .i64 x2,.int .i64 x3,.int .i64 x4,.int .i64 d0,.int .i64 d1,.int .i64 d2,.int .i64 d3,.int .i64 d4,.int .i64 d5,.int .i64 d6,.int .i64 d7,.int .i64 x6] 0 w3).trans hz2
 clear hz1 hz2
 go_upto_region 3 with fail
 obtain⟨W4,hW4⟩:∃W,((((((((((((((w3.setCell ⟨w.heap.size+1,0,none⟩ (.int .i64 x0)).setCell ⟨w.heap.size+1,1,none⟩ (.int .i64 x1)).setCell ⟨w.heap.size+1,2,none⟩ (.int .i64 x2)).setCell ⟨w.heap.size+1,3,none⟩ (.int .i64 x3)).setCell ⟨w.heap.size+1,4,none⟩ (.int .i64 x4)).setCell ⟨w.heap.size+1,5,none⟩ (.int .i64 d0)).setCell ⟨w.heap.size+1,6,none⟩ (.int .i64 d1)).setCell ⟨w.heap.size+1,7,none⟩ (.int .i64 d2)).setCell ⟨w.heap.size+1,8,none⟩ (.int .i64 d3)).setCell ⟨w.heap.size+1,9,none⟩ (.int .i64 d4)).setCell ⟨w.heap.size+1,10,none⟩ (.int .i64 d5)).setCell ⟨w.heap.size+1,11,none⟩ (.int .i64 d6)).setCell ⟨w.heap.size+1,12,none⟩ (.int .i64 d7)).setCell ⟨w.heap.size+1,13,none⟩ (.int .i64 x6))=W:=⟨_,rfl⟩
 have hz4:W4.heap[w.heap.size+1]? = some (.cells #[.int .i64 x0,.int .i64 x1,.int .i64 x2,.int .i64 x3,.int .i64 x4,.int .i64 d0,.int .i64 d1,.int .i64 d2,.int .i64 d3,.int .i64 d4,.int .i64 d5,.int .i64 d6,.int .i64 d7,.int .i64 x6] 56 (0,0)):=by rw[←hW4]; exact HZf.out
 have hb4:Below w.heap.size w W4:=by rw[←hW4]; exact HBf.out
 have hc4:=HCf.out
 rw[hW4] at hc4 ⊢
 clear HZf HBf HCf y0 y1 hW4 HB3
 obtain⟨u0,u1⟩:=q45z hz4
 have c4:=cellOf (k:=0) hc4 rfl
 have v4:W4.frozen? ⟨w.heap.size+2,0,none⟩=false:=q3z hc4
 have HZg:=Lib.hid (q38z hz4 (vs:=[.int .i64 x0,.int .i64 x1,.int .i64 x2,.int .i64 x3,.int .i64 x4,.int .i64 d0,.int .i64 d1,.int .i64 d2,.int .i64 d3,.int .i64 d4,.int .i64 d5,.int .i64 d6,.int .i64 d7,.int .i64 x6]) rfl)
 have HCg:Hid ((((((((((((((((W4.setCell ⟨w.heap.size+1,0,none⟩ (.int .i64 x0)).setCell ⟨w.heap.size+1,1,none⟩ (.int .i64 x1)).setCell ⟨w.heap.size+1,2,none⟩ (.int .i64 x2)).setCell ⟨w.heap.size+1,3,none⟩ (.int .i64 x3)).setCell ⟨w.heap.size+1,4,none⟩ (.int .i64 x4)).setCell ⟨w.heap.size+1,5,none⟩ (.int .i64 d0)).setCell ⟨w.heap.size+1,6,none⟩ (.int .i64 d1)).setCell ⟨w.heap.size+1,7,none⟩ (.int .i64 d2)).setCell ⟨w.heap.size+1,8,none⟩ (.int .i64 d3)).setCell ⟨w.heap.size+1,9,none⟩ (.int .i64 d4)).setCell ⟨w.heap.size+1,10,none⟩ (.int .i64 d5)).setCell ⟨w.heap.size+1,11,none⟩ (.int .i64 d6)).setCell ⟨w.heap.size+1,12,none⟩ (.int .i64 d7)).setCell ⟨w.heap.size+1,13,none⟩ (.int .i64 x6))).heap[w.heap.size+2]? = some (.cells #[.int .i64 0] 29 (0,0))):=(sets_other (by omega) [.int .i64 x0,.int .i64 x1,.int .i64 x2,.int .i64 x3,.int .i64 x4,.int .i64 d0,.int .i64 d1,.int .i64 d2,.int .i64 d3,.int .i64 d4,.int .i64 d5,.int .i64 d6,.int .i64 d7,.int .i64 x6] 0 W4).trans hc4
 have HBg:=Lib.hid (sets14 (v0:=.int .i64 x0) (v1:=.int .i64 x1) (v2:=.int .i64 x2) (v3:=.int .i64 x3) (v4:=.int .i64 x4) (v5:=.int .i64 d0) (v6:=.int .i64 d1) (v7:=.int .i64 d2) (v8:=.int .i64 d3) (v9:=.int .i64 d4) (v10:=.int .i64 d5) (v11:=.int .i64 d6) (v12:=.int .i64 d7) (v13:=.int .i64 x6) (b:=w.heap.size+1) (Nat.le_succ _) hb4)
 go_wp2
 refine leaves_cons (f:=94) (args:=#[.pointer (some ⟨w.heap.size+2,0,none⟩)]) (by simp) (by simp[go_sem]) ?_
 refine(caught_idle ⟨w.heap.size+2,0,none⟩ _).mono ?_
 rintro e u' w'' ⟨rfl,rfl,rfl⟩
 obtain⟨W5,hW5⟩:∃W,((((((((((((((W4.setCell ⟨w.heap.size+1,0,none⟩ (.int .i64 x0)).setCell ⟨w.heap.size+1,1,none⟩ (.int .i64 x1)).setCell ⟨w.heap.size+1,2,none⟩ (.int .i64 x2)).setCell ⟨w.heap.size+1,3,none⟩ (.int .i64 x3)).setCell ⟨w.heap.size+1,4,none⟩ (.int .i64 x4)).setCell ⟨w.heap.size+1,5,none⟩ (.int .i64 d0)).setCell ⟨w.heap.size+1,6,none⟩ (.int .i64 d1)).setCell ⟨w.heap.size+1,7,none⟩ (.int .i64 d2)).setCell ⟨w.heap.size+1,8,none⟩ (.int .i64 d3)).setCell ⟨w.heap.size+1,9,none⟩ (.int .i64 d4)).setCell ⟨w.heap.size+1,10,none⟩ (.int .i64 d5)).setCell ⟨w.heap.size+1,11,none⟩ (.int .i64 d6)).setCell ⟨w.heap.size+1,12,none⟩ (.int .i64 d7)).setCell ⟨w.heap.size+1,13,none⟩ (.int .i64 x6))=W:=⟨_,rfl⟩
 have hz5:=HZg.out
 have hc5:=HCg.out
 have hb5:=HBg.out
 change (World.heap ((((((((((((((W4.setCell ⟨w.heap.size+1,0,none⟩ (.int .i64 x0)).setCell ⟨w.heap.size+1,1,none⟩ (.int .i64 x1)).setCell ⟨w.heap.size+1,2,none⟩ (.int .i64 x2)).setCell ⟨w.heap.size+1,3,none⟩ (.int .i64 x3)).setCell ⟨w.heap.size+1,4,none⟩ (.int .i64 x4)).setCell ⟨w.heap.size+1,5,none⟩ (.int .i64 d0)).setCell ⟨w.heap.size+1,6,none⟩ (.int .i64 d1)).setCell ⟨w.heap.size+1,7,none⟩ (.int .i64 d2)).setCell ⟨w.heap.size+1,8,none⟩ (.int .i64 d3)).setCell ⟨w.heap.size+1,9,none⟩ (.int .i64 d4)).setCell ⟨w.heap.size+1,10,none⟩ (.int .i64 d5)).setCell ⟨w.heap.size+1,11,none⟩ (.int .i64 d6)).setCell ⟨w.heap.size+1,12,none⟩ (.int .i64 d7)).setCell ⟨w.heap.size+1,13,none⟩ (.int .i64 x6)))[w.heap.size+1]? = _ at hz5
 rw[hW5] at hz5 hc5 hb5 ⊢
 have hc6:=q8z (k:=0) hc5 (.int .i64 0)
 have hz6:=(q10z (w:=W5) (b:=w.heap.size+2) (k:=0) (v:=.int .i64 0)).heap hz5 (by omega)
 have hb6:=hb5.setCell (p:=⟨w.heap.size+2,0,none⟩) (by show w.heap.size≤w.heap.size+2; omega) (.int .i64 0)
 obtain⟨W6,hW6⟩:∃W,W5.setCell ⟨w.heap.size+2,0,none⟩ (.int .i64 0)=W:=⟨_,rfl⟩
 rw[hW6] at hc6 hz6 hb6 ⊢
 clear u0 u1 c4 v4 hz5 hc5 hb5
 obtain⟨t0,-⟩:=q45z hz6
 have t1:=cellOf (k:=0) hc6 rfl
 simp[Leaves,settle,results,Tryz.results30,go_sem,t0,t1]
 exact hb6
theorem bBlocks_any {w:World} {base B Bd:Nat} {S:Sp.Side} {D:Nat→Prop} (h:SideAt w base B Bd S D) {g:Sp.Geom} {i:Int} {F:File} (hs:Stands S g i F) :
 Calls Tryz.prog 31 #[pt B,gV g,.agg (nA F.node)] w fun e w'=>∃v,e = .returned (.tuple #[v,.int .i64 0])∧OwnR 3 1 intC w.heap.size w' v F.blocks∧Below w.heap.size w w':=by
 have hbl:=fun(W:World) (hW:Below w.heap.size w W)=>bblocks_any (h.below hW) hs
 obtain⟨n,hn⟩:∃n,F.node=n:=⟨_,rfl⟩
 rw[hn] at hbl ⊢
 obtain⟨BL,hBL⟩:∃BL,F.blocks=BL:=⟨_,rfl⟩
 rw[hBL] at hbl ⊢
 clear h hs hn hBL
 unfold nA iA at hbl ⊢
 obtain⟨x0,h0⟩:∃x,n.kind=x:=⟨_,rfl⟩
 obtain⟨x1,h1⟩:∃x,n.links=x:=⟨_,rfl⟩
 obtain⟨x2,h2⟩:∃x,n.size=x:=⟨_,rfl⟩
 obtain⟨x3,h3⟩:∃x,n.parent=x:=⟨_,rfl⟩
 obtain⟨x4,h4⟩:∃x,n.gen=x:=⟨_,rfl⟩
 obtain⟨d0,h5⟩:∃x,n.direct.getD 0 0=x:=⟨_,rfl⟩
 obtain⟨d1,h6⟩:∃x,n.direct.getD 1 0=x:=⟨_,rfl⟩
 obtain⟨d2,h7⟩:∃x,n.direct.getD 2 0=x:=⟨_,rfl⟩
 obtain⟨d3,h8⟩:∃x,n.direct.getD 3 0=x:=⟨_,rfl⟩
 obtain⟨d4,h9⟩:∃x,n.direct.getD 4 0=x:=⟨_,rfl⟩
 obtain⟨d5,h10⟩:∃x,n.direct.getD 5 0=x:=⟨_,rfl⟩
 obtain⟨d6,h11⟩:∃x,n.direct.getD 6 0=x:=⟨_,rfl⟩
 obtain⟨d7,h12⟩:∃x,n.direct.getD 7 0=x:=⟨_,rfl⟩
 obtain⟨x6,h13⟩:∃x,n.more=x:=⟨_,rfl⟩
 rw[h0,h1,h2,h3,h4,h5,h6,h7,h8,h9,h10,h11,h12,h13] at hbl ⊢
 clear h0 h1 h2 h3 h4 h5 h6 h7 h8 h9 h10 h11 h12 h13
 obtain⟨ga,gb,gc⟩:=g
 unfold gV at hbl ⊢
 unfold pt at hbl ⊢
 obtain⟨W0,hW0⟩:∃W,w.alloc (.cells #[.int .i64 ga,.int .i64 gb,.int .i64 gc] 27)=W:=⟨_,rfl⟩
 have hk:=q34z hW0
 have HB0:=Lib.hid hk.1
 have HK:=Lib.hid hk.2
 clear hk
 have hsz:W0.heap.size=w.heap.size+1:=by rw[←hW0]; simp
 obtain⟨W1,hW1⟩:∃W,W0.alloc (.cells #[.int .i64 x0,.int .i64 x1,.int .i64 x2,.int .i64 x3,.int .i64 x4,.int .i64 d0,.int .i64 d1,.int .i64 d2,.int .i64 d3,.int .i64 d4,.int .i64 d5,.int .i64 d6,.int .i64 d7,.int .i64 x6] 56)=W:=⟨_,rfl⟩
 have hsz1:W1.heap.size=w.heap.size+2:=by rw[←hW1]; simp[hsz]
 obtain⟨W2,hW2⟩:∃W,W1.alloc (.cells #[.int .i64 0] 29)=W:=⟨_,rfl⟩
 have HB2:Hid (Below W0.heap.size W0 W2):=by rw[←hW2,←hW1]; exact bl1 (bl2 _) _
 have HZ1:Hid (W2.heap[w.heap.size+1]? = some (.cells #[.int .i64 x0,.int .i64 x1,.int .i64 x2,.int .i64 x3,.int .i64 x4,.int .i64 d0,.int .i64 d1,.int .i64 d2,.int .i64 d3,.int .i64 d4,.int .i64 d5,.int .i64 d6,.int .i64 d7,.int .i64 x6] 56 (0,0))):=by
  rw[←hW2,←hW1,←hsz]
  exact q1z (bl2 _) (q2z W0 _)
 have HZ2:Hid (W2.heap[w.heap.size+2]? = some (.cells #[.int .i64 0] 29 (0,0))):=by rw[←hW2,←hsz1]; exact q2z W1 _
 have HBL:=Lib.hid (hbl W2 (blN HB0.out HB2.out))
 clear hbl
 obtain⟨z0,z1,z2⟩:=HK.out W2 HB2.out
 obtain⟨y0,-⟩:=q45z HZ1.out
 go_enter_defers Tryz.func31,Tryz.ntmps31
 go_wp2_with fail
 clear z0 z1 z2 y0
 refine HBL.out.mono ?_
 rintro e w3 ⟨v,rfl,ho3,hb3⟩
 have hz2:=q1z hb3 HZ2.out
 have hbw:=blN HB0.out HB2.out
 have hB3:Below w.heap.size w (w3.setCell ⟨w.heap.size+2,0,none⟩ (.int .i64 0)):=(blN hbw hb3).setCell (p:=⟨w.heap.size+2,0,none⟩) (by show w.heap.size≤w.heap.size+2; omega) _
 have ho4:OwnR 3 1 intC w.heap.size (w3.setCell ⟨w.heap.size+2,0,none⟩ (.int .i64 0)) v BL:=(ho3.turn (q10z (b:=w.heap.size+2) (k:=0)) (fun k hk e=>by
  have h1:=(ho3.lt k hk).1
  have h2:=(Array.getElem?_eq_some_iff.1 HZ2.out).1
  omega)).mono hbw.size
 have hz4:=q8z (k:=0) hz2 (.int .i64 0)
 have HB4:=Lib.hid hB3
 have HO4:=Lib.hid ho4
 have HZ4:=Lib.hid hz4
 have c4:=cellOf (k:=0) hz2 rfl
 have v4:w3.frozen? ⟨w.heap.size+2,0,none⟩=false:=q3z hz2
 clear ho3 hb3 hz2 hbw hB3 ho4 hz4
 go_wp2
 refine leaves_cons (f:=94) (args:=#[.pointer (some ⟨w.heap.size+2,0,none⟩)]) (by simp) (by simp[go_sem]) ?_
 refine(caught_idle ⟨w.heap.size+2,0,none⟩ _).mono ?_
 rintro e u' w'' ⟨rfl,rfl,rfl⟩
 have hb6:=HB4.out
 have ho6:=HO4.out
 have hz6:=HZ4.out
 clear HB4 HO4 HZ4 c4 v4
 generalize w3.setCell ⟨w.heap.size+2,0,none⟩ (.int .i64 0)=W6 at hb6 ho6 hz6 ⊢
 have t1:=cellOf (k:=0) hz6 rfl
 simp[Leaves,settle,results,Tryz.results31,go_sem,t1]
 exact⟨ho6,hb6⟩
end
/-- All blocks below R, but b, are as they were. -/
structure Kept (R b:Nat) (w w':World):Prop where
 os:w'.os=w.os
 tape:w'.tape=w.tape
 output:w'.output=w.output
 size:w.heap.size≤w'.heap.size
 block:∀k,k<R→k≠b→w'.heap[k]? = w.heap[k]?
section
end
section
end
theorem block_ok {g:Sp.Geom} (hg:g.ok) {k p:Int} (hk:0≤k∧k<g.groups) (hp:0≤p∧p<g.blocks):q23z g (q22z g k p):=by
 obtain⟨h0,h1,h2⟩:=q93z hg hk hp
 refine Or.inr ?_
 unfold Sp.Geom.what
 have hw:g.within (q22z g k p) g.size=0:=by
  unfold Sp.Geom.within
  rw[if_pos hg,if_neg (by omega)]
 rw[if_pos hw,h2]
 exact⟨rfl,rfl⟩
def slotC (s:ByteArray):List Value:=[.int .i64 (q4z s 0).inode,.string (q4z s 0).name,.int .i64 (q4z s 1).inode,.string (q4z s 1).name,.int .i64 (q4z s 2).inode,.string (q4z s 2).name,.int .i64 (q4z s 3).inode,.string (q4z s 3).name]
def dirV (n:Sp.Inode) (vs us:Value):Array Value:=#[.int .i64 n.kind,.int .i64 n.links,.int .i64 n.size,.int .i64 n.parent,.int .i64 n.gen,.int .i64 (n.direct.getD 0 0),.int .i64 (n.direct.getD 1 0),.int .i64 (n.direct.getD 2 0),.int .i64 (n.direct.getD 3 0),.int .i64 (n.direct.getD 4 0),.int .i64 (n.direct.getD 5 0),.int .i64 (n.direct.getD 6 0),.int .i64 (n.direct.getD 7 0),.int .i64 n.more,vs,us]
def dirO (n:Sp.Inode) (vs us:Value):Obj:=.cells (dirV n vs us) 281 (0,0)
def DirAt (w:World) (base B:Nat) (n:Sp.Inode) (V:Int→ByteArray) (bl:List Int):Prop:=
 base≤B∧∃vs us,w.heap[B]? = some (dirO n vs us)∧OwnR 3 1 intC base w vs bl∧OwnR 282 8 slotC base w us (bl.map V)
def DirTo (w0 w:World) (B:Nat) (n:Sp.Inode) (V:Int→ByteArray) (bl:List Int):Prop:=
 Below B w0 w∧∃vs us,w.heap[B]? = some (dirO n vs us)∧OwnR 3 1 intC (B+1) w vs bl∧OwnR 282 8 slotC (B+1) w us (bl.map V)
theorem infoE4:(Tryz.prog.info? 282).map (fun i=>(i.zero,i.size,i.bytes))=some (some (.agg #[.int .i64 0,.string ⟨#[]⟩,.int .i64 0,.string ⟨#[]⟩,.int .i64 0,.string ⟨#[]⟩,.int .i64 0,.string ⟨#[]⟩]),8,96):=by kernel_rfl
section
variable {w w0 w1 w':World} {base B:Nat} {n:Sp.Inode} {V:Int→ByteArray} {bl:List Int}
theorem DirAt.below (h:DirAt w base B n V bl) (hb:Below w.heap.size w w'):DirAt w' base B n V bl:=by
 obtain⟨h0,vs,us,h1,h2,h3⟩:=h
 exact⟨h0,vs,us,q1z hb h1,h2.below hb,h3.below hb⟩
theorem DirTo.below (h:DirTo w0 w B n V bl) (hb:Below w.heap.size w w'):DirTo w0 w' B n V bl:=by
 obtain⟨h0,vs,us,h1,h2,h3⟩:=h
 have hlt:=(Array.getElem?_eq_some_iff.1 h1).1
 exact⟨h0.trans (hb.mono (by omega)),vs,us,q1z hb h1,h2.below hb,h3.below hb⟩
theorem DirTo.at (h:DirTo w0 w B n V bl) (hb:base≤B):DirAt w base B n V bl:=by
 obtain⟨_,vs,us,h1,h2,h3⟩:=h
 exact⟨hb,vs,us,h1,h2.mono (by omega),h3.mono (by omega)⟩
/-- While a sector is laid behind the others: what stands in the world so far. -/
structure RegW (w0 W:World) (B X:Nat) (n:Sp.Inode) (vs us:Value) (V:Int→ByteArray) (bl:List Int) (cs:Array Value):Prop where
 below:Below B w0 W
 box:W.heap[B]? = some (dirO n vs us)
 slots:OwnR 282 8 slotC (B+1) W us (bl.map V)
 ex:W.heap[X]? = some (.cells cs 282 (0,0))
 apart:us.ownBlock≠some X
section
variable {W W':World} {X:Nat} {vs us v:Value} {cs:Array Value} {l:List Int}
theorem RegW.later (h:RegW w0 W B X n vs us V bl cs) (hb:Below W.heap.size W W'):RegW w0 W' B X n vs us V bl cs:=
 ⟨h.below.trans (hb.mono (by have:=(Array.getElem?_eq_some_iff.1 h.box).1; omega)),q1z hb h.box,h.slots.below hb,q1z hb h.ex,h.apart⟩
theorem int_block {b k:Nat} (h:OwnR 3 1 intC b W v l) (hk:v.ownBlock=some k):∃cs,W.heap[k]? = some (.cells cs 3 (0,0)):=by
 obtain⟨_,⟨rfl,_⟩ | ⟨g,cap,cur,rfl,_,hh,_⟩⟩:=h
 ·cases hk
 ·cases hk
  exact⟨_,hh⟩
theorem e4_block {b k:Nat} {ss:List ByteArray} (h:OwnR 282 8 slotC b W v ss) (hk:v.ownBlock=some k):∃cs,W.heap[k]? = some (.cells cs 282 (0,0)):=by
 obtain⟨_,⟨rfl,_⟩ | ⟨g,cap,cur,rfl,_,hh,_⟩⟩:=h
 ·cases hk
 ·cases hk
  exact⟨_,hh⟩
theorem RegW.grownI (h:RegW w0 W B X n vs us V bl cs) (hv:OwnR 3 1 intC (B+1) W v l) (hg:W.grownBy W' v.ownBlock):RegW w0 W' B X n vs us V bl cs:=by
 have hT:Turn (fun j=>v.ownBlock=some j) W W':=⟨hg.os,hg.tape,hg.output,hg.size,fun k hk hne=>hg.block k hk (fun e=>hne e.symm)⟩
 have hne:∀(k:Nat) (cs:Array Value) (e:TypeId),e≠3→W.heap[k]? = some (.cells cs e (0,0))→¬v.ownBlock=some k:=fun k cs e he hk ho=>by
  obtain⟨cs',hc⟩:=int_block hv ho
  rw[hk] at hc
  cases hc
  exact he rfl
 refine⟨h.below.grown hg (by have:=(Array.getElem?_eq_some_iff.1 h.box).1; omega) (fun k hk=>by have:=(hv.lt k hk).1; omega),hT.heap h.box (hne B _ _ (by decide) h.box),h.slots.turn hT (fun k hk ho=>?_),hT.heap h.ex (hne X _ _ (by decide) h.ex),h.apart⟩
 obtain⟨cs',hc⟩:=e4_block h.slots hk
 exact hne k _ _ (by decide) hc ho
theorem rowI_stays (hv:OwnR 3 1 intC (B+1) W v l) {ss:List ByteArray} (hu:OwnR 282 8 slotC (B+1) W us ss) (hg:W.grownBy W' us.ownBlock):OwnR 3 1 intC (B+1) W' v l:=by
 have hT:Turn (fun j=>us.ownBlock=some j) W W':=⟨hg.os,hg.tape,hg.output,hg.size,fun k hk hne=>hg.block k hk (fun e=>hne e.symm)⟩
 refine hv.turn hT (fun k hk ho=>?_)
 obtain⟨cs1,h1⟩:=int_block hv hk
 obtain⟨cs2,h2⟩:=e4_block hu ho
 rw[h1] at h2
 cases h2
theorem RegW.grownE (h:RegW w0 W B X n vs us V bl cs) (hg:W.grownBy W' us.ownBlock):Below B w0 W'∧W'.heap[B]? = some (dirO n vs us)∧W'.heap[X]? = some (.cells cs 282 (0,0)):=by
 refine⟨h.below.grown hg (by have:=(Array.getElem?_eq_some_iff.1 h.box).1; omega) (fun k hk=>by have:=(h.slots.lt k hk).1; omega),?_⟩
 have hT:Turn (fun j=>us.ownBlock=some j) W W':=⟨hg.os,hg.tape,hg.output,hg.size,fun k hk hne=>hg.block k hk (fun e=>hne e.symm)⟩
 refine⟨hT.heap h.box (fun ho=>?_),hT.heap h.ex h.apart⟩
 obtain⟨cs',hc⟩:=e4_block h.slots ho
 rw[h.box] at hc
 cases hc
theorem heapGI {k:Nat} {cs:Array Value} {e:TypeId} (hv:OwnR 3 1 intC (B+1) W v l) (hg:W.grownBy W' v.ownBlock) (hk:W.heap[k]? = some (.cells cs e (0,0))) (he:e≠3):W'.heap[k]? = some (.cells cs e (0,0)):=by
 refine(hg.block k (Array.getElem?_eq_some_iff.1 hk).1 (fun ho=>?_)).trans hk
 obtain⟨cs',hc⟩:=int_block hv ho.symm
 rw[hk] at hc
 cases hc
 exact he rfl
theorem DirTo.stored {v' u':Value} (hb:Below B w0 W) (hz:W.heap[B]? = some (dirO n vs us)) (hv:OwnR 3 1 intC (B+1) W v' l) (hu:OwnR 282 8 slotC (B+1) W u' (l.map V)) :
 DirTo w0 ((W.setCell ⟨B,14,none⟩ v').setCell ⟨B,15,none⟩ u') B n V l:=by
 have hT:Turn (fun j=>j=B) W ((W.setCell ⟨B,14,none⟩ v').setCell ⟨B,15,none⟩ u'):=(q10z (w:=W) (b:=B)).trans q10z (fun _ _ h=>h) (fun _ _ h=>h)
 refine⟨(hb.setCell (p:=⟨B,14,none⟩) (Nat.le_refl _) _).setCell (p:=⟨B,15,none⟩) (Nat.le_refl _) _,v',u',?_,hv.turn hT (fun k hk e=>by have:=(hv.lt k hk).1; omega),hu.turn hT (fun k hk e=>by have:=(hu.lt k hk).1; omega)⟩
 have h1:=q8z (k:=14) hz v'
 have h2:=q8z (k:=15) h1 u'
 exact h2
end
end
def q95z (w:World) (base B Bd:Nat) (S:Sp.Side) (D:Nat→Prop) (i:Int) (k:Nat) (x:Sp.Entry) (ahead:List Int) (e:Ending) (w':World):Prop:=
 e = .returned (.tuple #[.int .i64 (S.changeN i ((k:Int)*16) (ofL (slotL x)) ahead),.int .i64 (S.changeC i ((k:Int)*16) (ofL (slotL x)) ahead)])∧q15z w base B Bd (S.change i ((k:Int)*16) (ofL (slotL x)) ahead) D w'
section
theorem dput_any {w:World} {base B Bd:Nat} {S:Sp.Side} {D:Nat→Prop} (h:SideAt w base B Bd S D) (hS:S.Ok) (hlast:S.deps.last<1000000000) (hm:MaxOk w) (i:Int) (k:Nat) (hk:k<4) (x:Sp.Entry) (hx:x.may) (v:Value) (ahead:List Int) (hv:Ints w v ahead) (hal:ahead.length≤100000) :
 Calls Tryz.prog 108 #[pt B,.int .i64 i,.int .i64 (k:Int),eV x,v] w (q95z w base B Bd S D i k x ahead):=by
 have hpu:=fun(W:World) (hW:Below w.heap.size w W)=>eput_any W (k:Int) x (hm.below hW) (by have:=(may_bd hx).2.2; unfold maxLen; omega)
 unfold EPut at hpu
 simp only[if_neg (show ¬((k:Int)<0∨4≤(k:Int)) by omega),if_pos hx] at hpu
 have hc:=fun(W:World) (hW:Below w.heap.size w W)=>softChange_any (h.below hW) hS hlast i ((k:Int)*16) (ofL (slotL x)) v ahead (hv.below hW) hal
 have hfin:∀(W:World) (e:Ending) (w':World),Below w.heap.size w W→q67z W base B Bd S D i ((k:Int)*16) (ofL (slotL x)) ahead e w'→q95z w base B Bd S D i k x ahead e w':=fun W e w' hb hA=>⟨hA.1,hA.to.2.ahead hb⟩
 obtain⟨tx,htx⟩:∃t,ofL (slotL x)=t:=⟨_,rfl⟩
 obtain⟨o,ho⟩:∃o:Int,(k:Int)*16=o:=⟨_,rfl⟩
 obtain⟨kk,hkk⟩:∃o:Int,(k:Int)=o:=⟨_,rfl⟩
 obtain⟨Q,hQ⟩:∃Q,q95z w base B Bd S D i k x ahead=Q:=⟨_,rfl⟩
 rw[hQ] at hfin ⊢
 rw[htx,ho] at hpu hc hfin
 rw[hkk] at hpu ⊢
 obtain⟨xi,xn⟩:=x
 unfold pt eV at *
 dsimp only at hpu ⊢
 obtain⟨W0,hW0⟩:∃W,w.alloc (.cells #[.int .i64 xi,.string xn] 69)=W:=⟨_,rfl⟩
 have HB0:Hid (Below w.heap.size w W0):=by rw[←hW0]; exact bl2 _
 have HC0:Hid (W0.heap[w.heap.size]? = some (.cells #[.int .i64 xi,.string xn] 69 (0,0))):=by rw[←hW0]; exact q2z w _
 have y0:=cellOf (k:=0) HC0.out rfl
 have y1:=cellOf (k:=1) HC0.out rfl
 have HPU:=Lib.hid hpu
 have HC:=Lib.hid hc
 have HFIN:=Lib.hid hfin
 clear hpu hc hfin
 clear hQ hx h hS hlast hv hal hm htx ho hkk hk
 go_enter Tryz.func108,Tryz.ntmps108
 go_wp2_with fail
 clear y0 y1 hW0
 refine(HPU.out _ HB0.out).mono ?_
 rintro e w1 ⟨rfl,hb1⟩
 have HB1:=Lib.hid (blN HB0.out hb1)
 clear hb1
 obtain⟨W2,hW2⟩:∃W,w1.alloc (.cells #[.int .i64 o,.string tx] 163)=W:=⟨_,rfl⟩
 have HB2:Hid (Below w.heap.size w W2):=by rw[←hW2]; exact bl1 HB1.out _
 have HP2:Hid (W2.heap[w1.heap.size]? = some (.cells #[.int .i64 o,.string tx] 163 (0,0))):=by rw[←hW2]; exact q2z w1 _
 have x0:=cellOf (k:=0) HP2.out rfl
 have x1:=cellOf (k:=1) HP2.out rfl
 go_wp2_with fail
 clear x0 x1 hW2
 refine(HC.out _ HB2.out).mono ?_
 rintro e w3 hA
 have HF:=Lib.hid (HFIN.out _ _ _ HB2.out hA)
 obtain⟨he,-⟩:=hA
 subst he
 go_wp2
 first | exact HF.out | (go_ret2; exact HF.out)
end
end Go.Proofs.YtaphcmcimoloiaaGreatDoor
