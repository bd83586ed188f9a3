/-
 Walks of layer 17: open.
-/
import Derived.Test.YtaphcmcimoloiaaGreatDoorDirPut
namespace Go.Proofs.YtaphcmcimoloiaaGreatDoor
open Go Go.RowKit Txt Sp
def q112z (w:World) (F:File) (V:Int→ByteArray) (e:Ending) (w':World):Prop:=
 ∃B,e = .returned (.tuple #[.pointer (some ⟨B,0,none⟩),.int .i64 0])∧DirAt w' w.heap.size B F.node V (q19z F)∧Below w.heap.size w w'
theorem filter_step {l:List Int} {j:Nat} {b:Int} (h:l[j]? = some b):(l.take (j+1)).filter (fun b=>decide (b≠0))=if b=0 then(l.take j).filter (fun b=>decide (b≠0)) else(l.take j).filter (fun b=>decide (b≠0)) ++ [b]:=by
 rw[q30z h,List.filter_append]
 by_cases e:b=0 <;> simp[e]
section
set_option maxHeartbeats 2000000
set_option maxRecDepth 20000 in
theorem q154z {w:World} {base Bs Bd:Nat} {S:Sp.Side} {D:Nat→Prop} (h:SideAt w base Bs Bd S D) {g:Sp.Geom} {i:Int} {F:File} (hs:Stands S g i F) (hd:DirOk S.read F) (hb:∀b∈F.blocks,0≤b) (hh:∀b∈q19z F,S.disk.has b) (hm:MaxOk w) :
 Calls Tryz.prog 109 #[pt Bs,gV g,.int .i64 i] w (q112z w F S.read):=by
 have hlo:=fun(W:World) (hW:Below w.heap.size w W)=>bLoad_any (h.below hW) hs
 have hbl:=fun(W:World) (hW:Below w.heap.size w W)=>bBlocks_any (h.below hW) hs
 have hrd:=fun(W:World) (hW:Below w.heap.size w W) (b:Int) (hb:b∈q19z F)=>softRead_any (h.below hW) hs.ok b
 have hcd:∀b∈q19z F,S.readC b=0:=fun b hb=>by unfold Sp.Side.readC Sp.Disk.readC; rw[if_pos (hh b hb)]
 have hde:=fun(W:World) (hW:Below w.heap.size w W) (b:Int) (hb:b∈q19z F)=>edecode_any W (S.read b) (hm.below hW)
 have hsect:=hd.sect
 obtain⟨q,hq40,hq⟩:=hd.size
 have hbk:=dirBlks_at hq
 have hkind:=hd.kind
 have hlen:=hs.file.len
 obtain⟨n,hn⟩:∃n,F.node=n:=⟨_,rfl⟩
 have hnk:n.kind=2:=by rw[←hn]; exact hkind
 have hnz:n.size=((64*q:Nat):Int):=by rw[←hn]; exact hq
 rw[hn] at hlo hbl
 have hrun:∀b∈q19z F,∀(W:World),Below w.heap.size w W→Calls Tryz.prog 88 #[pt Bs,.int .i64 b] W fun e w'=>e = .returned (.tuple #[.string (S.read b),.int .i64 0])∧Below W.heap.size W w':=fun b hb W hW=>by
  have:=hrd W hW b hb
  rw[hcd b hb] at this
  exact this
 have hdec:∀b∈q19z F,∀(W:World),Below w.heap.size w W→Calls Tryz.prog 183 #[.string (S.read b)] W fun e w'=>e = .returned (.tuple #[.agg (slotC (S.read b)).toArray,.int .i64 0])∧Below W.heap.size W w':=fun b hb W hW=>by
  have:=hde W hW b hb
  unfold EDec at this
  simp only[if_pos (hsect b hb)] at this
  exact this
 unfold q112z
 rw[hn]
 obtain⟨bs,hbs⟩:∃bs,F.blocks=bs:=⟨_,rfl⟩
 obtain⟨V,hV⟩:∃V,S.read=V:=⟨_,rfl⟩
 rw[hbs] at hb hbl hbk hlen
 rw[hbk] at hrun hdec ⊢
 rw[hV] at hrun hdec ⊢
 unfold nA iA pt at hlo hbl
 unfold pt at hrun
 obtain⟨x0,h0⟩:∃x,n.kind=x:=⟨_,rfl⟩
 obtain⟨x1,h1⟩:∃x,n.links=x:=⟨_,rfl⟩
 obtain⟨x2,h2⟩:∃x,n.size=x:=⟨_,rfl⟩
 obtain⟨x3,h3⟩:∃x,n.parent=x:=⟨_,rfl⟩
 obtain⟨x4,h4⟩:∃x,n.gen=x:=⟨_,rfl⟩
 obtain⟨d0,h5⟩:∃x,n.direct.getD 0 0=x:=⟨_,rfl⟩
 obtain⟨d1,h6⟩:∃x,n.direct.getD 1 0=x:=⟨_,rfl⟩
 obtain⟨d2,h7⟩:∃x,n.direct.getD 2 0=x:=⟨_,rfl⟩
 obtain⟨d3,h8⟩:∃x,n.direct.getD 3 0=x:=⟨_,rfl⟩
 obtain⟨d4,h9⟩:∃x,n.direct.getD 4 0=x:=⟨_,rfl⟩
 obtain⟨d5,h10⟩:∃x,n.direct.getD 5 0=x:=⟨_,rfl⟩
 obtain⟨d6,h11⟩:∃x,n.direct.getD 6 0=x:=⟨_,rfl⟩
 obtain⟨d7,h12⟩:∃x,n.direct.getD 7 0=x:=⟨_,rfl⟩
 obtain⟨x6,h13⟩:∃x,n.more=x:=⟨_,rfl⟩
 have HDO:Hid (∀vs us,dirO n vs us = .cells #[.int .i64 x0,.int .i64 x1,.int .i64 x2,.int .i64 x3,.int .i64 x4,.int .i64 d0,.int .i64 d1,.int .i64 d2,.int .i64 d3,.int .i64 d4,.int .i64 d5,.int .i64 d6,.int .i64 d7,.int .i64 x6,vs,us] 281 (0,0)):=fun vs us=>by
  unfold dirO dirV
  rw[h0,h1,h2,h3,h4,h5,h6,h7,h8,h9,h10,h11,h12,h13]
 simp only[h0,h1,h2,h3,h4,h5,h6,h7,h8,h9,h10,h11,h12,h13] at hlo hbl
 have e0:x0=2:=h0.symm.trans hnk
 have e2:x2=((64*q:Nat):Int):=h2.symm.trans hnz
 subst e0
 have HX2:=Lib.hid e2
 have hdiv:x2.tdiv 64=(q:Int):=by rw[e2,Int.tdiv_eq_ediv_of_nonneg (by omega)]; omega
 have hdiv2:x2 / 64=(q:Int):=by omega
 clear e2
 obtain⟨ga,gb,gc⟩:=g
 unfold gV at *
 dsimp only at hlo hbl
 obtain⟨W0,hW0⟩:∃W,w.alloc (.cells #[.int .i64 ga,.int .i64 gb,.int .i64 gc] 27)=W:=⟨_,rfl⟩
 have hk:=q34z hW0
 have HB0:=Lib.hid hk.1
 have HK:=Lib.hid hk.2
 clear hk
 have HBs:=Lib.hid hb
 have HLen:=Lib.hid hlen
 have HLO:=Lib.hid hlo
 have HBL:=Lib.hid hbl
 have HRUN:=Lib.hid hrun
 have HDEC:=Lib.hid hdec
 clear hlo hbl hrun hdec
 clear h hs hd hh hm hrd hcd hde hsect hq hbk hkind hlen hn hnk hnz hbs hV hb h0 h1 h2 h3 h4 h5 h6 h7 h8 h9 h10 h11 h12 h13
 obtain⟨z0,z1,z2⟩:=HK.out W0 (Below.refl _ _)
 unfold pt
 go_enter Tryz.func109,Tryz.ntmps109
 go_wp2_with fail
 clear z0 z1 z2
 refine(HLO.out W0 HB0.out).mono ?_
 rintro e w1 ⟨rfl,hb1⟩
 obtain⟨W2,hW2⟩:∃W,w1.alloc (.cells #[.int .i64 2,.int .i64 x1,.int .i64 x2,.int .i64 x3,.int .i64 x4,.int .i64 d0,.int .i64 d1,.int .i64 d2,.int .i64 d3,.int .i64 d4,.int .i64 d5,.int .i64 d6,.int .i64 d7,.int .i64 x6] 56)=W:=⟨_,rfl⟩
 have HB02:Hid (Below W0.heap.size W0 W2):=blN hb1 (by rw[←hW2]; exact bl2 _)
 have HB2:=Lib.hid (blN HB0.out HB02.out)
 have HZ2:Hid (W2.heap[w1.heap.size]? = some (.cells #[.int .i64 2,.int .i64 x1,.int .i64 x2,.int .i64 x3,.int .i64 x4,.int .i64 d0,.int .i64 d1,.int .i64 d2,.int .i64 d3,.int .i64 d4,.int .i64 d5,.int .i64 d6,.int .i64 d7,.int .i64 x6] 56 (0,0))):=by rw[←hW2]; exact q2z w1 _
 clear hb1
 obtain⟨z0,z1,z2⟩:=HK.out W2 HB02.out
 have y0:=cellOf (k:=0) HZ2.out rfl
 have y1:=cellOf (k:=1) HZ2.out rfl
 have y2:=cellOf (k:=2) HZ2.out rfl
 have y3:=cellOf (k:=3) HZ2.out rfl
 have y4:=cellOf (k:=4) HZ2.out rfl
 have y5:=cellOf (k:=5) HZ2.out rfl
 have y6:=cellOf (k:=6) HZ2.out rfl
 have y7:=cellOf (k:=7) HZ2.out rfl
 have y8:=cellOf (k:=8) HZ2.out rfl
 have y9:=cellOf (k:=9) HZ2.out rfl
 have y10:=cellOf (k:=10) HZ2.out rfl
 have y11:=cellOf (k:=11) HZ2.out rfl
 have y12:=cellOf (k:=12) HZ2.out rfl
 have y13:=cellOf (k:=13) HZ2.out rfl
 go_wp2_with fail
 clear z0 z1 z2 y0 y1 y2 y3 y4 y5 y6 y7 y8 y9 y10 y11 y12 y13 hW2
 refine(HBL.out W2 HB2.out).mono ?_
 rintro e w3 ⟨v,rfl,ho3,hb3⟩
 have HB3:=Lib.hid (blN HB2.out hb3)
 have HZ3:=Lib.hid (q1z hb3 HZ2.out)
 have hrow:=OwnR.row (f:=intC) (size:=1) (fun _ _=>rfl) ho3
 obtain⟨ad,m,cap,rfl,HM,hm2,-⟩:=RowAt.facts hrow
 have hm40:m=40:=HM.out.trans HLen.out
 subst hm40
 have hcap:40≤cap∧cap≤9223372036854775807:=by
  obtain⟨_,cap',e',h1,h2,_⟩:=hrow
  injection e' with _ _ e3
  subst e3
  rw[List.length_map,HLen.out] at h1
  unfold maxLen at h2
  omega
 have HO3:=Lib.hid ho3
 have y0:=cellOf (k:=0) HZ3.out rfl
 have y1:=cellOf (k:=1) HZ3.out rfl
 have y2:=cellOf (k:=2) HZ3.out rfl
 have y3:=cellOf (k:=3) HZ3.out rfl
 have y4:=cellOf (k:=4) HZ3.out rfl
 have y5:=cellOf (k:=5) HZ3.out rfl
 have y6:=cellOf (k:=6) HZ3.out rfl
 have y7:=cellOf (k:=7) HZ3.out rfl
 have y8:=cellOf (k:=8) HZ3.out rfl
 have y9:=cellOf (k:=9) HZ3.out rfl
 have y10:=cellOf (k:=10) HZ3.out rfl
 have y11:=cellOf (k:=11) HZ3.out rfl
 have y12:=cellOf (k:=12) HZ3.out rfl
 have y13:=cellOf (k:=13) HZ3.out rfl
 clear hb3 ho3 hrow
 obtain⟨W4,hW4⟩:∃W,w3.alloc (.cells #[.int .i64 2,.int .i64 x1,.int .i64 x2,.int .i64 x3,.int .i64 x4,.int .i64 d0,.int .i64 d1,.int .i64 d2,.int .i64 d3,.int .i64 d4,.int .i64 d5,.int .i64 d6,.int .i64 d7,.int .i64 x6,.slice none 0 0,.slice none 0 0] 281)=W:=⟨_,rfl⟩
 have HB4:Hid (Below w3.heap.size w3 W4):=by rw[←hW4]; exact bl2 _
 have HRel0:Hid (DirTo w3 W4 w3.heap.size n V ((bs.take 0).filter (fun b=>decide (b≠0)))):=⟨HB4.out,.slice none 0 0,.slice none 0 0,by rw[←hW4,HDO.out]; exact q2z w3 _,OwnR.void _ _,OwnR.void _ _⟩
 have HZ4:=Lib.hid (q1z HB4.out HZ3.out)
 have y2b:=cellOf (k:=2) HZ4.out rfl
 go_wp2_with fail
 clear y0 y1 y2 y3 y4 y5 y6 y7 y8 y9 y10 y11 y12 y13 y2b hW4
 go_loopw [51] (fun i51 wr=>∃j:Nat,j≤q∧i51 = .int .i64 (j:Int)∧Hid (DirTo w3 wr w3.heap.size n V ((bs.take j).filter (fun b=>decide (b≠0))))) (fun i51 _=>q-(intOf i51).toNat)
 case atStart=>exact⟨0,Nat.zero_le _,rfl,HRel0⟩
 case round=>
  obtain⟨j,hj,rfl,HRel⟩:=hrel
  by_cases hlt:j<q
  ·have hj40:j<40:=by omega
   obtain⟨b,hb⟩:∃b,bs[j]? = some b:=⟨bs[j]'(by rw[HLen.out]; exact hj40),by rw[List.getElem?_eq_getElem]⟩
   have hrow:=OwnR.row (f:=intC) (size:=1) (fun _ _=>rfl) (HO3.out.below HRel.out.1)
   have hcell:∃bb oo,ad=some ⟨bb,oo,none⟩∧wr.cell? ⟨bb,oo+j,none⟩=some (.int .i64 b):=by
    obtain⟨ad',n',cap',e',hn',-,hf'⟩:=RowAt.facts hrow
    injection e' with e1 e2 e3
    subst e1 e2 e3
    obtain⟨bb,oo,x,e1,-,hx,hc⟩:=hf'.out j hj40
    rw[hb] at hx
    cases hx
    have:=hc 0 _ rfl
    rw[Nat.mul_one,Nat.add_zero] at this
    exact⟨bb,oo,e1,this⟩
   obtain⟨bb,oo,rfl,c0⟩:=hcell
   have HStep:=Lib.hid (filter_step hb)
   have hbn:=HBs.out b (List.mem_of_getElem? hb)
   have HMem:Hid (b≠0→b∈(bs.take q).filter (fun b=>decide (b≠0))):=fun h=>List.mem_filter.2 ⟨List.mem_of_getElem? (i:=j) (by rw[List.getElem?_take_of_lt hlt]; exact hb),by simpa using h⟩
   clear hrow hb
   by_cases hb0:b=0
   ·have q0:(b == 0)=true:=by rw[hb0]; rfl
    have HR1:Hid (DirTo w3 wr w3.heap.size n V ((bs.take (j+1)).filter (fun b=>decide (b≠0)))):=by rw[HStep.out,if_pos hb0]; exact HRel.out
    clear hb0
    go_wp2
    go_roundw
    case rel=>exact⟨j+1,by omega,by go_num,HR1⟩
    case measure=>simp[intOf]; omega
   ·have q0:(b == 0)=false:=beq_eq_false_iff_ne.2 hb0
    have HBr:Hid (Below w.heap.size w wr):=blN HB3.out HRel.out.1
    have hr1:=HRUN.out b (HMem.out hb0) wr HBr.out
    have HDe:Hid (∀W,Below w.heap.size w W→Calls Tryz.prog 183 #[.string (V b)] W fun e w'=>e = .returned (.tuple #[.agg (slotC (V b)).toArray,.int .i64 0])∧Below W.heap.size W w'):=fun W hW=>HDEC.out b (HMem.out hb0) W hW
    have HSt:Hid ((bs.take (j+1)).filter (fun b=>decide (b≠0))=(bs.take j).filter (fun b=>decide (b≠0)) ++ [b]):=by show _=_; rw[HStep.out,if_neg hb0]
    have HR1:=Lib.hid hr1
    clear hr1
    clear hb0 HStep HMem
    go_wp2_with fail
    refine HR1.out.mono ?_
    rintro e w5 ⟨rfl,hb5⟩
    have HB5:=Lib.hid (blN HBr.out hb5)
    have HRel5:=Lib.hid (HRel.out.below hb5)
    clear hb5
    go_wp2_with fail
    refine(HDe.out w5 HB5.out).mono ?_
    rintro e w6 ⟨rfl,hb6⟩
    have HB6:=Lib.hid (blN HB5.out hb6)
    have HRel6:=Lib.hid (HRel5.out.below hb6)
    clear hb6
    obtain⟨s,hs⟩:∃s,V b=s:=⟨_,rfl⟩
    have HS:=Lib.hid hs
    rw[hs]
    unfold slotC
    obtain⟨a0,n0,a1,n1,a2,n2,a3,n3,hsl⟩:∃a0 n0 a1 n1 a2 n2 a3 n3,slotC s=[.int .i64 a0,.string n0,.int .i64 a1,.string n1,.int .i64 a2,.string n2,.int .i64 a3,.string n3]:=⟨_,_,_,_,_,_,_,_,rfl⟩
    have HSl:=Lib.hid hsl
    unfold slotC at hsl
    simp only[List.cons.injEq,Value.int.injEq,Value.string.injEq,true_and,and_true] at hsl
    obtain⟨f0,f1,f2,f3,f4,f5,f6,f7⟩:=hsl
    rw[f0,f1,f2,f3,f4,f5,f6,f7]
    clear f0 f1 f2 f3 f4 f5 f6 f7 hs
    obtain⟨W7,hW7⟩:∃W,w6.alloc (.cells #[.int .i64 a0,.string n0,.int .i64 a1,.string n1,.int .i64 a2,.string n2,.int .i64 a3,.string n3] 282)=W:=⟨_,rfl⟩
    have HB7:Hid (Below w6.heap.size w6 W7):=by rw[←hW7]; exact bl2 _
    have HZ7:Hid (W7.heap[w6.heap.size]? = some (.cells #[.int .i64 a0,.string n0,.int .i64 a1,.string n1,.int .i64 a2,.string n2,.int .i64 a3,.string n3] 282 (0,0))):=by rw[←hW7]; exact q2z w6 _
    have HRel7:=Lib.hid (HRel6.out.below HB7.out)
    go_wp2_with fail
    obtain⟨hb7,vs,us,hz7,hov7,hou7⟩:=HRel7.out
    obtain⟨l,hl⟩:∃l,(bs.take j).filter (fun b=>decide (b≠0))=l:=⟨_,rfl⟩
    rw[hl] at hov7 hou7
    have hll:l.length≤40:=by
     rw[←hl]
     exact Nat.le_trans (List.length_filter_le _ _) (by rw[List.length_take]; omega)
    have HSl2:Hid ((bs.take (j+1)).filter (fun b=>decide (b≠0))=l ++ [b]):=by show _=_; rw[HSt.out,hl]
    have hap:us.ownBlock≠some w6.heap.size:=fun hk=>by
     obtain⟨_,vs',us',hz6,_,hou6⟩:=HRel6.out
     have hz67:=q1z HB7.out hz6
     rw[HDO.out] at hz67 hz7
     have e1:=(cellOf (k:=15) hz67 rfl).symm.trans (cellOf (k:=15) hz7 rfl)
     have e1:us' = us:=Option.some.inj e1
     rw[e1] at hou6
     have:=(OwnR.lt hou6 _ hk).2
     omega
    have HRW0:Hid (RegW w3 W7.drew w3.heap.size w6.heap.size n vs us V l #[.int .i64 a0,.string n0,.int .i64 a1,.string n1,.int .i64 a2,.string n2,.int .i64 a3,.string n3]):=RegW.later ⟨hb7,hz7,hou7,HZ7.out,hap⟩ (blD (Below.refl _ _))
    have HRS:Hid (∀W,RegW w3 W w3.heap.size w6.heap.size n vs us V l #[.int .i64 a0,.string n0,.int .i64 a1,.string n1,.int .i64 a2,.string n2,.int .i64 a3,.string n3]→W.cell? ⟨w3.heap.size,14,none⟩=some vs∧W.cell? ⟨w3.heap.size,15,none⟩=some us∧W.cell? ⟨w6.heap.size,0,none⟩=some (.int .i64 a0)∧W.cell? ⟨w6.heap.size,1,none⟩=some (.string n0)∧W.cell? ⟨w6.heap.size,2,none⟩=some (.int .i64 a1)∧W.cell? ⟨w6.heap.size,3,none⟩=some (.string n1)∧W.cell? ⟨w6.heap.size,4,none⟩=some (.int .i64 a2)∧W.cell? ⟨w6.heap.size,5,none⟩=some (.string n2)∧W.cell? ⟨w6.heap.size,6,none⟩=some (.int .i64 a3)∧W.cell? ⟨w6.heap.size,7,none⟩=some (.string n3)):=fun W hW=>by
     have h1:=hW.box
     rw[HDO.out] at h1
     exact⟨cellOf (k:=14) h1 rfl,cellOf (k:=15) h1 rfl,cellOf (k:=0) hW.ex rfl,cellOf (k:=1) hW.ex rfl,cellOf (k:=2) hW.ex rfl,cellOf (k:=3) hW.ex rfl,cellOf (k:=4) hW.ex rfl,cellOf (k:=5) hW.ex rfl,cellOf (k:=6) hW.ex rfl,cellOf (k:=7) hW.ex rfl⟩
    have HOV:Hid (OwnR 3 1 intC (w3.heap.size+1) W7.drew vs l):=hov7.below (blD (Below.refl _ _))
    have hS:=HRS.out W7.drew HRW0.out
    obtain⟨ia,ib,ic,id,ie⟩:=info_parts q69z
    obtain⟨ja,jb,jc,jd,je⟩:=info_parts infoE4
    have HI:=Lib.hid (And.intro ib (And.intro ic (And.intro id ie)))
    have HJ:=Lib.hid (And.intro jb (And.intro jc (And.intro jd je)))
    have hL:l.length=l.length:=rfl
    clear hb7 hz7 hov7 hou7 hap hl HRel7 HRel6 HRel5 hW7 ib ic id ie jb jc jd je hL HSt
    refine q47z (fun W=>W.cell? ⟨w3.heap.size,14,none⟩=some vs∧W.cell? ⟨w3.heap.size,15,none⟩=some us∧W.cell? ⟨w6.heap.size,0,none⟩=some (.int .i64 a0)∧W.cell? ⟨w6.heap.size,1,none⟩=some (.string n0)∧W.cell? ⟨w6.heap.size,2,none⟩=some (.int .i64 a1)∧W.cell? ⟨w6.heap.size,3,none⟩=some (.string n1)∧W.cell? ⟨w6.heap.size,4,none⟩=some (.int .i64 a2)∧W.cell? ⟨w6.heap.size,5,none⟩=some (.string n2)∧W.cell? ⟨w6.heap.size,6,none⟩=some (.int .i64 a3)∧W.cell? ⟨w6.heap.size,7,none⟩=some (.string n3)) 18 (by kernel_rfl) (by first | trivial | assumption) (fun hHeld hX0=>?_)
    refine tkU 0 ?_; clear hX0; intro hX0; simp only[Act.put,ps0]
    refine tkU 2 ?_; clear hX0; intro hX0; simp only[Act.put,ps0]
    refine tkU 3 ?_; clear hX0; intro hX0; simp only[Act.put,ps0]
    refine tkU 4 ?_; clear hX0; intro hX0; simp only[Act.put,ps0]
    refine tkU 5 ?_; clear hX0; intro hX0; simp only[Act.put,ps0]
    refine tkU 6 ?_; clear hX0; intro hX0; simp only[Act.put,ps0]
    refine tkU 9 ?_; clear hX0; intro hX0; simp only[Act.put,ps0]
    refine tkU 10 ?_; clear hX0; intro hX0; simp only[Act.put,ps0]
    refine tkU 11 ?_; clear hX0; intro hX0; simp only[Act.put,ps0]
    refine tkU 12 ?_; clear hX0; intro hX0; simp only[Act.put,ps0]
    refine tkU 13 ?_; clear hX0; intro hX0; simp only[Act.put,ps0]
    refine pkU 1 ?_; clear hX0; intro hX0; simp only[Act.put,ps0]
    refine AnyU.each (is:=[7,14]) (by kernel_rfl) (by simp) (EachU.cons hX0 (by kernel_rfl) rfl (fun K hK=>?_) (EachU.cons hX0 (by kernel_rfl) rfl (fun K hK=>?_) EachU.nil))
    ·obtain⟨W8,hW8⟩:∃W,W7.drew.alloc (.cells #[.int .i64 b] 3)=W:=⟨_,rfl⟩
     have HB8:Hid (Below W7.drew.heap.size W7.drew W8):=by rw[←hW8]; exact bl2 _
     have HRW8:=Lib.hid (HRW0.out.later HB8.out)
     have HOV8:=Lib.hid (HOV.out.below HB8.out)
     obtain⟨p,hp⟩:∃p,W7.heap.size=p:=⟨_,rfl⟩
     have HP8:Hid (W8.heap[p]? = some (.cells #[.int .i64 b] 3 (0,0))):=by rw[←hW8,←hp]; exact q2z W7.drew _
     try simp only[gg0]
     go_simp
     try simp only
     refine hK.out _ _ (fun _=>?hkS) (fun hHeld2 hX1=>?_)
     case hkS=>
      exact HRS.out W8 HRW8.out
     clear hHeld; have hHeld:=hHeld2 (by decide)
     clear hK K hHeld2 hX0; have hX0:=hX1; clear hX1
     try simp only[Act.put,ps0]
     clear hW8
     have HOb:Hid (w3.heap.size+1≤W8.heap.size):=by have:=(Array.getElem?_eq_some_iff.1 HRW8.out.box).1; show _≤_; omega
     refine AnyU.each (is:=[8,14]) (by kernel_rfl) (by simp) (EachU.cons hX0 (by kernel_rfl) rfl (fun K hK=>?_) (EachU.cons hX0 (by kernel_rfl) rfl (fun K hK=>?_) EachU.nil))
     ·have HOVn:=HOV8
      have HPn:=HP8
      refine step_append_lies _ (by rfl) _ _ _ (by rfl) (w3.heap.size+1) 3 ia _ 1 8 Tryz.underlying48 HI.out.1 HI.out.2.1 HI.out.2.2.1 HI.out.2.2.2 rfl (by decide) vs l.length (l.flatMap intC) (by rfl) HOVn.out ⟨p,0,none⟩ 1 1 [.int .i64 b] (by rfl) (by rfl) (World.news_of_block (cs:=#[.int .i64 b]) (t:=3) (fr:=(0,0)) HPn.out) (by simp[Value.oneCell']) (by omega) ?a1 ?a2 ?a3 _ rfl ?_
      case a1=>unfold maxLen; omega
      case a2=>omega
      case a3=>exact HOb.out
      intro g cap1 w9 hown hgrow hat hlt
      have hv9:OwnR 3 1 intC (w3.heap.size+1) w9 (.slice (some ⟨g,0,none⟩) (l.length+1) cap1) (l ++ [b]):=OwnR.snoc (f:=intC) (x:=b) hown rfl rfl
      have HRW9:=Lib.hid (HRW8.out.grownI HOV8.out hgrow)
      try simp only
      refine hK.out _ _ (fun _=>?hkS) (fun hHeld2 hX1=>?_)
      case hkS=>
       exact HRS.out w9 HRW9.out
      clear hHeld; have hHeld:=hHeld2 (by decide)
      clear hK K hHeld2 hX0; have hX0:=hX1; clear hX1
      try simp only[Act.put,ps0]
      refine AnyU.each (is:=[14]) (by kernel_rfl) (by simp) (EachU.cons hX0 (by kernel_rfl) rfl (fun K hK=>?_) EachU.nil)
      obtain⟨wL,hwL⟩:∃W,w9.alloc (.cells #[.int .i64 a0,.string n0,.int .i64 a1,.string n1,.int .i64 a2,.string n2,.int .i64 a3,.string n3] 282)=W:=⟨_,rfl⟩
      have hbL:Below w9.heap.size w9 wL:=by rw[←hwL]; exact bl2 _
      have HRL:=Lib.hid (HRW9.out.later hbL)
      have HVL:=Lib.hid (hv9.below hbL)
      obtain⟨r,hr⟩:∃r,w9.heap.size=r:=⟨_,rfl⟩
      have HEL:Hid (wL.heap[r]? = some (.cells #[.int .i64 a0,.string n0,.int .i64 a1,.string n1,.int .i64 a2,.string n2,.int .i64 a3,.string n3] 282 (0,0))):=by rw[←hwL,←hr]; exact q2z w9 _
      clear hown hgrow hat hlt hv9 hbL
      try simp only[gg0]
      go_simp
      try simp only
      refine hK.out _ _ (fun _=>?hkS) (fun hHeld2 hX1=>?_)
      case hkS=>
       exact HRS.out wL HRL.out
      clear hHeld; have hHeld:=hHeld2 (by decide)
      clear hK K hHeld2 hX0; have hX0:=hX1; clear hX1
      try simp only[Act.put,ps0]
      clear hwL
      have HOb2:Hid (w3.heap.size+1≤wL.heap.size):=by have:=(Array.getElem?_eq_some_iff.1 HRL.out.box).1; show _≤_; omega
      refine AnyU.each (is:=[15]) (by kernel_rfl) (by simp) (EachU.cons hX0 (by kernel_rfl) rfl (fun K hK=>?_) EachU.nil)
      refine step_append_lies _ (by rfl) _ _ _ (by rfl) (w3.heap.size+1) 282 ja _ 8 96 Tryz.underlying279 HJ.out.1 HJ.out.2.1 HJ.out.2.2.1 HJ.out.2.2.2 rfl (by decide) us (l.map V).length ((l.map V).flatMap slotC) (by rfl) HRL.out.slots ⟨r,0,none⟩ 1 1 [.int .i64 a0,.string n0,.int .i64 a1,.string n1,.int .i64 a2,.string n2,.int .i64 a3,.string n3] (by rfl) (by rfl) (World.news_of_block (cs:=#[.int .i64 a0,.string n0,.int .i64 a1,.string n1,.int .i64 a2,.string n2,.int .i64 a3,.string n3]) (t:=282) (fr:=(0,0)) HEL.out) (by simp[Value.oneCell']) (by omega) ?b1 ?b2 ?b3 _ rfl ?_
      case b1=>rw[List.length_map]; unfold maxLen; omega
      case b2=>rw[List.length_map]; omega
      case b3=>exact HOb2.out
      intro g2 cap2 w10 hown2 hgrow2 hat2 hlt2
      obtain⟨hb10,hz10,hx10⟩:=HRL.out.grownE hgrow2
      have hv10:=rowI_stays HVL.out HRL.out.slots hgrow2
      have hu10:OwnR 282 8 slotC (w3.heap.size+1) w10 (.slice (some ⟨g2,0,none⟩) ((l.map V).length+1) cap2) ((l ++ [b]).map V):=by
       rw[List.map_append]
       exact OwnR.snoc (f:=slotC) (x:=V b) hown2 (by rw[HS.out]; exact HSl.out) rfl
      have HDT:=Lib.hid (DirTo.stored hb10 hz10 hv10 hu10)
      rw[←HSl2.out] at HDT
      rw[HDO.out] at hz10
      have c14:w10.cell? ⟨w3.heap.size,14,none⟩=some vs:=cellOf (k:=14) hz10 rfl
      have f14:w10.frozen? ⟨w3.heap.size,14,none⟩=false:=q3z hz10
      have c15:w10.cell? ⟨w3.heap.size,15,none⟩=some us:=cellOf (k:=15) hz10 rfl
      have hz11:=q8z (k:=14) hz10 (.slice (some ⟨g,0,none⟩) (l.length+1) cap1)
      obtain⟨w11,hw11⟩:∃W,w10.setCell ⟨w3.heap.size,14,none⟩ (.slice (some ⟨g,0,none⟩) (l.length+1) cap1)=W:=⟨_,rfl⟩
      rw[hw11] at hz11 HDT
      rw[List.length_map] at HDT
      have k15:w11.cell? ⟨w3.heap.size,15,none⟩=some us:=cellOf (k:=15) hz11 rfl
      have l15:w11.frozen? ⟨w3.heap.size,15,none⟩=false:=q3z hz11
      have hS10:(w10.cell? ⟨w3.heap.size,14,none⟩=some vs∧w10.cell? ⟨w3.heap.size,15,none⟩=some us∧w10.cell? ⟨w6.heap.size,0,none⟩=some (.int .i64 a0)∧w10.cell? ⟨w6.heap.size,1,none⟩=some (.string n0)∧w10.cell? ⟨w6.heap.size,2,none⟩=some (.int .i64 a1)∧w10.cell? ⟨w6.heap.size,3,none⟩=some (.string n1)∧w10.cell? ⟨w6.heap.size,4,none⟩=some (.int .i64 a2)∧w10.cell? ⟨w6.heap.size,5,none⟩=some (.string n2)∧w10.cell? ⟨w6.heap.size,6,none⟩=some (.int .i64 a3)∧w10.cell? ⟨w6.heap.size,7,none⟩=some (.string n3)):=⟨c14,c15,cellOf (k:=0) hx10 rfl,cellOf (k:=1) hx10 rfl,cellOf (k:=2) hx10 rfl,cellOf (k:=3) hx10 rfl,cellOf (k:=4) hx10 rfl,cellOf (k:=5) hx10 rfl,cellOf (k:=6) hx10 rfl,cellOf (k:=7) hx10 rfl⟩
      clear hown2 hgrow2 hat2 hlt2 hb10 hx10 hv10 hu10 hz11 hz10
      try simp only
      refine hK.out _ _ (fun _=>?hkS) (fun hHeld2 hX1=>?_)
      case hkS=>
       exact hS10
      clear hHeld; have hHeld:=hHeld2 (by decide)
      clear hK K hHeld2 hX0; have hX0:=hX1; clear hX1
      try simp only[Act.put,ps0]
      refine tkU 16 ?_; clear hX0; intro hX0; simp only[Act.put,ps0]
      refine tkU 17 ?_; clear hX0; intro hX0; simp only[Act.put,ps0]
      refine AnyU.each (is:=[18]) (by kernel_rfl) (by simp) (EachU.cons hX0 (by kernel_rfl) rfl (fun K hK=>?_) EachU.nil)
      try simp only[gg0]
      go_simp
      try simp only
      refine hK.out _ _ (fun h=>absurd h (by decide)) (fun _ hX1=>?_)
      clear hK K hX0; have hX0:=hX1; clear hX1
      try simp only[Act.put,ps0]
      refine pkU 19 ?_; clear hX0; intro hX0; simp only[Act.put,ps0]
      refine pkU 20 ?_; clear hX0; intro hX0; simp only[Act.put,ps0]
      refine AnyU.each (is:=[21]) (by kernel_rfl) (by simp) (EachU.cons hX0 (by kernel_rfl) rfl (fun K hK=>?_) EachU.nil)
      try simp only[gg0]
      go_simp
      try simp only
      refine hK.out _ _ (fun h=>absurd h (by decide)) (fun _ hX1=>?_)
      clear hK K hX0; have hX0:=hX1; clear hX1
      try simp only[Act.put,ps0]
      refine AnyU.done (by kernel_rfl) ?_ _
      clear hS10 hX0 c14 f14 c15 k15 l15 hw11
      go_wp2
      go_roundw
      case rel=>exact⟨j+1,by omega,by go_num,HDT⟩
      case measure=>simp[intOf]; omega
     ·obtain⟨W9,hW9⟩:∃W,W8.alloc (.cells #[.int .i64 a0,.string n0,.int .i64 a1,.string n1,.int .i64 a2,.string n2,.int .i64 a3,.string n3] 282)=W:=⟨_,rfl⟩
      have hb9:Below W8.heap.size W8 W9:=by rw[←hW9]; exact bl2 _
      have HRW9:=Lib.hid (HRW8.out.later hb9)
      have HOVn:=Lib.hid (HOV8.out.below hb9)
      have HPn:=Lib.hid (q1z hb9 HP8.out)
      obtain⟨r,hr⟩:∃r,W8.heap.size=r:=⟨_,rfl⟩
      have HE9:Hid (W9.heap[r]? = some (.cells #[.int .i64 a0,.string n0,.int .i64 a1,.string n1,.int .i64 a2,.string n2,.int .i64 a3,.string n3] 282 (0,0))):=by rw[←hW9,←hr]; exact q2z W8 _
      clear hb9
      try simp only[gg0]
      go_simp
      try simp only
      refine hK.out _ _ (fun _=>?hkS) (fun hHeld2 hX1=>?_)
      case hkS=>
       exact HRS.out W9 HRW9.out
      clear hHeld; have hHeld:=hHeld2 (by decide)
      clear hK K hHeld2 hX0; have hX0:=hX1; clear hX1
      try simp only[Act.put,ps0]
      clear hW9 HOb
      have HOb:Hid (w3.heap.size+1≤W9.heap.size):=by have:=(Array.getElem?_eq_some_iff.1 HRW9.out.box).1; show _≤_; omega
      refine AnyU.each (is:=[8]) (by kernel_rfl) (by simp) (EachU.cons hX0 (by kernel_rfl) rfl (fun K hK=>?_) EachU.nil)
      refine step_append_lies _ (by rfl) _ _ _ (by rfl) (w3.heap.size+1) 3 ia _ 1 8 Tryz.underlying48 HI.out.1 HI.out.2.1 HI.out.2.2.1 HI.out.2.2.2 rfl (by decide) vs l.length (l.flatMap intC) (by rfl) HOVn.out ⟨p,0,none⟩ 1 1 [.int .i64 b] (by rfl) (by rfl) (World.news_of_block (cs:=#[.int .i64 b]) (t:=3) (fr:=(0,0)) HPn.out) (by simp[Value.oneCell']) (by omega) ?a1 ?a2 ?a3 _ rfl ?_
      case a1=>unfold maxLen; omega
      case a2=>omega
      case a3=>exact HOb.out
      intro g cap1 wL hown hgrow hat hlt
      have hvL:OwnR 3 1 intC (w3.heap.size+1) wL (.slice (some ⟨g,0,none⟩) (l.length+1) cap1) (l ++ [b]):=OwnR.snoc (f:=intC) (x:=b) hown rfl rfl
      have HRL:=Lib.hid (HRW9.out.grownI HOVn.out hgrow)
      have HVL:=Lib.hid hvL
      have HEL:=Lib.hid (heapGI HOVn.out hgrow HE9.out (by decide))
      clear hown hgrow hat hlt hvL
      try simp only
      refine hK.out _ _ (fun _=>?hkS) (fun hHeld2 hX1=>?_)
      case hkS=>
       exact HRS.out wL HRL.out
      clear hHeld; have hHeld:=hHeld2 (by decide)
      clear hK K hHeld2 hX0; have hX0:=hX1; clear hX1
      try simp only[Act.put,ps0]
      have HOb2:Hid (w3.heap.size+1≤wL.heap.size):=by have:=(Array.getElem?_eq_some_iff.1 HRL.out.box).1; show _≤_; omega
      refine AnyU.each (is:=[15]) (by kernel_rfl) (by simp) (EachU.cons hX0 (by kernel_rfl) rfl (fun K hK=>?_) EachU.nil)
      refine step_append_lies _ (by rfl) _ _ _ (by rfl) (w3.heap.size+1) 282 ja _ 8 96 Tryz.underlying279 HJ.out.1 HJ.out.2.1 HJ.out.2.2.1 HJ.out.2.2.2 rfl (by decide) us (l.map V).length ((l.map V).flatMap slotC) (by rfl) HRL.out.slots ⟨r,0,none⟩ 1 1 [.int .i64 a0,.string n0,.int .i64 a1,.string n1,.int .i64 a2,.string n2,.int .i64 a3,.string n3] (by rfl) (by rfl) (World.news_of_block (cs:=#[.int .i64 a0,.string n0,.int .i64 a1,.string n1,.int .i64 a2,.string n2,.int .i64 a3,.string n3]) (t:=282) (fr:=(0,0)) HEL.out) (by simp[Value.oneCell']) (by omega) ?b1 ?b2 ?b3 _ rfl ?_
      case b1=>rw[List.length_map]; unfold maxLen; omega
      case b2=>rw[List.length_map]; omega
      case b3=>exact HOb2.out
      intro g2 cap2 w10 hown2 hgrow2 hat2 hlt2
      obtain⟨hb10,hz10,hx10⟩:=HRL.out.grownE hgrow2
      have hv10:=rowI_stays HVL.out HRL.out.slots hgrow2
      have hu10:OwnR 282 8 slotC (w3.heap.size+1) w10 (.slice (some ⟨g2,0,none⟩) ((l.map V).length+1) cap2) ((l ++ [b]).map V):=by
       rw[List.map_append]
       exact OwnR.snoc (f:=slotC) (x:=V b) hown2 (by rw[HS.out]; exact HSl.out) rfl
      have HDT:=Lib.hid (DirTo.stored hb10 hz10 hv10 hu10)
      rw[←HSl2.out] at HDT
      rw[HDO.out] at hz10
      have c14:w10.cell? ⟨w3.heap.size,14,none⟩=some vs:=cellOf (k:=14) hz10 rfl
      have f14:w10.frozen? ⟨w3.heap.size,14,none⟩=false:=q3z hz10
      have c15:w10.cell? ⟨w3.heap.size,15,none⟩=some us:=cellOf (k:=15) hz10 rfl
      have hz11:=q8z (k:=14) hz10 (.slice (some ⟨g,0,none⟩) (l.length+1) cap1)
      obtain⟨w11,hw11⟩:∃W,w10.setCell ⟨w3.heap.size,14,none⟩ (.slice (some ⟨g,0,none⟩) (l.length+1) cap1)=W:=⟨_,rfl⟩
      rw[hw11] at hz11 HDT
      rw[List.length_map] at HDT
      have k15:w11.cell? ⟨w3.heap.size,15,none⟩=some us:=cellOf (k:=15) hz11 rfl
      have l15:w11.frozen? ⟨w3.heap.size,15,none⟩=false:=q3z hz11
      have hS10:(w10.cell? ⟨w3.heap.size,14,none⟩=some vs∧w10.cell? ⟨w3.heap.size,15,none⟩=some us∧w10.cell? ⟨w6.heap.size,0,none⟩=some (.int .i64 a0)∧w10.cell? ⟨w6.heap.size,1,none⟩=some (.string n0)∧w10.cell? ⟨w6.heap.size,2,none⟩=some (.int .i64 a1)∧w10.cell? ⟨w6.heap.size,3,none⟩=some (.string n1)∧w10.cell? ⟨w6.heap.size,4,none⟩=some (.int .i64 a2)∧w10.cell? ⟨w6.heap.size,5,none⟩=some (.string n2)∧w10.cell? ⟨w6.heap.size,6,none⟩=some (.int .i64 a3)∧w10.cell? ⟨w6.heap.size,7,none⟩=some (.string n3)):=⟨c14,c15,cellOf (k:=0) hx10 rfl,cellOf (k:=1) hx10 rfl,cellOf (k:=2) hx10 rfl,cellOf (k:=3) hx10 rfl,cellOf (k:=4) hx10 rfl,cellOf (k:=5) hx10 rfl,cellOf (k:=6) hx10 rfl,cellOf (k:=7) hx10 rfl⟩
      clear hown2 hgrow2 hat2 hlt2 hb10 hx10 hv10 hu10 hz11 hz10
      try simp only
      refine hK.out _ _ (fun _=>?hkS) (fun hHeld2 hX1=>?_)
      case hkS=>
       exact hS10
      clear hHeld; have hHeld:=hHeld2 (by decide)
      clear hK K hHeld2 hX0; have hX0:=hX1; clear hX1
      try simp only[Act.put,ps0]
      refine tkU 16 ?_; clear hX0; intro hX0; simp only[Act.put,ps0]
      refine tkU 17 ?_; clear hX0; intro hX0; simp only[Act.put,ps0]
      refine AnyU.each (is:=[18]) (by kernel_rfl) (by simp) (EachU.cons hX0 (by kernel_rfl) rfl (fun K hK=>?_) EachU.nil)
      try simp only[gg0]
      go_simp
      try simp only
      refine hK.out _ _ (fun h=>absurd h (by decide)) (fun _ hX1=>?_)
      clear hK K hX0; have hX0:=hX1; clear hX1
      try simp only[Act.put,ps0]
      refine pkU 19 ?_; clear hX0; intro hX0; simp only[Act.put,ps0]
      refine pkU 20 ?_; clear hX0; intro hX0; simp only[Act.put,ps0]
      refine AnyU.each (is:=[21]) (by kernel_rfl) (by simp) (EachU.cons hX0 (by kernel_rfl) rfl (fun K hK=>?_) EachU.nil)
      try simp only[gg0]
      go_simp
      try simp only
      refine hK.out _ _ (fun h=>absurd h (by decide)) (fun _ hX1=>?_)
      clear hK K hX0; have hX0:=hX1; clear hX1
      try simp only[Act.put,ps0]
      refine AnyU.done (by kernel_rfl) ?_ _
      clear hS10 hX0 c14 f14 c15 k15 l15 hw11
      go_wp2
      go_roundw
      case rel=>exact⟨j+1,by omega,by go_num,HDT⟩
      case measure=>simp[intOf]; omega
    ·obtain⟨W8,hW8⟩:∃W,W7.drew.alloc (.cells #[.int .i64 a0,.string n0,.int .i64 a1,.string n1,.int .i64 a2,.string n2,.int .i64 a3,.string n3] 282)=W:=⟨_,rfl⟩
     have HB8:Hid (Below W7.drew.heap.size W7.drew W8):=by rw[←hW8]; exact bl2 _
     have HRW8:=Lib.hid (HRW0.out.later HB8.out)
     have HOV8:=Lib.hid (HOV.out.below HB8.out)
     obtain⟨r,hr⟩:∃r,W7.heap.size=r:=⟨_,rfl⟩
     have HE8:Hid (W8.heap[r]? = some (.cells #[.int .i64 a0,.string n0,.int .i64 a1,.string n1,.int .i64 a2,.string n2,.int .i64 a3,.string n3] 282 (0,0))):=by rw[←hW8,←hr]; exact q2z W7.drew _
     try simp only[gg0]
     go_simp
     try simp only
     refine hK.out _ _ (fun _=>?hkS) (fun hHeld2 hX1=>?_)
     case hkS=>
      exact HRS.out W8 HRW8.out
     clear hHeld; have hHeld:=hHeld2 (by decide)
     clear hK K hHeld2 hX0; have hX0:=hX1; clear hX1
     try simp only[Act.put,ps0]
     clear hW8
     refine AnyU.each (is:=[7]) (by kernel_rfl) (by simp) (EachU.cons hX0 (by kernel_rfl) rfl (fun K hK=>?_) EachU.nil)
     obtain⟨W9,hW9⟩:∃W,W8.alloc (.cells #[.int .i64 b] 3)=W:=⟨_,rfl⟩
     have hb9:Below W8.heap.size W8 W9:=by rw[←hW9]; exact bl2 _
     have HRW9:=Lib.hid (HRW8.out.later hb9)
     have HOVn:=Lib.hid (HOV8.out.below hb9)
     have HE9:=Lib.hid (q1z hb9 HE8.out)
     obtain⟨p,hp⟩:∃p,W8.heap.size=p:=⟨_,rfl⟩
     have HPn:Hid (W9.heap[p]? = some (.cells #[.int .i64 b] 3 (0,0))):=by rw[←hW9,←hp]; exact q2z W8 _
     clear hb9
     try simp only[gg0]
     go_simp
     try simp only
     refine hK.out _ _ (fun _=>?hkS) (fun hHeld2 hX1=>?_)
     case hkS=>
      exact HRS.out W9 HRW9.out
     clear hHeld; have hHeld:=hHeld2 (by decide)
     clear hK K hHeld2 hX0; have hX0:=hX1; clear hX1
     try simp only[Act.put,ps0]
     clear hW9
     have HOb:Hid (w3.heap.size+1≤W9.heap.size):=by have:=(Array.getElem?_eq_some_iff.1 HRW9.out.box).1; show _≤_; omega
     refine AnyU.each (is:=[8]) (by kernel_rfl) (by simp) (EachU.cons hX0 (by kernel_rfl) rfl (fun K hK=>?_) EachU.nil)
     refine step_append_lies _ (by rfl) _ _ _ (by rfl) (w3.heap.size+1) 3 ia _ 1 8 Tryz.underlying48 HI.out.1 HI.out.2.1 HI.out.2.2.1 HI.out.2.2.2 rfl (by decide) vs l.length (l.flatMap intC) (by rfl) HOVn.out ⟨p,0,none⟩ 1 1 [.int .i64 b] (by rfl) (by rfl) (World.news_of_block (cs:=#[.int .i64 b]) (t:=3) (fr:=(0,0)) HPn.out) (by simp[Value.oneCell']) (by omega) ?a1 ?a2 ?a3 _ rfl ?_
     case a1=>unfold maxLen; omega
     case a2=>omega
     case a3=>exact HOb.out
     intro g cap1 wL hown hgrow hat hlt
     have hvL:OwnR 3 1 intC (w3.heap.size+1) wL (.slice (some ⟨g,0,none⟩) (l.length+1) cap1) (l ++ [b]):=OwnR.snoc (f:=intC) (x:=b) hown rfl rfl
     have HRL:=Lib.hid (HRW9.out.grownI HOVn.out hgrow)
     have HVL:=Lib.hid hvL
     have HEL:=Lib.hid (heapGI HOVn.out hgrow HE9.out (by decide))
     clear hown hgrow hat hlt hvL
     try simp only
     refine hK.out _ _ (fun _=>?hkS) (fun hHeld2 hX1=>?_)
     case hkS=>
      exact HRS.out wL HRL.out
     clear hHeld; have hHeld:=hHeld2 (by decide)
     clear hK K hHeld2 hX0; have hX0:=hX1; clear hX1
     try simp only[Act.put,ps0]
     have HOb2:Hid (w3.heap.size+1≤wL.heap.size):=by have:=(Array.getElem?_eq_some_iff.1 HRL.out.box).1; show _≤_; omega
     refine AnyU.each (is:=[15]) (by kernel_rfl) (by simp) (EachU.cons hX0 (by kernel_rfl) rfl (fun K hK=>?_) EachU.nil)
     refine step_append_lies _ (by rfl) _ _ _ (by rfl) (w3.heap.size+1) 282 ja _ 8 96 Tryz.underlying279 HJ.out.1 HJ.out.2.1 HJ.out.2.2.1 HJ.out.2.2.2 rfl (by decide) us (l.map V).length ((l.map V).flatMap slotC) (by rfl) HRL.out.slots ⟨r,0,none⟩ 1 1 [.int .i64 a0,.string n0,.int .i64 a1,.string n1,.int .i64 a2,.string n2,.int .i64 a3,.string n3] (by rfl) (by rfl) (World.news_of_block (cs:=#[.int .i64 a0,.string n0,.int .i64 a1,.string n1,.int .i64 a2,.string n2,.int .i64 a3,.string n3]) (t:=282) (fr:=(0,0)) HEL.out) (by simp[Value.oneCell']) (by omega) ?b1 ?b2 ?b3 _ rfl ?_
     case b1=>rw[List.length_map]; unfold maxLen; omega
     case b2=>rw[List.length_map]; omega
     case b3=>exact HOb2.out
     intro g2 cap2 w10 hown2 hgrow2 hat2 hlt2
     obtain⟨hb10,hz10,hx10⟩:=HRL.out.grownE hgrow2
     have hv10:=rowI_stays HVL.out HRL.out.slots hgrow2
     have hu10:OwnR 282 8 slotC (w3.heap.size+1) w10 (.slice (some ⟨g2,0,none⟩) ((l.map V).length+1) cap2) ((l ++ [b]).map V):=by
      rw[List.map_append]
      exact OwnR.snoc (f:=slotC) (x:=V b) hown2 (by rw[HS.out]; exact HSl.out) rfl
     have HDT:=Lib.hid (DirTo.stored hb10 hz10 hv10 hu10)
     rw[←HSl2.out] at HDT
     rw[HDO.out] at hz10
     have c14:w10.cell? ⟨w3.heap.size,14,none⟩=some vs:=cellOf (k:=14) hz10 rfl
     have f14:w10.frozen? ⟨w3.heap.size,14,none⟩=false:=q3z hz10
     have c15:w10.cell? ⟨w3.heap.size,15,none⟩=some us:=cellOf (k:=15) hz10 rfl
     have hz11:=q8z (k:=14) hz10 (.slice (some ⟨g,0,none⟩) (l.length+1) cap1)
     obtain⟨w11,hw11⟩:∃W,w10.setCell ⟨w3.heap.size,14,none⟩ (.slice (some ⟨g,0,none⟩) (l.length+1) cap1)=W:=⟨_,rfl⟩
     rw[hw11] at hz11 HDT
     rw[List.length_map] at HDT
     have k15:w11.cell? ⟨w3.heap.size,15,none⟩=some us:=cellOf (k:=15) hz11 rfl
     have l15:w11.frozen? ⟨w3.heap.size,15,none⟩=false:=q3z hz11
     have hS10:(w10.cell? ⟨w3.heap.size,14,none⟩=some vs∧w10.cell? ⟨w3.heap.size,15,none⟩=some us∧w10.cell? ⟨w6.heap.size,0,none⟩=some (.int .i64 a0)∧w10.cell? ⟨w6.heap.size,1,none⟩=some (.string n0)∧w10.cell? ⟨w6.heap.size,2,none⟩=some (.int .i64 a1)∧w10.cell? ⟨w6.heap.size,3,none⟩=some (.string n1)∧w10.cell? ⟨w6.heap.size,4,none⟩=some (.int .i64 a2)∧w10.cell? ⟨w6.heap.size,5,none⟩=some (.string n2)∧w10.cell? ⟨w6.heap.size,6,none⟩=some (.int .i64 a3)∧w10.cell? ⟨w6.heap.size,7,none⟩=some (.string n3)):=⟨c14,c15,cellOf (k:=0) hx10 rfl,cellOf (k:=1) hx10 rfl,cellOf (k:=2) hx10 rfl,cellOf (k:=3) hx10 rfl,cellOf (k:=4) hx10 rfl,cellOf (k:=5) hx10 rfl,cellOf (k:=6) hx10 rfl,cellOf (k:=7) hx10 rfl⟩
     clear hown2 hgrow2 hat2 hlt2 hb10 hx10 hv10 hu10 hz11 hz10
     try simp only
     refine hK.out _ _ (fun _=>?hkS) (fun hHeld2 hX1=>?_)
     case hkS=>
      exact hS10
     clear hHeld; have hHeld:=hHeld2 (by decide)
     clear hK K hHeld2 hX0; have hX0:=hX1; clear hX1
     try simp only[Act.put,ps0]
     refine tkU 16 ?_; clear hX0; intro hX0; simp only[Act.put,ps0]
     refine tkU 17 ?_; clear hX0; intro hX0; simp only[Act.put,ps0]
     refine AnyU.each (is:=[18]) (by kernel_rfl) (by simp) (EachU.cons hX0 (by kernel_rfl) rfl (fun K hK=>?_) EachU.nil)
     try simp only[gg0]
     go_simp
     try simp only
     refine hK.out _ _ (fun h=>absurd h (by decide)) (fun _ hX1=>?_)
     clear hK K hX0; have hX0:=hX1; clear hX1
     try simp only[Act.put,ps0]
     refine pkU 19 ?_; clear hX0; intro hX0; simp only[Act.put,ps0]
     refine pkU 20 ?_; clear hX0; intro hX0; simp only[Act.put,ps0]
     refine AnyU.each (is:=[21]) (by kernel_rfl) (by simp) (EachU.cons hX0 (by kernel_rfl) rfl (fun K hK=>?_) EachU.nil)
     try simp only[gg0]
     go_simp
     try simp only
     refine hK.out _ _ (fun h=>absurd h (by decide)) (fun _ hX1=>?_)
     clear hK K hX0; have hX0:=hX1; clear hX1
     try simp only[Act.put,ps0]
     refine AnyU.done (by kernel_rfl) ?_ _
     clear hS10 hX0 c14 f14 c15 k15 l15 hw11
     go_wp2
     go_roundw
     case rel=>exact⟨j+1,by omega,by go_num,HDT⟩
     case measure=>simp[intOf]; omega
  ·have hjq:q=j:=by omega
   subst hjq
   have HEnd:Hid (∃B,Ending.returned (.tuple #[.pointer (some ⟨w3.heap.size,0,none⟩),.int .i64 0]) = .returned (.tuple #[.pointer (some ⟨B,0,none⟩),.int .i64 0])∧DirAt wr w.heap.size B n V ((bs.take q).filter (fun b=>decide (b≠0)))∧Below w.heap.size w wr):=⟨_,rfl,HRel.out.at HB3.out.size,blN HB3.out HRel.out.1⟩
   clear HRel
   go_wp2
   first | exact HEnd.out | (go_ret2; exact HEnd.out)
end
end Go.Proofs.YtaphcmcimoloiaaGreatDoor
