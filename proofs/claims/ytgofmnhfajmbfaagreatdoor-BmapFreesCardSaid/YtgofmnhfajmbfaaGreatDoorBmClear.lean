/-
 Walks of layer 16: Clear.
-/
import Derived.Test.YtgofmnhfajmbfaaGreatDoorSpClear
import Derived.Test.YtgofmnhfajmbfaaGreatDoorFlushSteps
namespace Go.Proofs.YtgofmnhfajmbfaaGreatDoor
open Go Go.RowKit Txt Sp
theorem q31z (d:Nat) (v:Value) (h1:d≠8) (h2:d≠9) (t:Array Value):results Tryz.f27 (t.setIfInBounds d v)=results Tryz.f27 t:=by
 simp[results,Tryz.results27,Array.getElem?_setIfInBounds,h1,h2]
theorem q56z {P:Program} {fn:Func} {R:Ending→World→Prop} {K K2:Act→World→Prop} {d:Nat} {v:Value} (h:∀t:Array Value,results fn (t.setIfInBounds d v)=results fn t) (c:List PanicEntry) (a:Act) (w:World)
 (hp:Exit.then K (Exit.then K2 (bodyPostD P fn R)) (.panic c) (a.put (some d) v) w):Exit.then K (Exit.then K2 (bodyPostD P fn R)) (.panic c) a w:=
 leaves_results (h a.tmps) a.defers (.panicking c) w hp
theorem bare_fits {g:Sp.Geom} (hg:g.ok) (n:Int):(bare n).node.check g=0:=by
 unfold Sp.Inode.check
 rw[if_pos hg,if_pos]
 have h0:=Int.emod_nonneg (n+1) (by decide:(65536:Int)≠0)
 have h1:=Int.emod_lt_of_pos (n+1) (by decide:(0:Int)<65536)
 have hd:∀b∈(bare n).node.direct,b=0:=fun b hb=>List.eq_of_mem_replicate (n:=8) hb
 exact⟨h0,by show(n+1) % 65536≤65535; omega,by show(0:Int)≤0; decide,by show(0:Int)≤255; decide,by show(0:Int)≤0; decide,by show(0:Int)≤2560; decide,Or.inl ⟨rfl,rfl,rfl,rfl,hd,rfl⟩⟩
/-- Where Clear's loop stands: behind k of the numbers. -/
structure GoneRel (w0:World) (base B Bd Bf:Nat) (D0:Nat→Prop) (g:Sp.Geom) (i at_:Int) (n:Sp.Inode) (vb:Value) (K:Nat→Prop) (w:World) (fst:Int) (L:List Int) (T2:BSt) (k:Nat) (t':BSt) (vm:Value) (D:Nat→Prop) (wr:World):Prop where
 fm:FM w0 base B Bd Bf D0 g i at_ n t' vb vm D wr
 foot:∀j,Foot Bf vb vm D j→K j∨w.heap.size≤j
 turn:Turn K w wr
 fine:Fine t'
 made:t'.made.length≤1+k
 code:BSt.gonesC g fst L T2=BSt.gonesC g fst (L.drop k) t'
 st:BSt.gones g fst L T2=BSt.gones g fst (L.drop k) t'
section
variable {w0 w wr:World} {base B Bd Bf:Nat} {D0 D K:Nat→Prop} {g:Sp.Geom} {i at_:Int} {n:Sp.Inode} {vb vm:Value} {fst:Int} {L:List Int} {T2 t':BSt} {k:Nat}
theorem gone_skip (h:GoneRel w0 base B Bd Bf D0 g i at_ n vb K w fst L T2 k t' vm D wr) (hk:L[k]? = some 0):GoneRel w0 base B Bd Bf D0 g i at_ n vb K w fst L T2 (k+1) t' vm D wr:=by
 obtain⟨hl,e⟩:=List.getElem?_eq_some_iff.1 hk
 have hd:L.drop k=0 :: L.drop (k+1):=by rw[List.drop_eq_getElem_cons hl,e]
 refine⟨h.fm,h.foot,h.turn,h.fine,by have:=h.made; omega,?_,?_⟩
 ·rw[h.code,hd]
  exact if_neg (fun h=>h rfl)
 ·rw[h.st,hd]
  exact if_neg (fun h=>h rfl)
theorem gone_code (h:GoneRel w0 base B Bd Bf D0 g i at_ n vb K w fst L T2 k t' vm D wr) {b:Int} (hk:L[k]? = some b) (h0:b≠0):BSt.gonesC g fst L T2=thenC (t'.goneC g b [fst]) (BSt.gonesC g fst (L.drop (k+1)) (t'.gone g b [fst]))∧BSt.gones g fst L T2=BSt.gones g fst (L.drop (k+1)) (t'.gone g b [fst]):=by
 obtain⟨hl,e⟩:=List.getElem?_eq_some_iff.1 hk
 have hd:L.drop k=b :: L.drop (k+1):=by rw[List.drop_eq_getElem_cons hl,e]
 rw[h.code,h.st,hd]
 exact⟨if_pos h0,if_pos h0⟩
theorem gone_next (h:GoneRel w0 base B Bd Bf D0 g i at_ n vb K w fst L T2 k t' vm D wr) (hk1:k≤100) {b:Int} (hk:L[k]? = some b) (h0:b≠0) (hc:t'.goneC g b [fst]=0) {vm2:Value} {D2:Nat→Prop} {w2:World} (hM:FM w0 base B Bd Bf D0 g i at_ n (t'.gone g b [fst]) vb vm2 D2 w2) (hf:∀j,Foot Bf vb vm2 D2 j→Foot Bf vb vm D j∨wr.heap.size≤j) (hT:Turn (Foot Bf vb vm D) wr w2):GoneRel w0 base B Bd Bf D0 g i at_ n vb K w fst L T2 (k+1) (t'.gone g b [fst]) vm2 D2 w2:=by
 obtain⟨c1,c2⟩:=gone_code h hk h0
 rw[hc,q8z rfl] at c1
 have hz:=h.turn.size
 refine⟨hM,fun j hj=>(hf j hj).elim (h.foot j) (fun hj=>Or.inr (by omega)),h.turn.trans hT (fun _ _ h=>h) (fun j hj hF=>(h.foot j hF).resolve_right (by omega)),h.fine.gone (by have:=h.made; omega) ..,?_,c1,c2⟩
 show(t'.made ++ [_]).length≤_
 rw[List.length_append,List.length_singleton]
 have:=h.made
 omega
end
section
set_option maxHeartbeats 4000000
set_option maxRecDepth 20000 in
theorem bclear_any {w:World} {base B Bd:Nat} {S:Sp.Side} {D:Nat→Prop} (h:SideAt w base B Bd S D) (hD:∀j,D j→j<w.heap.size) {g:Sp.Geom} {i:Int} {F:File} (hs:Stands S g i F) (hlast:S.deps.last≤900000000) (hkind:F.kind≠0) :
 Calls Tryz.prog 27 #[pt B,gV g,.int .i64 i,.slice none 0 0] w (q109z w base B Bd D ((⟨S,F,[]⟩:BSt).clearC g i []) ((⟨S,F,[]⟩:BSt).clear g i [])):=by
 obtain⟨ga,gb,gc⟩:=g
 unfold gV pt
 obtain⟨W0,hW0⟩:∃W,w.alloc (.cells #[.int .i64 ga,.int .i64 gb,.int .i64 gc] 23)=W:=⟨_,rfl⟩
 have hk:=q30z hW0
 have HB0:=Lib.hid hk.1
 have HK:=Lib.hid hk.2
 clear hk
 have hsz:W0.heap.size=w.heap.size+1:=by rw[←hW0]; simp
 have hbx0:W0.heap[w.heap.size]? = some (.cells #[.int .i64 ga,.int .i64 gb,.int .i64 gc] 23 (0,0)):=by rw[←hW0]; exact q3z w _
 obtain⟨W1,hW1⟩:∃W,W0.alloc (.cells #[.int .i64 0] 25)=W:=⟨_,rfl⟩
 have HB1:Hid (Below W0.heap.size W0 W1):=by rw[←hW1]; exact bl2 _
 have HZ1:Hid (W1.heap[w.heap.size+1]? = some (.cells #[.int .i64 0] 25 (0,0))):=by rw[←hW1,←hsz]; exact q3z W0 _
 have hbw:Below w.heap.size w W1:=blN HB0.out HB1.out
 have HKH0:W1.heap[w.heap.size]? = some (.cells #[.int .i64 ga,.int .i64 gb,.int .i64 gc] 23 (0,0)):=q1z HB1.out hbx0
 clear hbx0
 have hbs:=h.baseLe
 have hop:=bopen40_any (Below.refl W1.heap.size W1) (h.below hbw).baseLe (h.below hbw) (fun j hj=>Nat.lt_of_lt_of_le (hD j hj) hbw.size) hs
 unfold q183z gV pt at hop
 obtain⟨z0,z1,z2⟩:=HK.out W1 HB1.out
 have HOP:=Lib.hid hop
 have hbd:BlkBd (⟨S,F,[]⟩:BSt):=⟨hs.file.len,fun b hb=>q130z (hs.blk b hb)⟩
 have hmo:0≤F.more:=(q171z hs.gok hs.fits).2.2.2.2.2.1.1
 have hge:0≤F.gen∧F.gen≤65535:=⟨hs.fits.1,hs.fits.2.1⟩
 have hok:Fine (⟨S,F,[]⟩:BSt):=⟨hs.ok,by show S.deps.last≤900000000+0; omega⟩
 clear hop hbw
 have H:=Lib.hid h
 have HS:=Lib.hid hs
 have HLAST:=Lib.hid hlast
 have HKIND:=Lib.hid hkind
 have HBD:=Lib.hid hbd
 have HMO:=Lib.hid hmo
 clear h hs hlast hkind hbd hmo
 have HOK_:=Lib.hid hok
 clear hok
 have HKH:Hid (W1.heap[w.heap.size]? = some (.cells #[.int .i64 ga,.int .i64 gb,.int .i64 gc] 23 (0,0))):=HKH0
 clear HKH0
 go_enter_defers Tryz.func27,Tryz.ntmps27
 go_wp2_with fail
 refine HOP.out.mono ?_
 rintro e w2 ⟨Bf,vg,rfl,hM,hb2⟩
 have hwi:=bwithin_ok hM HKIND.out (off:=0) (long:=0) (by omega) (by omega) (by omega)
 unfold pt at hwi
 have HWI:=Lib.hid hwi
 have HM:=Lib.hid hM
 clear hwi hM z0 z1 z2
 go_wp2_with fail
 refine HWI.out.mono ?_
 rintro e w3 ⟨rfl,hw3⟩
 replace hw3:=hw3.symm
 subst hw3
 obtain⟨ge,hgen⟩:∃x,F.gen=x:=⟨_,rfl⟩
 obtain⟨gn,hgn⟩:∃x,(ge+1) % 65536=x:=⟨_,rfl⟩
 have x10a:=cellOf (k:=10) HM.out.core.box rfl
 have x10:w2.cell? ⟨Bf,10,none⟩=some (.int .i64 ge):=by rw[←hgen]; exact x10a
 rw[hgen] at hge
 have e1:IntKind.i64.wrap (ge+1)=ge+1:=IntWalk.i64_in _ (by omega)
 have e2:(ge+1).tmod 65536=gn:=by rw[←hgn,Int.tmod_eq_emod_of_nonneg (by omega)]
 have e3:IntKind.i64.wrap gn=gn:=IntWalk.i64_in _ (by omega)
 have hen:=fun W:World=>q126z W ⟨ga,gb,gc⟩ 0 0 0 0 gn 0 0 0 0 0 0 0 0 0
 have hbn:q19z (iN 0 0 0 0 gn 0 0 0 0 0 0 0 0 0)=q19z (bare F.gen).node:=by rw[hgen,←hgn]; rfl
 have hbc:(iN 0 0 0 0 gn 0 0 0 0 0 0 0 0 0).check ⟨ga,gb,gc⟩=0:=by rw[←hgn,←hgen]; exact bare_fits HS.out.gok F.gen
 unfold IEnc gV iA at hen
 rw[hbc,if_pos rfl,hbn] at hen
 obtain⟨TT,hTT⟩:∃X,q19z (bare F.gen).node=X:=⟨_,rfl⟩
 rw[hTT] at hen
 have hq4:∀W,Below w2.heap.size w2 W→(W.cell? ⟨w.heap.size,0,none⟩=some (.int .i64 ga)∧W.cell? ⟨w.heap.size,1,none⟩=some (.int .i64 gb)∧W.cell? ⟨w.heap.size,2,none⟩=some (.int .i64 gc))∧W.cell? ⟨Bf,10,none⟩=some (.int .i64 ge):=fun W hW=>
  ⟨HK.out W (blN HB1.out (blN hb2 hW)),(hW.cell (p:=⟨Bf,10,none⟩) HM.out.core.bf).trans x10⟩
 have hSd:=hq4 w2.drew (blD (Below.refl _ _))
 have HEN:=Lib.hid hen
 have HQ4:=Lib.hid hq4
 clear hen hq4
 clear x10a hgen hgn hbn hbc
 go_wp2_with fail
 refine wp_region_tail (fun W=>(W.cell? ⟨w.heap.size,0,none⟩=some (.int .i64 ga)∧W.cell? ⟨w.heap.size,1,none⟩=some (.int .i64 gb)∧W.cell? ⟨w.heap.size,2,none⟩=some (.int .i64 gc))∧W.cell? ⟨Bf,10,none⟩=some (.int .i64 ge)) 14 (by kernel_rfl) (by kernel_rfl) (by first | trivial | assumption) (fun hHeld hLast hX0=>?_)
 refine tkT 0 ?_ rfl (hQ:=(q13z (q31z _ _ (by decide) (by decide)))); clear hX0; intro hX0; simp only[Act.put,ps0]
 refine tkT 1 ?_ rfl (hQ:=(q13z (q31z _ _ (by decide) (by decide)))); clear hX0; intro hX0; simp only[Act.put,ps0]
 refine tkT 2 ?_ rfl (hQ:=(q13z (q31z _ _ (by decide) (by decide)))); clear hX0; intro hX0; simp only[Act.put,ps0]
 refine tkT 3 ?_ rfl (hQ:=(q13z (q31z _ _ (by decide) (by decide)))); clear hX0; intro hX0; simp only[Act.put,ps0]
 refine tkT 4 ?_ rfl (hQ:=(q13z (q31z _ _ (by decide) (by decide)))); clear hX0; intro hX0; simp only[Act.put,ps0]
 refine tkT 5 ?_ rfl (hQ:=(q13z (q31z _ _ (by decide) (by decide)))); clear hX0; intro hX0; simp only[Act.put,ps0]
 refine tkT 6 ?_ rfl (hQ:=(q13z (q31z _ _ (by decide) (by decide)))); clear hX0; intro hX0; simp only[Act.put,ps0]
 refine tkT 7 ?_ rfl (hQ:=(q13z (q31z _ _ (by decide) (by decide)))); clear hX0; intro hX0; simp only[Act.put,ps0]
 refine tkT 8 ?_ rfl (hQ:=(q13z (q31z _ _ (by decide) (by decide)))); clear hX0; intro hX0; simp only[Act.put,ps0]
 refine AnyT.one (i:=9) hX0 (by kernel_rfl) rfl (fun K hK=>?_)
 try simp only[gg0]
 go_simp
 refine(HEN.out _).mono ?_
 rintro e w4 ⟨rfl,hb4⟩
 have HB4:Hid (Below w2.heap.size w2 w4):=blN (blD (Below.refl _ _)) hb4
 clear hb4
 try simp only
 refine hK.out _ _ (fun _=>?hkS) (fun hHeld2 hX1=>?_)
 case hkS=>
  exact HQ4.out _ HB4.out
 have hHeld:=hHeld2 (by decide)
 clear hK K hHeld2 hX0; have hX0:=hX1; clear hX1
 try simp only[Act.put,ps0]
 refine tkT 10 ?_ rfl (hQ:=(q13z (q31z _ _ (by decide) (by decide)))); clear hX0; intro hX0; simp only[Act.put,ps0]
 refine tkT 11 ?_ rfl (hQ:=(q13z (q31z _ _ (by decide) (by decide)))); clear hX0; intro hX0; simp only[Act.put,ps0]
 refine tkT 12 ?_ rfl (hQ:=(q13z (q31z _ _ (by decide) (by decide)))); clear hX0; intro hX0; simp only[Act.put,ps0]
 refine tkT 13 ?_ rfl (hQ:=(q13z (q31z _ _ (by decide) (by decide)))); clear hX0; intro hX0; simp only[Act.put,ps0]
 have HZ4:Hid (w4.heap[w.heap.size+1]? = some (.cells #[.int .i64 0] 25 (0,0))):=q1z (blN hb2 HB4.out) HZ1.out
 have c4:=cellOf (k:=0) HZ4.out rfl
 have v4:=q4z (k:=0) HZ4.out
 refine AnyT.one (i:=14) hX0 (by kernel_rfl) rfl (fun K hK=>?_)
 try simp only[gg0]
 go_simp
 try simp only
 refine hK.out _ _ (fun h=>absurd rfl h) (fun _ _=>?_)
 clear hK K
 try simp only[Act.put,ps0]
 refine AnyT.done (by kernel_rfl) ?_ _
 clear hHeld hX0 hSd x10 c4 v4
 have HZW:Hid (∀we,Turn D W1 we→we.heap[w.heap.size+1]? = some (.cells #[.int .i64 0] 25 (0,0))):=fun we hT=>hT.heap HZ1.out (fun hd=>by have:=hD _ hd; omega)
 have HOK:Hid (∀(t':BSt) vm' D' we,(⟨S,F,[]⟩:BSt).clearC ⟨ga,gb,gc⟩ i []=0→(⟨S,F,[]⟩:BSt).clear ⟨ga,gb,gc⟩ i []=t'→FM W1 base B Bd Bf D ⟨ga,gb,gc⟩ i (q2z ⟨ga,gb,gc⟩ i) F.node t' (.slice (some ⟨vg,0,none⟩) 40 40) vm' D' we→AtDoor w (w.heap.size+1) 0 (q109z w base B Bd D ((⟨S,F,[]⟩:BSt).clearC ⟨ga,gb,gc⟩ i []) ((⟨S,F,[]⟩:BSt).clear ⟨ga,gb,gc⟩ i [])) vm' we):=fun t' vm' D' we hc ht hM'=>by
  have hf:=hM'.finish (blN HB0.out HB1.out) hD hbs (q:=w.heap.size+1) (Nat.le_succ _) (Array.getElem?_eq_some_iff.1 HZ1.out).1 (.int .i64 0)
  refine AtDoor.mk' (HZW.out we hM'.core.tn) ?_
  rw[hc,ht]
  exact Or.inl ⟨rfl,vm',rfl,hf.1,hf.2⟩
 have HNO:Hid (∀c we,c≠0→(⟨S,F,[]⟩:BSt).clearC ⟨ga,gb,gc⟩ i []=c→Turn D W1 we→AtDoor w (w.heap.size+1) c (q109z w base B Bd D ((⟨S,F,[]⟩:BSt).clearC ⟨ga,gb,gc⟩ i []) ((⟨S,F,[]⟩:BSt).clear ⟨ga,gb,gc⟩ i [])) (.slice none 0 0) we):=fun c we hc he hT=>by
  refine AtDoor.mk' (HZW.out we hT) ?_
  rw[he]
  exact Or.inr ⟨hc,rfl,((Turn.of_below (K:=D) (blN HB0.out HB1.out)).trans hT (fun _ _ h=>h) (fun _ _ h=>h)).trans (K:=D) (q10z (b:=w.heap.size+1) (k:=0)) (fun _ _ h=>h) (fun j hj e=>by omega)⟩
 obtain⟨w5,hw5⟩:∃W,w4.setCell ⟨w.heap.size+1,0,none⟩ (.int .i64 0)=W:=⟨_,rfl⟩
 have hb5:Below w2.heap.size w2 w5:=by rw[←hw5]; exact blN HB4.out (setCell_again HZ4.out)
 have HM5:=Lib.hid (HM.out.below hb5)
 have HB5:=Lib.hid hb5
 obtain⟨sec,hsec⟩:∃s,q2z ⟨ga,gb,gc⟩ i=s:=⟨_,rfl⟩
 have x5:w5.cell? ⟨Bf,5,none⟩=some (.int .i64 sec):=by rw[←hsec]; exact cellOf (k:=5) HM5.out.core.box rfl
 have y0:w5.cell? ⟨w.heap.size+1,0,none⟩=some (.int .i64 0):=cellOf (k:=0) (q1z (blN hb2 hb5) HZ1.out) rfl
 rw[hw5]
 have hmu:=fun W:World=>q152z W
 have hch:=q90z HM5.out HOK_.out.1 (HOK_.out.last (by show(0:Nat)≤1000000; decide)) (by show(0:Nat)≤1000000; decide) (q2z ⟨ga,gb,gc⟩ i) 0 (q19z (bare F.gen).node) (.slice none 0 0) [] (RowAt.void _ 1) (by show(0:Nat)≤100000; decide)
 unfold pt at hch
 rw[hTT,hsec] at hch
 have HMU:=Lib.hid hmu
 have HCH:=Lib.hid hch
 clear hmu hch
 have HKB:Hid (∀W,Below w2.heap.size w2 W→W.cell? ⟨w.heap.size,0,none⟩=some (.int .i64 ga)∧W.cell? ⟨w.heap.size,1,none⟩=some (.int .i64 gb)∧W.cell? ⟨w.heap.size,2,none⟩=some (.int .i64 gc)):=fun W hW=>(HQ4.out W hW).1
 clear hw5 hb5
 go_wp2_with fail
 refine(HMU.out _).mono ?_
 rintro e w6 ⟨rfl,hw6⟩
 replace hw6:=hw6.symm
 subst hw6
 go_wp2_with fail
 refine HCH.out.mono ?_
 intro e w7 hd
 obtain⟨hd1,hT7⟩:=hd
 rcases hd1 with ⟨h0,rfl,vm7,D7,hM7,hf7⟩ | ⟨h0,rfl⟩
 ·have hN:=(Side.change_last h0).2
  have h0':S.changeC (q2z ⟨ga,gb,gc⟩ i) 0 (q19z (bare F.gen).node) []=0:=by rw[hTT,hsec]; exact h0
  have HC0:Hid ((⟨S,F,[]⟩:BSt).wipedC ⟨ga,gb,gc⟩ i []=0):=h0'
  obtain⟨T2,hT2⟩:∃T,(⟨S,F,[]⟩:BSt).wiped ⟨ga,gb,gc⟩ i []=T:=⟨_,rfl⟩
  have eT2:(⟨S,F,[]⟩:BSt).chg sec 0 TT []=T2:=by rw[←hT2,←hTT,←hsec]; rfl
  have hT2f:T2.F=F∧T2.made.length=1:=by rw[←hT2]; exact⟨rfl,rfl⟩
  have hT2F:Fine T2:=by rw[←hT2]; exact HOK_.out.chg (by show(0:Nat)≤1000000; decide) _ _ _ _
  obtain⟨fst,hfst⟩:∃x:Int,(S.deps.last:Int)+1=x:=⟨_,rfl⟩
  rw[hN,hfst]
  rw[eT2] at hM7
  obtain⟨L,hL⟩:∃l,F.blocks ++ [F.more]=l:=⟨_,rfl⟩
  have hLlen:L.length=41:=by rw[←hL,List.length_append,HBD.out.1]; rfl
  have hLbd:∀b∈L,0≤b∧b<65536:=by
   intro b hb
   rw[←hL] at hb
   rcases List.mem_append.1 hb with hb | hb
   ·exact HBD.out.2 b hb
   ·rw[List.mem_singleton.1 hb]
    exact(q171z HS.out.gok HS.out.fits).2.2.2.2.2.1
  have hcC:(⟨S,F,[]⟩:BSt).clearC ⟨ga,gb,gc⟩ i []=thenC (BSt.gonesC ⟨ga,gb,gc⟩ fst L T2) ((BSt.gones ⟨ga,gb,gc⟩ fst L T2).leftC ⟨ga,gb,gc⟩ i fst):=by
   unfold BSt.clearC
   rw[HC0.out,q8z rfl,hT2]
   dsimp only
   rw[hfst,hL]
  have hcT:(⟨S,F,[]⟩:BSt).clear ⟨ga,gb,gc⟩ i []=(BSt.gones ⟨ga,gb,gc⟩ fst L T2).left ⟨ga,gb,gc⟩ i fst:=by
   unfold BSt.clear
   rw[hT2]
   dsimp only
   rw[hfst,hL]
  obtain⟨mo,hmo⟩:∃m,F.more=m:=⟨_,rfl⟩
  obtain⟨BL,hBL⟩:∃l,F.blocks=l:=⟨_,rfl⟩
  have hlen:BL.length=40:=by rw[←hBL]; exact HBD.out.1
  have x20a:=cellOf (k:=20) hM7.core.box rfl
  have x20:w7.cell? ⟨Bf,20,none⟩=some (.slice (some ⟨vg,0,none⟩) 40 40):=x20a
  have x19a:=cellOf (k:=19) hM7.core.box rfl
  have x19:w7.cell? ⟨Bf,19,none⟩=some (.int .i64 mo):=by rw[←hmo,←hT2f.1]; exact x19a
  have hown:OwnR 3 1 intC W1.heap.size w7 (.slice (some ⟨vg,0,none⟩) 40 40) BL:=by rw[←hBL,←hT2f.1]; exact hM7.core.blk
  obtain⟨W8,hW8⟩:∃W,w7.drew.alloc (.cells #[.int .i64 mo] 3)=W:=⟨_,rfl⟩
  have hb8:Below w7.heap.size w7 W8:=by rw[←hW8]; exact bl1 (blD (Below.refl _ _)) _
  have hz8:W8.heap[w7.heap.size]? = some (.cells #[.int .i64 mo] 3 (0,0)):=by rw[←hW8]; exact q3z w7.drew _
  obtain⟨ia,ib,ic,id,ie⟩:=info_parts q82z
  have hown8:=hown.below hb8
  unfold OwnR at hown8
  rw[hlen] at hown8
  have hw8:W1.heap.size≤W8.heap.size:=Nat.le_trans (hM7.core.tn.size) hb8.size
  obtain⟨cap9,w9,hr9,hown9,hb9⟩:=run_append_full (P:=Tryz.prog) W8 W1.heap.size 58 58 3 ia _ 1 8 Tryz.underlying58 ib ic id ie rfl (by decide) vg 40 _ hown8 ⟨w7.heap.size,0,none⟩ 1 1 [.int .i64 mo] rfl (World.news_of_block (cs:=#[.int .i64 mo]) (t:=3) (fr:=(0,0)) hz8) (by simp[Value.oneCell']) (by omega) (by unfold maxLen; omega) (by omega) hw8
  have hrow:OwnR 3 1 intC W1.heap.size w9 (.slice (some ⟨W8.heap.size,0,none⟩) 41 cap9) L:=by
   have:=OwnR.snoc (f:=intC) (x:=mo) hown9 rfl (by rw[hlen])
   rw[←hBL,←hmo,hL] at this
   exact this
  have HM7:=Lib.hid hM7
  have hS7:∀W,Below w7.heap.size w7 W→W.cell? ⟨Bf,20,none⟩=some (.slice (some ⟨vg,0,none⟩) 40 40)∧W.cell? ⟨Bf,19,none⟩=some (.int .i64 mo):=fun W hW=>⟨(hW.cell (p:=⟨Bf,20,none⟩) HM7.out.core.bf).trans x20,(hW.cell (p:=⟨Bf,19,none⟩) HM7.out.core.bf).trans x19⟩
  have hSd:=hS7 w7.drew (blD (Below.refl _ _))
  have HB8:=Lib.hid hb8
  have HB9:=Lib.hid (blN hb8 hb9)
  have HR9:=Lib.hid hr9
  have HRow:=Lib.hid hrow
  have HL:=Lib.hid (And.intro hLlen hLbd)
  have HTF:=Lib.hid (And.intro hT2F hT2f.2)
  have HLT:Hid (w7.heap.size≤W8.heap.size∧W8.heap.size≤w9.heap.size):=⟨hb8.size,hb9.size⟩
  have HI7:Hid (∀W,Turn D W1 W→W.cell? ⟨w.heap.size,0,none⟩=some (.int .i64 ga)∧W.cell? ⟨w.heap.size,1,none⟩=some (.int .i64 gb)∧W.cell? ⟨w.heap.size,2,none⟩=some (.int .i64 gc)):=fun W hT=>by
   have hz:=HKH.out
   have h1:=hT.heap hz (fun hd=>by have:=hD _ hd; omega)
   exact⟨cellOf (k:=0) h1 rfl,cellOf (k:=1) h1 rfl,cellOf (k:=2) h1 rfl⟩
  have HS7:=Lib.hid hS7
  have HCC:=Lib.hid hcC
  have HCT:=Lib.hid hcT
  clear hS7 hcC hcT
  clear hM7 x20a x19a hown hown8 hb8 hb9 hr9 hown9 hz8 hrow hN h0' hf7 hT7
  clear hT2 eT2 hT2f hT2F hfst hL hLlen hLbd hmo hBL hlen hw8 h0
  go_wp2_with fail
  clear x20 x19
  refine q22z (fun W=>W.cell? ⟨Bf,20,none⟩=some (.slice (some ⟨vg,0,none⟩) 40 40)∧W.cell? ⟨Bf,19,none⟩=some (.int .i64 mo)) 10 (by kernel_rfl) (by first | trivial | assumption) (fun hHeld hX0=>?_)
  refine tkU 0 ?_ rfl (hQ:=(q56z (q31z _ _ (by decide) (by decide)))); clear hX0; intro hX0; simp only[Act.put,ps0]
  refine tkU 1 ?_ rfl (hQ:=(q56z (q31z _ _ (by decide) (by decide)))); clear hX0; intro hX0; simp only[Act.put,ps0]
  refine tkU 2 ?_ rfl (hQ:=(q56z (q31z _ _ (by decide) (by decide)))); clear hX0; intro hX0; simp only[Act.put,ps0]
  refine tkU 3 ?_ rfl (hQ:=(q56z (q31z _ _ (by decide) (by decide)))); clear hX0; intro hX0; simp only[Act.put,ps0]
  refine tkU 4 ?_ rfl (hQ:=(q56z (q31z _ _ (by decide) (by decide)))); clear hX0; intro hX0; simp only[Act.put,ps0]
  refine tkU 5 ?_ rfl (hQ:=(q56z (q31z _ _ (by decide) (by decide)))); clear hX0; intro hX0; simp only[Act.put,ps0]
  refine tkU 6 ?_ rfl (hQ:=(q56z (q31z _ _ (by decide) (by decide)))); clear hX0; intro hX0; simp only[Act.put,ps0]
  refine tkU 7 ?_ rfl (hQ:=(q56z (q31z _ _ (by decide) (by decide)))); clear hX0; intro hX0; simp only[Act.put,ps0]
  refine tkU 8 ?_ rfl (hQ:=(q56z (q31z _ _ (by decide) (by decide)))); clear hX0; intro hX0; simp only[Act.put,ps0]
  refine pkU 12 ?_ rfl (hQ:=(q56z (q31z _ _ (by decide) (by decide)))); clear hX0; intro hX0; simp only[Act.put,ps0]
  refine AnyU.each (is:=[9]) (by kernel_rfl) (by simp) (EachU.cons hX0 (by kernel_rfl) rfl (fun K hK=>?_) EachU.nil)
  try simp only[gg0]
  go_simp
  try simp only
  refine hK.out _ _ (fun _=>?hkS) (fun hHeld2 hX1=>?_)
  case hkS=>
   exact HS7.out _ HB8.out
  clear hHeld; have hHeld:=hHeld2 (by decide)
  clear hK K hHeld2 hX0; have hX0:=hX1; clear hX1
  try simp only[Act.put,ps0]
  refine AnyU.each (is:=[10]) (by kernel_rfl) (by simp) (EachU.cons hX0 (by kernel_rfl) rfl (fun K hK=>?_) EachU.nil)
  refine step_append_run (by rfl) _ _ _ (by rfl) (w':=w9) (r:=.slice (some ⟨W8.heap.size,0,none⟩) 41 cap9) ?hr (by rfl) (by rfl) ?_
  case hr=>exact HR9.out
  try simp only
  refine hK.out _ _ (fun h=>absurd h (by decide)) (fun _ hX1=>?_)
  clear hK K hX0; have hX0:=hX1; clear hX1
  try simp only[Act.put,ps0]
  refine pkU 11 ?_ rfl (hQ:=(q56z (q31z _ _ (by decide) (by decide)))); clear hX0; intro hX0; simp only[Act.put,ps0]
  refine AnyU.done (by kernel_rfl) ?_ _
  have HM9:Hid (GoneRel W1 base B Bd Bf D ⟨ga,gb,gc⟩ i sec F.node (.slice (some ⟨vg,0,none⟩) 40 40) (Foot Bf (.slice (some ⟨vg,0,none⟩) 40 40) vm7 D7) w9 fst L T2 0 T2 vm7 D7 w9):=
   ⟨HM7.out.below HB9.out,fun j hj=>Or.inl hj,Turn.of_below (Below.refl _ _),HTF.out.1,by rw[HTF.out.2]; exact Nat.le_refl _,by rw[List.drop_zero],by rw[List.drop_zero]⟩
  have HFl:Hid (∀j,Foot Bf (.slice (some ⟨vg,0,none⟩) 40 40) vm7 D7 j→j<w7.heap.size):=HM7.out.footLt
  clear hHeld hX0 HR9 HS7 HM7 HB8 HB9 hSd
  go_wp2
  go_loopw [57] (fun q wr=>∃(k:Nat) (t':BSt) (vm:Value) (D':Nat→Prop),k≤41∧q = .int .i64 (k:Int)∧Hid (GoneRel W1 base B Bd Bf D ⟨ga,gb,gc⟩ i sec F.node (.slice (some ⟨vg,0,none⟩) 40 40) (Foot Bf (.slice (some ⟨vg,0,none⟩) 40 40) vm7 D7) w9 fst L T2 k t' vm D' wr)) (fun q _=>41-(intOf q).toNat)
  case atStart=>exact⟨0,T2,vm7,D7,Nat.zero_le _,rfl,HM9⟩
  case round=>
   clear HM9
   obtain⟨k,t',vm,D',hk,rfl,HG⟩:=hrel
   by_cases hlt:k<41
   ·have hrw:OwnR 3 1 intC W1.heap.size wr (.slice (some ⟨W8.heap.size,0,none⟩) 41 cap9) L:=HRow.out.turn HG.out.turn (fun j hj hF=>by
     have h1:=HFl.out j hF
     have h2:=HLT.out.1
     have h3:W8.heap.size=j:=by simpa [Value.ownBlock] using hj
     omega)
    have hiw:Ints wr (.slice (some ⟨W8.heap.size,0,none⟩) 41 cap9) L:=OwnR.row (fun _ _=>rfl) hrw
    obtain⟨ad2,len2,cap2,hsl,-,-,HF2⟩:=RowAt.facts hiw
    obtain⟨rfl,rfl,rfl⟩:=Value.slice.inj hsl
    obtain⟨b2,o2,b,hbo,-,hLk,hc0⟩:=HF2.out k hlt
    have hbo2:=Option.some.inj hbo
    cases hbo2
    have y0:=hc0 0 _ rfl
    rw[Nat.mul_one,Nat.add_zero,Nat.zero_add] at y0
    have hbb:=HL.out.2 b (List.mem_of_getElem? hLk)
    by_cases hb0:b=0
    ·have q2:decide (b > 0)=false:=decide_eq_false (by omega)
     have HG2:=Lib.hid (gone_skip HG.out (by rw[hLk,hb0]))
     clear hrw hiw hsl HF2 hbo hLk hc0 hbb hb0 HG
     go_wp2
     go_roundw
     case rel=>exact⟨k+1,t',vm,D',by omega,by go_num,HG2⟩
     case measure=>simp[intOf]; omega
    ·have q2:decide (b > 0)=true:=decide_eq_true (by omega)
     have hmd:=HG.out.made
     have hfr:=ffree_any HG.out.fm HG.out.fine (by omega) HS.out.gok b fst
     obtain⟨cc,hcc⟩:∃c,t'.goneC ⟨ga,gb,gc⟩ b [fst]=c:=⟨_,rfl⟩
     have hgc:=gone_code HG.out hLk hb0
     have hnx:=fun hc=>@gone_next _ _ _ _ _ _ _ _ _ _ _ _ _ _ _ _ _ _ _ _ _ HG.out (by omega) b hLk hb0 hc
     rw[hcc] at hfr hgc hnx
     unfold pt at hfr
     have HFR:=Lib.hid hfr
     have HGC:=Lib.hid hgc
     have HNX:=Lib.hid hnx
     clear hfr hgc hnx
     clear hrw hiw hsl HF2 hbo hLk hc0 hbb hb0 hmd hcc
     go_wp2_with fail
     refine HFR.out.mono ?_
     rintro e w10 ⟨hd1,hT10⟩
     rcases hd1 with ⟨h0,rfl,vm10,D10,hM10,hf10⟩ | ⟨h0,rfl⟩
     ·have HG2:=Lib.hid (HNX.out h0 hM10 hf10 hT10)
      clear hM10 hf10 hT10 h0
      go_wp2
      go_roundw
      case rel=>exact⟨k+1,_,vm10,D10,by omega,by go_num,HG2⟩
      case measure=>simp[intOf]; omega
     ·have HD:=Lib.hid (HNO.out cc w10 h0 (by rw[HCC.out,HGC.out.1,q33z h0,q33z h0]) (HG.out.fm.all hT10))
      clear hT10 h0
      unfold stopE
      go_wp2
      refine leaves_cons (f:=96) (args:=#[.pointer (some ⟨w.heap.size+1,0,none⟩)]) (by simp) (by simp[go_sem]) ?_
      refine(q76z ⟨w.heap.size+1,0,none⟩ _ (.int .i64 0) [] _ HD.out.cell HD.out.free).mono ?_
      rintro e u' w'' ⟨rfl,rfl,rfl⟩
      have hz8:=HD.out.set
      have hEnd:=HD.out.fin
      clear HD
      generalize World.setCell _ ⟨w.heap.size+1,0,none⟩ _=W7 at hz8 hEnd ⊢
      have u0:=cellOf (k:=0) hz8 rfl
      simp[Leaves,settle,results,Tryz.results27,go_sem,u0]
      exact hEnd
   ·obtain rfl:k=41:=by omega
    have HE:=Lib.hid (HG.out.code.trans (by rw[List.drop_of_length_le (by rw[HL.out.1]; exact Nat.le_refl _)]; rfl:BSt.gonesC ⟨ga,gb,gc⟩ fst (L.drop 41) t' = 0))
    have HE2:=Lib.hid (HG.out.st.trans (by rw[List.drop_of_length_le (by rw[HL.out.1]; exact Nat.le_refl _)]; rfl:BSt.gones ⟨ga,gb,gc⟩ fst (L.drop 41) t' = t'))
    obtain⟨W11,hW11⟩:∃W,wr.alloc (.cells #[.int .i64 fst] 3)=W:=⟨_,rfl⟩
    have hb11:Below wr.heap.size wr W11:=by rw[←hW11]; exact bl2 _
    have hi11:Ints W11 (.slice (some ⟨wr.heap.size,0,none⟩) 1 1) [fst]:=by rw[←hW11]; exact ints_new wr fst
    have hM11:=HG.out.fm.below hb11
    have hmd:=HG.out.made
    have hfi:=afreeInode_any hM11.core.side HG.out.fine.1 (HG.out.fine.last (by omega)) HS.out.gok i _ [fst] hi11 (by show(1:Nat)≤_; decide)
    unfold q39z at hfi
    obtain⟨R,hR⟩:∃R,t'.S.freeInode ⟨ga,gb,gc⟩ i [fst]=R:=⟨_,rfl⟩
    obtain⟨S1,c1,k1⟩:=R
    have HLf:Hid (t'.left ⟨ga,gb,gc⟩ i fst=⟨S1,t'.F,t'.made ++ [c1]⟩∧t'.leftC ⟨ga,gb,gc⟩ i fst=k1):=by unfold BSt.left BSt.leftC; rw[hR]; exact⟨rfl,rfl⟩
    have hno:=fun w3 (hs:q16z W11 base B Bd S1 D' w3)=>fnote_any (hM11.to hs) (by show t'.made.length≤_; omega) c1 k1
    rw[hR] at hfi
    dsimp only at hfi hno
    have HTa:Hid (∀w3 we,q16z W11 base B Bd S1 D' w3→Turn (Foot Bf (.slice (some ⟨vg,0,none⟩) 40 40) vm (fun j=>D' j∨(W11.heap.size≤j∧j<w3.heap.size))) w3 we→Turn D W1 we):=fun w3 we hs hT=>(hM11.to hs).all hT
    unfold gV pt at hfi
    unfold pt at hno
    dsimp only at hfi
    have hi0:=HI7.out wr HG.out.fm.core.tn
    obtain⟨z0,z1,z2⟩:=hi0
    have HNT:=Lib.hid hno
    have HFI:=Lib.hid hfi
    clear hfi
    clear hno hb11 hi11 hM11 hmd hR HM HG HRow HFl HLT
    go_wp2_with fail
    clear z0 z1 z2 hW11
    refine HFI.out.mono ?_
    rintro e w12 ⟨rfl,hs12⟩
    have HN12:=Lib.hid (HNT.out w12 hs12)
    have HTb:=Lib.hid (fun we=>HTa.out w12 we hs12)
    clear hs12 HNT HTa HFI
    go_wp2_with fail
    refine HN12.out.mono ?_
    rintro e w13 ⟨hd1,hT13⟩
    rcases hd1 with ⟨h0,rfl,vm13,D13,hM13,-⟩ | ⟨h0,rfl⟩
    ·have HD:=Lib.hid (HOK.out _ vm13 D13 w13 (by rw[HCC.out,HE.out,q8z rfl,HE2.out,HLf.out.2]; exact h0) (HCT.out.trans (by rw[HE2.out])) (by rw[hsec,HLf.out.1]; exact hM13))
     have x21a:=cellOf (k:=21) hM13.core.box rfl
     have x21:w13.cell? ⟨Bf,21,none⟩=some vm13:=x21a
     have c6:=HD.out.cell
     have v6:=HD.out.free
     clear x21a hM13 hT13 h0
     go_wp2
     refine leaves_cons (f:=96) (args:=#[.pointer (some ⟨w.heap.size+1,0,none⟩)]) (by simp) (by simp[go_sem]) ?_
     refine(q75z ⟨w.heap.size+1,0,none⟩ _).mono ?_
     rintro e u' w'' ⟨rfl,rfl,rfl⟩
     have hz8:=HD.out.set
     have hEnd:=HD.out.fin
     clear HD
     generalize World.setCell _ ⟨w.heap.size+1,0,none⟩ (.int .i64 0)=W7 at hz8 hEnd ⊢
     have u0:=cellOf (k:=0) hz8 rfl
     simp[Leaves,settle,results,Tryz.results27,go_sem,u0]
     exact hEnd
    ·have HD:=Lib.hid (HNO.out k1 w13 h0 (by rw[HCC.out,HE.out,q8z rfl,HE2.out,HLf.out.2]) (HTb.out _ hT13))
     clear hT13 h0
     unfold stopE
     go_wp2
     refine leaves_cons (f:=96) (args:=#[.pointer (some ⟨w.heap.size+1,0,none⟩)]) (by simp) (by simp[go_sem]) ?_
     refine(q76z ⟨w.heap.size+1,0,none⟩ _ (.int .i64 0) [] _ HD.out.cell HD.out.free).mono ?_
     rintro e u' w'' ⟨rfl,rfl,rfl⟩
     have hz8:=HD.out.set
     have hEnd:=HD.out.fin
     clear HD
     generalize World.setCell _ ⟨w.heap.size+1,0,none⟩ _=W7 at hz8 hEnd ⊢
     have u0:=cellOf (k:=0) hz8 rfl
     simp[Leaves,settle,results,Tryz.results27,go_sem,u0]
     exact hEnd
 ·have HD:=Lib.hid (HNO.out (S.changeC sec 0 TT []) w7 h0 (by
   have e:(⟨S,F,[]⟩:BSt).wipedC ⟨ga,gb,gc⟩ i []=S.changeC sec 0 TT []:=by rw[←hTT,←hsec]; rfl
   unfold BSt.clearC
   rw[e,q33z h0]) (HM5.out.all hT7))
  clear h0 hT7
  unfold stopE
  go_wp2
  refine leaves_cons (f:=96) (args:=#[.pointer (some ⟨w.heap.size+1,0,none⟩)]) (by simp) (by simp[go_sem]) ?_
  refine(q76z ⟨w.heap.size+1,0,none⟩ _ (.int .i64 0) [] _ HD.out.cell HD.out.free).mono ?_
  rintro e u' w'' ⟨rfl,rfl,rfl⟩
  have hz8:=HD.out.set
  have hEnd:=HD.out.fin
  clear HD
  generalize World.setCell _ ⟨w.heap.size+1,0,none⟩ _=W7 at hz8 hEnd ⊢
  have u0:=cellOf (k:=0) hz8 rfl
  simp[Leaves,settle,results,Tryz.results27,go_sem,u0]
  exact hEnd
end
end Go.Proofs.YtgofmnhfajmbfaaGreatDoor
