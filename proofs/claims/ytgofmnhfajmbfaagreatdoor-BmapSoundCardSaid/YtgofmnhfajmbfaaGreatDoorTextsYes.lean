import Derived.Test.YtgofmnhfajmbfaaGreatDoorTextsWrite
namespace Go.Proofs.YtgofmnhfajmbfaaGreatDoor
open Go Go.RowKit Txt Sp
section
set_option maxHeartbeats 8000000
set_option maxRecDepth 20000 in
theorem doneYes_any {w wr:World} {g:Sp.Geom} {B Bd tb m:Nat} {S:Sp.Side} {D:Nat→Prop} {t0 t1:List UInt8} (h:TMem w B Bd tb S D t0 t1 wr) (ht:Texts2 g S t0 t1 m) (hm:m<12) (k:Bool) (off:Int) (z:Nat) (hz:q94z off 2400=(z:Int)) (x:ByteArray) (hx:x.size≤160) (hx0:x.data.toList≠[]) (p:Value) (n:Nat) (hgn:g.groups=(n:Int)) (hn1:n≤1000)
 (S':Sp.Side) (ht':Texts2 g S' (if k then t0 else wrT t0 z x.data.toList) (if k then wrT t1 z x.data.toList else t1) (m+1)) (hdk:S'.disk=S.disk)
 (hyes:∀(W:World) (base B Bd:Nat) (D:Nat→Prop) (vk:Value),SideAt W base B Bd S D→(∀j,D j→j<W.heap.size)→(∀W',Turn D W W'→Ints W' vk (grpL n)) →
   Calls Tryz.prog 83 #[pt B,gV g,.int .i64 (noK k),.int .i64 (z:Int),.string x,vk] W fun e w'=>∃v,e = .returned (.tuple #[v,.int .i64 0])∧q18z W base B Bd S' D w') :
 Calls Tryz.prog 23 #[.pointer (some ⟨tb,0,none⟩),pt B,gV g,doV k off x p] wr (q56z w g S B Bd tb m D wr):=by
 have ham:=fun W:World=>q147z W off 2400 (by decide) (by decide)
 rw[hz] at ham
 simp only[show((2400:Nat):Int)=2400 from rfl] at ham
 have hgr:=fun W:World=>groups16_any W (g:=g) n hgn hn1
 have hll:=(texts_last ht (by omega)).2
 obtain⟨ga,gb,gc⟩:=g
 obtain⟨W0,hW0⟩:=zx ((wr.alloc (.cells #[.int .i64 ga,.int .i64 gb,.int .i64 gc] 23)).alloc (.cells #[.bool k,.int .i64 off,.string x,p] 60))
 have hb0:Below wr.heap.size wr W0:=by rw[←hW0]; exact bl1 (bl2 _) _
 have hgb:W0.heap[wr.heap.size]? = some (.cells #[.int .i64 ga,.int .i64 gb,.int .i64 gc] 23 (0,0)):=by
  rw[←hW0]
  exact heapOld (bl2 _) (heapNew wr _)
 have hxb:W0.heap[wr.heap.size+1]? = some (.cells #[.bool k,.int .i64 off,.string x,p] 60 (0,0)):=by
  have:=heapNew (wr.alloc (.cells #[.int .i64 ga,.int .i64 gb,.int .i64 gc] 23)) (.cells #[.bool k,.int .i64 off,.string x,p] 60)
  rw[hW0] at this
  simpa using this
 have h0:=h.below hb0
 have hfk:=softFork_any h0.side (by omega)
 have HS:Hid (∀W,Below W0.heap.size W0 W→W.cell? ⟨wr.heap.size,0,none⟩=some (.int .i64 ga)∧W.cell? ⟨wr.heap.size,1,none⟩=some (.int .i64 gb)∧W.cell? ⟨wr.heap.size,2,none⟩=some (.int .i64 gc)∧W.cell? ⟨wr.heap.size+1,2,none⟩=some (.string x)):=fun W hW=>
  have hh:=heapOld hW hgb
  ⟨zc 0 hh,zc 1 hh,zc 2 hh,zc 2 (heapOld hW hxb)⟩
 have x0:W0.cell? ⟨wr.heap.size+1,0,none⟩=some (.bool k):=zc 0 hxb
 have x1:W0.cell? ⟨wr.heap.size+1,1,none⟩=some (.int .i64 off):=zc 1 hxb
 have x2:W0.cell? ⟨wr.heap.size+1,2,none⟩=some (.string x):=zc 2 hxb
 have q1:(x.toList == ([]:List UInt8))=false:=by rw[Lib.toList_data]; exact beq_eq_false_iff_ne.2 hx0
 have q2:decide ((x.size:Int) > 160)=false:=decide_eq_false (by omega)
 have HWf:Hid (∀(W W2:World) (B':Nat) (D':Nat→Prop) (vk:Value),SideAt W W0.heap.size B' Bd S D'→(∀j,D' j→W0.heap.size≤j∧j<W.heap.size)→Below W0.heap.size W0 W→Below W.heap.size W W2→OwnR 3 1 intC W.heap.size W2 vk (grpL n) →
  Calls Tryz.prog 83 #[pt B',gV ⟨ga,gb,gc⟩,.int .i64 (noK k),.int .i64 (z:Int),.string x,vk] W2 fun e w'=>∃v,e = .returned (.tuple #[v,.int .i64 0])∧Below W0.heap.size W0 w'):=by
  intro W W2 B' D' vk hs hl hb hb2 hv
  refine(hyes W2 W0.heap.size B' Bd D' vk (hs.below hb2) (fun j hj=>Nat.lt_of_lt_of_le (hl j hj).2 hb2.size) (fun W' hT=>?_)).mono ?_
  ·exact OwnR.row (f:=intC) (fun _ _=>rfl) (hv.turn hT (fun q hq hd=>by have:=(hv.lt q hq).1; have:=(hl q hd).2; omega))
  ·rintro e w' ⟨v,rfl,hs2,K,hK,hT⟩
   refine⟨v,rfl,(blN hb hb2).trans (hT.below (fun j hj=>(hl j (hK j hj)).1) ?_)⟩
   exact Nat.le_trans hb.size hb2.size
 have HWs:Hid (∀(W W2:World) (vk:Value),Below W0.heap.size W0 W→Below W.heap.size W W2→OwnR 3 1 intC W.heap.size W2 vk (grpL n) →
  Calls Tryz.prog 83 #[pt B,gV ⟨ga,gb,gc⟩,.int .i64 (noK k),.int .i64 (z:Int),.string x,vk] W2 fun e w'=>∃v,e = .returned (.tuple #[v,.int .i64 0])∧q18z W2 0 B Bd S' D w'):=by
  intro W W2 vk hb hb2 hv
  have hW:=h0.below hb
  have hW2:=hW.below hb2
  exact hyes W2 0 B Bd D vk hW2.side hW2.lt (fun W' hT=>OwnR.row (f:=intC) (fun _ _=>rfl) (hv.turn hT (fun q hq hd=>by have:=(hv.lt q hq).1; have:=hW.lt q hd; omega)))
 obtain⟨Tk,hTk⟩:=zx ((if k then t1 else t0))
 have ht2:Texts2 ⟨ga,gb,gc⟩ S' (if k then t0 else wrT Tk z x.data.toList) (if k then wrT Tk z x.data.toList else t1) (m+1):=by
  rw[←hTk]
  cases k with
  | false=>exact ht'
  | true=>exact ht'
 have hTl:Tk.length≤2560:=by
  obtain⟨F,G,Y,r,hb,f0,f1,hp⟩:=ht
  rw[←hTk]
  cases k with
  | false=>exact f0.few
  | true=>exact f1.few
 have hz24:z≤2400:=by have:=amongJ_bd off 2400 (by decide); omega
 obtain⟨N,hN⟩:=zx (max Tk.length (z+x.size))
 have HEnd:Hid (∀w2 w3,Below W0.heap.size W0 w2→q18z w2 0 B Bd S' D w3→∃W4 W5 W6 ad q1 q2,
  w3.drew.cell? ⟨tb,if k then 1 else 0,none⟩=some (.slice ad Tk.length Tk.length)∧w3.drew.cell? ⟨wr.heap.size+1,2,none⟩=some (.string x) ∧
  (Instr.makeSlice 47 (.int .i64 (N:Int)) (.int .i64 (N:Int))).run Tryz.prog w3.drew = .ok (.slice (some ⟨w3.heap.size,0,none⟩) N N) W4 ∧
  W4.cell? ⟨tb,if k then 1 else 0,none⟩=some (.slice ad Tk.length Tk.length)∧(Builtin.copy_ #[47,47] 3 #[.slice (some ⟨w3.heap.size,0,none⟩) N N,.slice ad Tk.length Tk.length]).run Tryz.prog W4 = .ok (goInt (q1:Nat)) W5 ∧
  W5.drew.cell? ⟨wr.heap.size+1,2,none⟩=some (.string x)∧(Builtin.copy_ #[47,9] 3 #[.slice (some ⟨w3.heap.size,z,none⟩) (N-z) (N-z),.string x]).run Tryz.prog W5.drew = .ok (goInt (q2:Nat)) W6 ∧
  (∃y,W6.cell? ⟨tb,if k then 1 else 0,none⟩=some y)∧W6.frozen? ⟨tb,if k then 1 else 0,none⟩=false∧q56z w ⟨ga,gb,gc⟩ S B Bd tb m D wr (.returned (.bool true)) (W6.setCell ⟨tb,if k then 1 else 0,none⟩ (.slice (some ⟨w3.heap.size,0,none⟩) N N))):=by
  intro w2 w3 hb hs
  have hbr:=blN hb0 hb
  obtain⟨ia,ib,ic,id,ie⟩:=info_parts infoU8
  have hxs:x.data.toList.length=x.size:=Array.length_toList
  have hmk:=run_make_bytes (P:=Tryz.prog) w3.drew Tryz.underlying47 ib ic id ie N (by omega)
  have hbd:Below w3.heap.size w3 w3.drew:=blD (Below.refl _ _)
  have h3:=(h.below hbr).sideTo hs
  have h3d:=h3.below hbd
  have hb4:Below w3.heap.size w3 (w3.drew.alloc (q29z (zeros N) 5 (0,0))):=bl1 hbd _
  have h4:=h3.below hb4
  obtain⟨ad,hc,htx⟩:=h4.read k
  obtain⟨ad3,hc3,-⟩:=h3d.read k
  rw[hTk] at hc htx hc3
  have he:(w3.drew.alloc (q29z (zeros N) 5 (0,0))).cell? ⟨tb,if k then 1 else 0,none⟩=w3.drew.cell? ⟨tb,if k then 1 else 0,none⟩:=(bl2 (w:=w3.drew) (q29z (zeros N) 5 (0,0))).cell (p:=⟨tb,if k then 1 else 0,none⟩) h3d.tlt
  rw[he,hc3] at hc
  cases hc
  have hz0:=heapNew w3.drew (q29z (zeros N) 5 (0,0))
  obtain⟨q,hcp⟩:=htx.copy hz0 3 N
  have hz5:=setRow_bytes hz0 (cutT Tk N)
  have hT5:Turn (fun j=>j=w3.heap.size) (w3.drew.alloc (q29z (zeros N) 5 (0,0))) ((w3.drew.alloc (q29z (zeros N) 5 (0,0))).setRow w3.drew.heap.size (bytesV (cutT Tk N)).toArray):=setRow_turn
  obtain⟨W5,hW5⟩:=zx ((w3.drew.alloc (q29z (zeros N) 5 (0,0))).setRow w3.drew.heap.size (bytesV (cutT Tk N)).toArray)
  rw[hW5] at hcp hz5 hT5
  have hb5:Below w3.heap.size w3 W5:=hb4.trans (hT5.below (fun j e=>Nat.le_of_eq (by have e:j=w3.heap.size:=e; exact e.symm)) hb4.size)
  have hb5d:Below w3.heap.size w3 W5.drew:=hb5.trans ((blD (Below.refl _ _):Below W5.heap.size W5 W5.drew).mono hb5.size)
  have hs8:(Tryz.prog.info? 5).map (·.size)=some 1:=by kernel_rfl
  have hcp2:=run_copy_at (P:=Tryz.prog) W5.drew (dT:=47) (sT:=9) (ty:=3) (m:=(0,0)) Tryz.underlying47 hs8 (g:=w3.heap.size) (off:=z) (l:=cutT Tk N) hz5 (Or.inl rfl) x (n:=N-z) (by omega) (by rw[q129z]; omega) (N-z)
  rw[wrT_cut (by rw[hxs]; exact hN.symm)] at hcp2
  have hT6:Turn (fun j=>j=w3.heap.size) W5.drew (W5.drew.setRow w3.heap.size (bytesV (wrT Tk z x.data.toList)).toArray):=setRow_turn
  have hz6:=setRow_bytes (w:=W5.drew) hz5 (wrT Tk z x.data.toList)
  have hb6:Below w3.heap.size w3 (W5.drew.setRow w3.heap.size (bytesV (wrT Tk z x.data.toList)).toArray):=hb5d.trans (hT6.below (fun j e=>Nat.le_of_eq (by have e:j=w3.heap.size:=e; exact e.symm)) hb5d.size)
  have hend:=done_end h hbr hs ht2 hdk hb6 hz6 (Nat.le_refl _)
  rw[wrT_length,hxs,hN] at hend
  have hx3:w3.heap[wr.heap.size+1]? = some (.cells #[.bool k,.int .i64 off,.string x,p] 60 (0,0)):=by
   obtain⟨-,K,hK,hT⟩:=hs
   exact hT.heap (heapOld hb hxb) (fun hk=>by have:=h.lt _ (hK _ hk); omega)
  exact⟨_,_,_,ad,q,_,hc3,zc 2 (heapOld hbd hx3),hmk,(he.trans hc3),hcp,zc 2 (heapOld hb5d hx3),hcp2,hend⟩
 obtain⟨dp,hdp⟩:=zx (q56z w ⟨ga,gb,gc⟩ S B Bd tb m D wr)
 rw[hdp] at HEnd ⊢
 unfold gV at hgr HWf HWs ⊢
 unfold pt at *
 unfold doV
 dsimp only at hgr
 have HAM:=zh ham
 have HFK:=zh hfk
 have HGR:=zh hgr
 clear ham hfk hgr
 have e1:IntKind.i64.wrap ((z:Int)+(x.size:Int))=((z+x.size:Nat):Int):=by rw[IntWalk.i64_in _ (by omega)]; omega
 have hzN:z≤N:=by omega
 have hNz:¬N=z:=fun e=>hx0 (List.eq_nil_of_length_eq_zero (by have:x.data.toList.length=x.size:=Array.length_toList; omega))
 have e2:max ((Tk.length:Nat):Int) ((z:Int)+(x.size:Int))=(N:Int):=by omega
 clear h ht hm hyes hll hb0 hgb hxb h0 hz hdp hgn hx hx0 ht' hdk ht2 hTk
 cases k with
 | false=>
   simp only[noK,Bool.false_eq_true,if_false] at HWf HWs HEnd
   go_enter Tryz.func23,Tryz.ntmps23
   go_wp2_with fail
   refine(HAM.out _).mono ?_
   rintro e w1 ⟨rfl,hw1⟩
   replace hw1:=hw1.symm
   subst hw1
   go_wp2_with fail
   clear x0 x1 x2 hW0
   refine HFK.out.mono ?_
   rintro e w2 ⟨B',D',rfl,hs2,hb2,hl2⟩
   have HWW:=zh (fun W2 vk (h1:Below w2.heap.size w2 W2) h2=>HWf.out w2 W2 B' D' vk hs2 hl2 hb2 h1 h2)
   have HS2:=zh (fun W (hW:Below w2.heap.size w2 W)=>HS.out W (blN hb2 hW))
   have hSd:=HS2.out w2.drew (blD (Below.refl _ _))
   clear hs2 hl2 hb2 HWf HFK
   go_upto_region 17 with fail
   refine wp_region_last (fun W=>W.cell? ⟨wr.heap.size,0,none⟩=some (.int .i64 ga)∧W.cell? ⟨wr.heap.size,1,none⟩=some (.int .i64 gb)∧W.cell? ⟨wr.heap.size,2,none⟩=some (.int .i64 gc)∧W.cell? ⟨wr.heap.size+1,2,none⟩=some (.string x)) 9 (by kernel_rfl) (by first | trivial | assumption) (fun hHeld hX0=>?_)
   refine tkU 0 ?_; clear hX0; intro hX0; simp only[Act.put,ps0]
   refine tkU 1 ?_; clear hX0; intro hX0; simp only[Act.put,ps0]
   refine tkU 2 ?_; clear hX0; intro hX0; simp only[Act.put,ps0]
   refine tkU 3 ?_; clear hX0; intro hX0; simp only[Act.put,ps0]
   refine tkU 4 ?_; clear hX0; intro hX0; simp only[Act.put,ps0]
   refine tkU 5 ?_; clear hX0; intro hX0; simp only[Act.put,ps0]
   refine tkU 6 ?_; clear hX0; intro hX0; simp only[Act.put,ps0]
   refine tkU 7 ?_; clear hX0; intro hX0; simp only[Act.put,ps0]
   refine AnyU.each (is:=[8]) (by kernel_rfl) (by simp) (EachU.cons hX0 (by kernel_rfl) rfl (fun K hK=>?_) EachU.nil)
   try simp only[gg0]
   go_simp
   refine(HGR.out _).mono ?_
   rintro e w3 ⟨vk,rfl,hv3,hb3⟩
   have hb3':Below w2.heap.size w2 w3:=blN (blD (Below.refl _ _)) hb3
   have HWX:=zh (HWW.out w3 vk hb3' hv3)
   have hS3:=HS2.out w3 hb3'
   clear hv3 hb3 hb3' HWW
   try simp only
   refine hK.out _ _ (fun _=>?hkS) (fun hHeld2 hX1=>?_)
   case hkS=>
    exact hS3
   clear hHeld; have hHeld:=hHeld2 (by decide)
   clear hK K hHeld2 hX0; have hX0:=hX1; clear hX1
   try simp only[Act.put,ps0]
   refine AnyU.each (is:=[9]) (by kernel_rfl) (by simp) (EachU.cons hX0 (by kernel_rfl) rfl (fun K hK=>?_) EachU.nil)
   try simp only[gg0]
   go_simp
   refine HWX.out.mono ?_
   rintro e w4 ⟨v4,rfl,hb4⟩
   try simp only
   refine hK.out _ _ (fun h=>absurd h (by decide)) (fun _ hX1=>?_)
   clear hK K hX0; have hX0:=hX1; clear hX1
   try simp only[Act.put,ps0]
   refine pkU 10 ?_; clear hX0; intro hX0; simp only[Act.put,ps0]
   refine pkU 11 ?_; clear hX0; intro hX0; simp only[Act.put,ps0]
   refine pkU 12 ?_; clear hX0; intro hX0; simp only[Act.put,ps0]
   refine pkU 13 ?_; clear hX0; intro hX0; simp only[Act.put,ps0]
   refine pkU 14 ?_; clear hX0; intro hX0; simp only[Act.put,ps0]
   refine AnyU.done (by kernel_rfl) ?_ _
   have HB4:=zh hb4
   have hSd2:=HS.out w4.drew (blN hb4 (blD (Below.refl _ _)))
   clear hb4 hSd hHeld hX0 hS3 HWX HS2
   go_upto_region 20 with fail
   refine wp_region_last (fun W=>W.cell? ⟨wr.heap.size,0,none⟩=some (.int .i64 ga)∧W.cell? ⟨wr.heap.size,1,none⟩=some (.int .i64 gb)∧W.cell? ⟨wr.heap.size,2,none⟩=some (.int .i64 gc)∧W.cell? ⟨wr.heap.size+1,2,none⟩=some (.string x)) 9 (by kernel_rfl) (by first | trivial | assumption) (fun hHeld hX0=>?_)
   refine tkU 0 ?_; clear hX0; intro hX0; simp only[Act.put,ps0]
   refine tkU 1 ?_; clear hX0; intro hX0; simp only[Act.put,ps0]
   refine tkU 2 ?_; clear hX0; intro hX0; simp only[Act.put,ps0]
   refine tkU 3 ?_; clear hX0; intro hX0; simp only[Act.put,ps0]
   refine tkU 4 ?_; clear hX0; intro hX0; simp only[Act.put,ps0]
   refine tkU 5 ?_; clear hX0; intro hX0; simp only[Act.put,ps0]
   refine tkU 6 ?_; clear hX0; intro hX0; simp only[Act.put,ps0]
   refine tkU 7 ?_; clear hX0; intro hX0; simp only[Act.put,ps0]
   refine AnyU.each (is:=[8]) (by kernel_rfl) (by simp) (EachU.cons hX0 (by kernel_rfl) rfl (fun K hK=>?_) EachU.nil)
   try simp only[gg0]
   go_simp
   refine(HGR.out _).mono ?_
   rintro e w5 ⟨vk5,rfl,hv5,hb5⟩
   have hb5':Below w4.heap.size w4 w5:=blN (blD (Below.refl _ _)) hb5
   have HWX:=zh (HWs.out w4 w5 vk5 HB4.out hb5' hv5)
   have HB5:=zh (blN HB4.out hb5')
   have hS5:=HS.out w5 (blN HB4.out hb5')
   clear hv5 hb5 hb5' HWs
   try simp only
   refine hK.out _ _ (fun _=>?hkS) (fun hHeld2 hX1=>?_)
   case hkS=>
    exact hS5
   clear hHeld; have hHeld:=hHeld2 (by decide)
   clear hK K hHeld2 hX0; have hX0:=hX1; clear hX1
   try simp only[Act.put,ps0]
   refine AnyU.each (is:=[9]) (by kernel_rfl) (by simp) (EachU.cons hX0 (by kernel_rfl) rfl (fun K hK=>?_) EachU.nil)
   try simp only[gg0]
   go_simp
   refine HWX.out.mono ?_
   rintro e w6 ⟨v6,rfl,hs6⟩
   try simp only
   refine hK.out _ _ (fun h=>absurd h (by decide)) (fun _ hX1=>?_)
   clear hK K hX0; have hX0:=hX1; clear hX1
   try simp only[Act.put,ps0]
   refine AnyU.done (by kernel_rfl) ?_ _
   obtain⟨W4,W5,W6,ad,q1',q2',hc3,hx3,hmk,hc4,hcp,hx5,hcp2,⟨y,hy⟩,hfz,hfin⟩:=HEnd.out w5 w6 HB5.out hs6
   have HFin:=zh hfin
   clear hs6 hfin HEnd hSd2 hHeld hX0 hS5 HWX HS HGR HB4 HB5
   go_upto_region 21 with fail
   have hSe:w6.drew.cell? ⟨tb,0,none⟩=some (.slice ad Tk.length Tk.length)∧w6.drew.cell? ⟨wr.heap.size+1,2,none⟩=some (.string x):=⟨hc3,hx3⟩
   clear hc3 hx3
   refine wp_region_last (fun W=>W.cell? ⟨tb,0,none⟩=some (.slice ad Tk.length Tk.length)∧W.cell? ⟨wr.heap.size+1,2,none⟩=some (.string x)) 12 (by kernel_rfl) (by first | trivial | assumption) (fun hHeld hX0=>?_)
   refine tkU 0 ?_; clear hX0; intro hX0; simp only[Act.put,ps0]
   refine tkU 1 ?_; clear hX0; intro hX0; simp only[Act.put,ps0]
   refine tkU 2 ?_; clear hX0; intro hX0; simp only[Act.put,ps0]
   refine tkU 3 ?_; clear hX0; intro hX0; simp only[Act.put,ps0]
   refine tkU 4 ?_; clear hX0; intro hX0; simp only[Act.put,ps0]
   refine tkU 5 ?_; clear hX0; intro hX0; simp only[Act.put,ps0]
   refine tkU 6 ?_; clear hX0; intro hX0; simp only[Act.put,ps0]
   refine tkU 7 ?_; clear hX0; intro hX0; simp only[Act.put,ps0]
   refine tkU 8 ?_; clear hX0; intro hX0; simp only[Act.put,ps0]
   refine tkU 9 ?_; clear hX0; intro hX0; simp only[Act.put,ps0]
   refine tkU 10 ?_; clear hX0; intro hX0; simp only[Act.put,ps0]
   refine tkU 11 ?_; clear hX0; intro hX0; simp only[Act.put,ps0]
   refine AnyU.each (is:=[12]) (by kernel_rfl) (by simp) (EachU.cons hX0 (by kernel_rfl) rfl (fun K hK=>?_) EachU.nil)
   try simp only[gg0]
   go_simp
   try simp only
   refine hK.out _ _ (fun h=>absurd h (by decide)) (fun _ hX1=>?_)
   clear hK K hX0; have hX0:=hX1; clear hX1
   try simp only[Act.put,ps0]
   refine pkU 13 ?_; clear hX0; intro hX0; simp only[Act.put,ps0]
   refine AnyU.done (by kernel_rfl) ?_ _
   clear hSe hHeld hX0 hmk e2
   go_wp2_with fail
   clear hc4 hcp
   have hSg:W5.drew.cell? ⟨wr.heap.size+1,2,none⟩=some (.string x):=hx5
   have hzi:(z:Int)≤(N:Int):=by omega
   clear hx5
   go_upto_region 23 with fail
   refine wp_region_last (fun W=>W.cell? ⟨wr.heap.size+1,2,none⟩=some (.string x)) 5 (by kernel_rfl) (by first | trivial | assumption) (fun hHeld hX0=>?_)
   refine tkU 0 ?_; clear hX0; intro hX0; simp only[Act.put,ps0]
   refine tkU 1 ?_; clear hX0; intro hX0; simp only[Act.put,ps0]
   refine tkU 2 ?_; clear hX0; intro hX0; simp only[Act.put,ps0]
   refine tkU 3 ?_; clear hX0; intro hX0; simp only[Act.put,ps0]
   refine tkU 4 ?_; clear hX0; intro hX0; simp only[Act.put,ps0]
   refine AnyU.each (is:=[5]) (by kernel_rfl) (by simp) (EachU.cons hX0 (by kernel_rfl) rfl (fun K hK=>?_) EachU.nil)
   try simp only[gg0]
   go_simp
   try simp only
   refine hK.out _ _ (fun h=>absurd h (by decide)) (fun _ hX1=>?_)
   clear hK K hX0; have hX0:=hX1; clear hX1
   try simp only[Act.put,ps0]
   refine AnyU.done (by kernel_rfl) ?_ _
   clear hSg hHeld hX0 hcp2
   go_wp2_with fail
   exact HFin.out
 | true=>
   simp only[noK,if_true] at HWf HWs HEnd
   go_enter Tryz.func23,Tryz.ntmps23
   go_wp2_with fail
   refine(HAM.out _).mono ?_
   rintro e w1 ⟨rfl,hw1⟩
   replace hw1:=hw1.symm
   subst hw1
   go_wp2_with fail
   clear x0 x1 x2 hW0
   refine HFK.out.mono ?_
   rintro e w2 ⟨B',D',rfl,hs2,hb2,hl2⟩
   have HWW:=zh (fun W2 vk (h1:Below w2.heap.size w2 W2) h2=>HWf.out w2 W2 B' D' vk hs2 hl2 hb2 h1 h2)
   have HS2:=zh (fun W (hW:Below w2.heap.size w2 W)=>HS.out W (blN hb2 hW))
   have hSd:=HS2.out w2.drew (blD (Below.refl _ _))
   clear hs2 hl2 hb2 HWf HFK
   go_upto_region 17 with fail
   refine wp_region_last (fun W=>W.cell? ⟨wr.heap.size,0,none⟩=some (.int .i64 ga)∧W.cell? ⟨wr.heap.size,1,none⟩=some (.int .i64 gb)∧W.cell? ⟨wr.heap.size,2,none⟩=some (.int .i64 gc)∧W.cell? ⟨wr.heap.size+1,2,none⟩=some (.string x)) 9 (by kernel_rfl) (by first | trivial | assumption) (fun hHeld hX0=>?_)
   refine tkU 0 ?_; clear hX0; intro hX0; simp only[Act.put,ps0]
   refine tkU 1 ?_; clear hX0; intro hX0; simp only[Act.put,ps0]
   refine tkU 2 ?_; clear hX0; intro hX0; simp only[Act.put,ps0]
   refine tkU 3 ?_; clear hX0; intro hX0; simp only[Act.put,ps0]
   refine tkU 4 ?_; clear hX0; intro hX0; simp only[Act.put,ps0]
   refine tkU 5 ?_; clear hX0; intro hX0; simp only[Act.put,ps0]
   refine tkU 6 ?_; clear hX0; intro hX0; simp only[Act.put,ps0]
   refine tkU 7 ?_; clear hX0; intro hX0; simp only[Act.put,ps0]
   refine AnyU.each (is:=[8]) (by kernel_rfl) (by simp) (EachU.cons hX0 (by kernel_rfl) rfl (fun K hK=>?_) EachU.nil)
   try simp only[gg0]
   go_simp
   refine(HGR.out _).mono ?_
   rintro e w3 ⟨vk,rfl,hv3,hb3⟩
   have hb3':Below w2.heap.size w2 w3:=blN (blD (Below.refl _ _)) hb3
   have HWX:=zh (HWW.out w3 vk hb3' hv3)
   have hS3:=HS2.out w3 hb3'
   clear hv3 hb3 hb3' HWW
   try simp only
   refine hK.out _ _ (fun _=>?hkS) (fun hHeld2 hX1=>?_)
   case hkS=>
    exact hS3
   clear hHeld; have hHeld:=hHeld2 (by decide)
   clear hK K hHeld2 hX0; have hX0:=hX1; clear hX1
   try simp only[Act.put,ps0]
   refine AnyU.each (is:=[9]) (by kernel_rfl) (by simp) (EachU.cons hX0 (by kernel_rfl) rfl (fun K hK=>?_) EachU.nil)
   try simp only[gg0]
   go_simp
   refine HWX.out.mono ?_
   rintro e w4 ⟨v4,rfl,hb4⟩
   try simp only
   refine hK.out _ _ (fun h=>absurd h (by decide)) (fun _ hX1=>?_)
   clear hK K hX0; have hX0:=hX1; clear hX1
   try simp only[Act.put,ps0]
   refine pkU 10 ?_; clear hX0; intro hX0; simp only[Act.put,ps0]
   refine pkU 11 ?_; clear hX0; intro hX0; simp only[Act.put,ps0]
   refine pkU 12 ?_; clear hX0; intro hX0; simp only[Act.put,ps0]
   refine pkU 13 ?_; clear hX0; intro hX0; simp only[Act.put,ps0]
   refine pkU 14 ?_; clear hX0; intro hX0; simp only[Act.put,ps0]
   refine AnyU.done (by kernel_rfl) ?_ _
   have HB4:=zh hb4
   have hSd2:=HS.out w4.drew (blN hb4 (blD (Below.refl _ _)))
   clear hb4 hSd hHeld hX0 hS3 HWX HS2
   go_upto_region 20 with fail
   refine wp_region_last (fun W=>W.cell? ⟨wr.heap.size,0,none⟩=some (.int .i64 ga)∧W.cell? ⟨wr.heap.size,1,none⟩=some (.int .i64 gb)∧W.cell? ⟨wr.heap.size,2,none⟩=some (.int .i64 gc)∧W.cell? ⟨wr.heap.size+1,2,none⟩=some (.string x)) 9 (by kernel_rfl) (by first | trivial | assumption) (fun hHeld hX0=>?_)
   refine tkU 0 ?_; clear hX0; intro hX0; simp only[Act.put,ps0]
   refine tkU 1 ?_; clear hX0; intro hX0; simp only[Act.put,ps0]
   refine tkU 2 ?_; clear hX0; intro hX0; simp only[Act.put,ps0]
   refine tkU 3 ?_; clear hX0; intro hX0; simp only[Act.put,ps0]
   refine tkU 4 ?_; clear hX0; intro hX0; simp only[Act.put,ps0]
   refine tkU 5 ?_; clear hX0; intro hX0; simp only[Act.put,ps0]
   refine tkU 6 ?_; clear hX0; intro hX0; simp only[Act.put,ps0]
   refine tkU 7 ?_; clear hX0; intro hX0; simp only[Act.put,ps0]
   refine AnyU.each (is:=[8]) (by kernel_rfl) (by simp) (EachU.cons hX0 (by kernel_rfl) rfl (fun K hK=>?_) EachU.nil)
   try simp only[gg0]
   go_simp
   refine(HGR.out _).mono ?_
   rintro e w5 ⟨vk5,rfl,hv5,hb5⟩
   have hb5':Below w4.heap.size w4 w5:=blN (blD (Below.refl _ _)) hb5
   have HWX:=zh (HWs.out w4 w5 vk5 HB4.out hb5' hv5)
   have HB5:=zh (blN HB4.out hb5')
   have hS5:=HS.out w5 (blN HB4.out hb5')
   clear hv5 hb5 hb5' HWs
   try simp only
   refine hK.out _ _ (fun _=>?hkS) (fun hHeld2 hX1=>?_)
   case hkS=>
    exact hS5
   clear hHeld; have hHeld:=hHeld2 (by decide)
   clear hK K hHeld2 hX0; have hX0:=hX1; clear hX1
   try simp only[Act.put,ps0]
   refine AnyU.each (is:=[9]) (by kernel_rfl) (by simp) (EachU.cons hX0 (by kernel_rfl) rfl (fun K hK=>?_) EachU.nil)
   try simp only[gg0]
   go_simp
   refine HWX.out.mono ?_
   rintro e w6 ⟨v6,rfl,hs6⟩
   try simp only
   refine hK.out _ _ (fun h=>absurd h (by decide)) (fun _ hX1=>?_)
   clear hK K hX0; have hX0:=hX1; clear hX1
   try simp only[Act.put,ps0]
   refine AnyU.done (by kernel_rfl) ?_ _
   obtain⟨W4,W5,W6,ad,q1',q2',hc3,hx3,hmk,hc4,hcp,hx5,hcp2,⟨y,hy⟩,hfz,hfin⟩:=HEnd.out w5 w6 HB5.out hs6
   have HFin:=zh hfin
   clear hs6 hfin HEnd hSd2 hHeld hX0 hS5 HWX HS HGR HB4 HB5
   go_upto_region 21 with fail
   have hSe:w6.drew.cell? ⟨tb,1,none⟩=some (.slice ad Tk.length Tk.length)∧w6.drew.cell? ⟨wr.heap.size+1,2,none⟩=some (.string x):=⟨hc3,hx3⟩
   clear hc3 hx3
   refine wp_region_last (fun W=>W.cell? ⟨tb,1,none⟩=some (.slice ad Tk.length Tk.length)∧W.cell? ⟨wr.heap.size+1,2,none⟩=some (.string x)) 12 (by kernel_rfl) (by first | trivial | assumption) (fun hHeld hX0=>?_)
   refine tkU 0 ?_; clear hX0; intro hX0; simp only[Act.put,ps0]
   refine tkU 1 ?_; clear hX0; intro hX0; simp only[Act.put,ps0]
   refine tkU 2 ?_; clear hX0; intro hX0; simp only[Act.put,ps0]
   refine tkU 3 ?_; clear hX0; intro hX0; simp only[Act.put,ps0]
   refine tkU 4 ?_; clear hX0; intro hX0; simp only[Act.put,ps0]
   refine tkU 5 ?_; clear hX0; intro hX0; simp only[Act.put,ps0]
   refine tkU 6 ?_; clear hX0; intro hX0; simp only[Act.put,ps0]
   refine tkU 7 ?_; clear hX0; intro hX0; simp only[Act.put,ps0]
   refine tkU 8 ?_; clear hX0; intro hX0; simp only[Act.put,ps0]
   refine tkU 9 ?_; clear hX0; intro hX0; simp only[Act.put,ps0]
   refine tkU 10 ?_; clear hX0; intro hX0; simp only[Act.put,ps0]
   refine tkU 11 ?_; clear hX0; intro hX0; simp only[Act.put,ps0]
   refine AnyU.each (is:=[12]) (by kernel_rfl) (by simp) (EachU.cons hX0 (by kernel_rfl) rfl (fun K hK=>?_) EachU.nil)
   try simp only[gg0]
   go_simp
   try simp only
   refine hK.out _ _ (fun h=>absurd h (by decide)) (fun _ hX1=>?_)
   clear hK K hX0; have hX0:=hX1; clear hX1
   try simp only[Act.put,ps0]
   refine pkU 13 ?_; clear hX0; intro hX0; simp only[Act.put,ps0]
   refine AnyU.done (by kernel_rfl) ?_ _
   clear hSe hHeld hX0 hmk e2
   go_wp2_with fail
   clear hc4 hcp
   have hSg:W5.drew.cell? ⟨wr.heap.size+1,2,none⟩=some (.string x):=hx5
   have hzi:(z:Int)≤(N:Int):=by omega
   clear hx5
   go_upto_region 23 with fail
   refine wp_region_last (fun W=>W.cell? ⟨wr.heap.size+1,2,none⟩=some (.string x)) 5 (by kernel_rfl) (by first | trivial | assumption) (fun hHeld hX0=>?_)
   refine tkU 0 ?_; clear hX0; intro hX0; simp only[Act.put,ps0]
   refine tkU 1 ?_; clear hX0; intro hX0; simp only[Act.put,ps0]
   refine tkU 2 ?_; clear hX0; intro hX0; simp only[Act.put,ps0]
   refine tkU 3 ?_; clear hX0; intro hX0; simp only[Act.put,ps0]
   refine tkU 4 ?_; clear hX0; intro hX0; simp only[Act.put,ps0]
   refine AnyU.each (is:=[5]) (by kernel_rfl) (by simp) (EachU.cons hX0 (by kernel_rfl) rfl (fun K hK=>?_) EachU.nil)
   try simp only[gg0]
   go_simp
   try simp only
   refine hK.out _ _ (fun h=>absurd h (by decide)) (fun _ hX1=>?_)
   clear hK K hX0; have hX0:=hX1; clear hX1
   try simp only[Act.put,ps0]
   refine AnyU.done (by kernel_rfl) ?_ _
   clear hSg hHeld hX0 hcp2
   go_wp2_with fail
   exact HFin.out
end
