import Derived.Test.YtgofmnhfajmbfaaGreatDoorBmA
set_option maxRecDepth 20000
set_option maxHeartbeats 4000000
namespace Go.Proofs.YtgofmnhfajmbfaaGreatDoor
open Go Go.RowKit Txt Sp
section
variable {w0 w w1 wr:World} {base B Bd Bf:Nat} {D0 D K K1:Nat→Prop} {g:Sp.Geom} {i at_:Int} {n:Sp.Inode} {t t':BSt} {vb vm:Value}
theorem FM.setMore (h:FM w0 base B Bd Bf D0 g i at_ n t vb vm D wr) (m:Int):FM w0 base B Bd Bf D0 g i at_ n ⟨t.S,{ t.F with more:=m },t.made⟩ vb vm D (wr.setCell ⟨Bf,19,none⟩ (.int .i64 m)):=
 ⟨h.core.set (k:=19) (F':={ t.F with more:=m }) rfl h.core.blk h.core.nb,h.mad.turn (q14z (b:=Bf) (k:=19)) (fun k hk e=>ownBlock_ne h.mad h.core.box (by decide) (e ▸ hk)),h.nm,h.nbm⟩
theorem FDone.cell {c:Int} {v:Value} {e:Ending} {w':World} (h:FDone w0 base B Bd Bf D0 g i at_ n vb K w c v t' e w') (h0:c=0):w'.cell? ⟨Bf,5,none⟩=some (.int .i64 at_)∧w'.cell? ⟨Bf,19,none⟩=some (.int .i64 t'.F.more):=by
 obtain⟨⟨_,_,vm,D,hM,_⟩ | ⟨h1,_⟩,_⟩:=h
 ·exact⟨zc 5 hM.core.box,zc 19 hM.core.box⟩
 ·exact absurd h0 h1
theorem part_change {t1:BSt} {vm:Value} {D:Nat→Prop} (hM:FM w0 base B Bd Bf D0 g i at_ n t1 vb vm D w1) (hf:Fine t1) (hm:t1.made.length≤1000000) (j off:Int) (x:ByteArray) (v:Value) (ahead:List Int) (hv:Ints w1 v ahead) (hal:ahead.length≤100000)
 (hk:∀j,Foot Bf vb vm D j→K j∨w.heap.size≤j) (hT:Turn K w w1):∀W,Below w1.heap.size w1 W →
 Calls Tryz.prog 100 #[pt Bf,.int .i64 j,.agg #[.int .i64 off,.string x],v] W (FDone w0 base B Bd Bf D0 g i at_ n vb K w (t1.S.changeC j off x ahead) (.int .i64 (t1.S.changeN j off x ahead)) (t1.chg j off x ahead)):=fun _ hW=>
 (q105z (hM.below hW) hf.1 (hf.last hm) hm j off x v ahead (hv.below hW) hal).mono fun _ _ hd=>hd.ahead hk (hT.trans (Turn.of_below (K:=K) hW) (fun _ _ h=>h) (fun _ _ h=>h))
theorem fmore_any (h:FM w0 base B Bd Bf D0 g i at_ n t vb vm D w) (hf:Fine t) (hm:t.made.length≤1000000) (hat:at_=q1z g i) (m:Int) (hm0:0≤m) (hm1:m<65536) (nv:Nat) (v:Value) (ahead:List Int) (hv:OwnR 3 1 intC nv w v ahead) (hal:ahead.length≤100000) :
 Calls Tryz.prog 229 #[pt Bf,.int .i64 m,v] w (FDone w0 base B Bd Bf D0 g i at_ n vb (Foot Bf vb vm D) w (t.moreC g i m ahead) (.int .i64 (t.S.changeN (q1z g i) 24 (putB 2 m) ahead)) (t.more g i m ahead)):=by
 have hM1:=h.setMore m
 have hT1:Turn (Foot Bf vb vm D) w (w.setCell ⟨Bf,19,none⟩ (.int .i64 m)):=q14z.mono (fun j _ e=>Or.inr (Or.inl e))
 have hv1:Ints (w.setCell ⟨Bf,19,none⟩ (.int .i64 m)) v ahead:=OwnR.row (f:=intC) (fun _ _=>rfl) (hv.turn (q14z (b:=Bf) (k:=19)) (fun k hk e=>ownBlock_ne hv h.core.box (by decide) (e ▸ hk)))
 have hpc:=fun W:World=>imore_any W m hm0 hm1
 have hpa:=fun(W:World) (off:Int) (x:ByteArray)=>bpatch_any W off x
 have hch:=part_change (K:=Foot Bf vb vm D) (w:=w) hM1 (show Fine ⟨t.S,{ t.F with more:=m },t.made⟩ from hf) hm (q1z g i) 24 (putB 2 m) v ahead hv1 hal (fun j hj=>Or.inl hj) hT1
 have x19:=zc 19 h.core.box
 have x5:=zc 5 hM1.core.box
 have f19:w.frozen? ⟨Bf,19,none⟩=false:=q4z h.core.box
 have hbd:Bf<(w.setCell ⟨Bf,19,none⟩ (.int .i64 m)).heap.size:=hM1.core.bf
 obtain⟨w1,hw1⟩:=zx (w.setCell ⟨Bf,19,none⟩ (.int .i64 m))
 rw[hw1] at hch x5 hbd
 have hch2:∀W,Below w1.drew.heap.size w1.drew W→Calls Tryz.prog 100 #[pt Bf,.int .i64 (q1z g i),.agg #[.int .i64 24,.string (putB 2 m)],v] W (FDone w0 base B Bd Bf D0 g i at_ n vb (Foot Bf vb vm D) w (t.moreC g i m ahead) (.int .i64 (t.S.changeN (q1z g i) 24 (putB 2 m) ahead)) (t.more g i m ahead)):=fun W hW=>hch W (show Below w1.heap.size w1 W from blN (blD (Below.refl _ _)) hW)
 clear hch
 have hs:∀W,Below w1.drew.heap.size w1.drew W→W.cell? ⟨Bf,5,none⟩=some (.int .i64 at_):=fun W hW=>(hW.cell (p:=⟨Bf,5,none⟩) hbd).trans x5
 have hs5:∀e w5,FDone w0 base B Bd Bf D0 g i at_ n vb (Foot Bf vb vm D) w (t.moreC g i m ahead) (.int .i64 (t.S.changeN (q1z g i) 24 (putB 2 m) ahead)) (t.more g i m ahead) e w5→t.moreC g i m ahead=0→w5.cell? ⟨Bf,5,none⟩=some (.int .i64 at_):=fun e w5 hd h0=>(hd.cell h0).1
 rw[←hat] at hch2 hs5 ⊢
 obtain⟨N,hN⟩:=zx (t.S.changeN at_ 24 (putB 2 m) ahead)
 obtain⟨C,hC⟩:=zx (t.moreC g i m ahead)
 obtain⟨T1,hT1⟩:=zx (t.more g i m ahead)
 obtain⟨P,hP⟩:=zx (putB 2 m)
 rw[hP] at hN hpc
 rw[hP,hN,hC,hT1] at hch2 hs5 ⊢
 have hch:=hch2
 unfold pt at hch ⊢
 have HCH:=zh hch
 have HPC:=zh hpc
 have HPA:=zh hpa
 have HS:=zh hs
 have HS5:=zh hs5
 clear hch hpc hpa hs hs5
 clear h hf hm hat hm0 hm1 hv hal hM1 hv1 hch2 hbd hN hC hP
 rename_i hTx
 clear hTx hT1
 have x5d:w1.drew.cell? ⟨Bf,5,none⟩=some (.int .i64 at_):=x5
 clear x5
 go_enter Tryz.func229,Tryz.ntmps229
 go_wp2_with fail
 refine wp_region_held_drew (S:=(fun W=>W.cell? ⟨Bf,5,none⟩=some (.int .i64 at_))) (by kernel_rfl) (by first | trivial | assumption) (fun hHeld=>?_)
 refine tkH 0 ?_; simp only[Act.put,ps0]
 refine tkH 1 ?_; simp only[Act.put,ps0]
 refine tkH 2 ?_; simp only[Act.put,ps0]
 refine tkH 3 ?_; simp only[Act.put,ps0]
 refine tkH 4 ?_; simp only[Act.put,ps0]
 refine tkH 5 ?_; simp only[Act.put,ps0]
 refine tkH 10 ?_; simp only[Act.put,ps0]
 refine wpAnyH_ready (rs:=[6]) (by kernel_rfl) (by simp) ?_
 refine AllReadyH.cons rfl (fun K hK=>?_) AllReadyH.nil
 try simp only[gg0]
 go_simp
 refine(HPC.out _).mono ?_
 rintro e w3 ⟨rfl,hb3⟩
 have HB3:=zh hb3
 clear hb3
 try simp only
 refine hK.out _ _ ?hkS (fun hHeld=>?_)
 case hkS=>
  exact HS.out _ HB3.out
 clear hK K
 try simp only[Act.put,ps0]
 refine tkH 7 ?_; simp only[Act.put,ps0]
 refine tkH 8 ?_; simp only[Act.put,ps0]
 refine wpAnyH_ready (rs:=[9]) (by kernel_rfl) (by simp) ?_
 refine AllReadyH.cons rfl (fun K hK=>?_) AllReadyH.nil
 try simp only[gg0]
 go_simp
 refine(HPA.out _ _ _).mono ?_
 rintro e w4 ⟨rfl,hb4⟩
 have HB4:=zh (blN HB3.out hb4)
 clear hb4
 try simp only
 refine hK.out _ _ ?hkS (fun hHeld=>?_)
 case hkS=>
  exact HS.out _ HB4.out
 clear hK K
 try simp only[Act.put,ps0]
 refine wpAnyH_ready (rs:=[11]) (by kernel_rfl) (by simp) ?_
 refine AllReadyH.cons rfl (fun K hK=>?_) AllReadyH.nil
 try simp only[gg0]
 go_simp
 refine(HCH.out _ HB4.out).mono ?_
 intro e w5 hd
 have HF5:=zh hd
 have hs5:=HS5.out _ _ hd
 obtain⟨hd1,-⟩:=hd
 rcases hd1 with ⟨h0,rfl,-⟩ | ⟨h0,rfl⟩
 ·have hs5:=hs5 h0
  try simp only
  refine hK.out _ _ ?hkS (fun hHeld=>?_)
  case hkS=>
   exact hs5
  clear hK K
  try simp only[Act.put,ps0]
  refine tkH 12 ?_; simp only[Act.put,ps0]
  refine wpAnyH_done (by kernel_rfl) ?_ _
  go_wp2
  first | exact HF5.out | (go_ret; exact HF5.out)
 ·unfold stopE at HF5 ⊢
  exact⟨rfl,HF5.out⟩
theorem fname_any (h:FM w0 base B Bd Bf D0 g i at_ n t vb vm D w) (hf:Fine t) (hm:t.made.length≤1000000) (hat:at_=q1z g i) (hlen:t.F.blocks.length=40) {q:Nat} (hq:q<40) (b:Int) (hb0:0≤b) (hb1:b<65536) (nv:Nat) (v:Value) (ahead:List Int) (hv:OwnR 3 1 intC nv w v ahead) (hnv:∀k,v.ownBlock=some k→vb.ownBlock≠some k) (hal:ahead.length≤100000) :
 Calls Tryz.prog 230 #[pt Bf,.int .i64 (q:Int),.int .i64 b,v] w (FDone w0 base B Bd Bf D0 g i at_ n vb (Foot Bf vb vm D) w (t.nameC g i q b ahead) (.int .i64 (t.S.changeN (q7z g i t.F q) (q9z q) (putB 2 b) ahead)) (t.name g i q b ahead)):=by
 obtain⟨gb,cap,rfl,⟨xo,xq⟩,fq,hM1,hTb⟩:=h.blkSet (q:=q) (by omega) b
 have hTf:Turn (Foot Bf (.slice (some ⟨gb,0,none⟩) t.F.blocks.length cap) vm D) w (w.setCell ⟨gb,q,none⟩ (.int .i64 b)):=hTb.mono (fun j _ e=>Or.inr (Or.inr (Or.inl (by rw[e]; rfl))))
 have hv1:Ints (w.setCell ⟨gb,q,none⟩ (.int .i64 b)) v ahead:=OwnR.row (f:=intC) (fun _ _=>rfl) (hv.turn hTb (fun k hk e=>hnv k hk (by rw[e]; rfl)))
 have hpa:=fun(W:World) (off:Int) (x:ByteArray)=>bpatch_any W off x
 have hch:=part_change (K:=Foot Bf (.slice (some ⟨gb,0,none⟩) t.F.blocks.length cap) vm D) (w:=w) hM1 (show Fine ⟨t.S,{ t.F with blocks:=t.F.blocks.set q b },t.made⟩ from hf) hm (q7z g i t.F q) (q9z q) (putB 2 b) v ahead hv1 hal (fun j hj=>Or.inl hj) hTf
 have x20a:=zc 20 h.core.box
 have hbd:Bf<(w.setCell ⟨gb,q,none⟩ (.int .i64 b)).heap.size:=hM1.core.bf
 obtain⟨L,hL⟩:=zx (t.F.blocks.length)
 have hLq:(q:Int)<(L:Int):=by omega
 obtain⟨vb,hvb⟩:=zx ((Value.slice (some ⟨gb,0,none⟩) t.F.blocks.length cap))
 rw[hvb] at h hTf hM1 hch
 have x20:w.cell? ⟨Bf,20,none⟩=some (.slice (some ⟨gb,0,none⟩) L cap):=by rw[←hL]; exact x20a
 clear x20a
 rw[hvb]
 clear hvb hnv
 have hnv:True:=trivial
 by_cases hq8:q<8
 ·have hsec:q7z g i t.F q=at_:=by rw[q7z,if_pos hq8,hat]
  have hoff:((q9z q:Nat):Int)=(8+2*(q:Int)):=by rw[q9z,if_pos hq8]; omega
  have q1:decide ((q:Int)<8)=true:=decide_eq_true (by omega)
  have hpc:=fun W:World=>idirect_any W (q:Int) b (by omega) hb0 hb1
  have x5:=zc 5 hM1.core.box
  have hs5:∀e w5,FDone w0 base B Bd Bf D0 g i at_ n vb (Foot Bf vb vm D) w (t.nameC g i q b ahead) (.int .i64 (t.S.changeN (q7z g i t.F q) (q9z q) (putB 2 b) ahead)) (t.name g i q b ahead) e w5→t.nameC g i q b ahead=0→w5.cell? ⟨Bf,5,none⟩=some (.int .i64 at_):=fun e w5 hd h0=>(hd.cell h0).1
  obtain⟨mo,hmo⟩:=zx (t.F.more)
  obtain⟨w1,hw1⟩:=zx (w.setCell ⟨gb,q,none⟩ (.int .i64 b))
  rw[hw1] at hch x5 hbd
  have hch2:∀W,Below w1.drew.heap.size w1.drew W→Calls Tryz.prog 100 #[pt Bf,.int .i64 (q7z g i t.F q),.agg #[.int .i64 ((q9z q:Nat):Int),.string (putB 2 b)],v] W (FDone w0 base B Bd Bf D0 g i at_ n vb (Foot Bf vb vm D) w (t.nameC g i q b ahead) (.int .i64 (t.S.changeN (q7z g i t.F q) (q9z q) (putB 2 b) ahead)) (t.name g i q b ahead)):=fun W hW=>hch W (show Below w1.heap.size w1 W from blN (blD (Below.refl _ _)) hW)
  clear hch
  have x5b:w1.cell? ⟨Bf,5,none⟩=some (.int .i64 at_):=by
   exact x5
  have hs:∀W,Below w1.drew.heap.size w1.drew W→W.cell? ⟨Bf,5,none⟩=some (.int .i64 at_):=fun W hW=>(hW.cell (p:=⟨Bf,5,none⟩) hbd).trans x5b
  obtain⟨N,hN⟩:=zx (t.S.changeN (q7z g i t.F q) (q9z q) (putB 2 b) ahead)
  obtain⟨C,hC⟩:=zx (t.nameC g i q b ahead)
  obtain⟨T1,hT1⟩:=zx (t.name g i q b ahead)
  rw[hN,hC,hT1] at hch2 hs5 ⊢
  rw[hsec,hoff] at hch2
  obtain⟨P,hP⟩:=zx (putB 2 b)
  rw[hP] at hpc hch2
  have hch:=hch2
  unfold pt at hch ⊢
  have HCH:=zh hch
  have HPC:=zh hpc
  have HPA:=zh hpa
  have HS:=zh hs
  have HS5:=zh hs5
  clear hch hpc hpa hs hs5
  clear h hf hm hat hb0 hb1 hv hal hM1 hv1 hch2 hbd hN hC hP hsec hoff hmo hT1 hTb hTf hlen hnv hq8
  have x5d:w1.drew.cell? ⟨Bf,5,none⟩=some (.int .i64 at_):=x5b
  clear x5 x5b
  go_enter Tryz.func230,Tryz.ntmps230
  go_wp2_with fail
  refine wp_region_held_drew (S:=(fun W=>W.cell? ⟨Bf,5,none⟩=some (.int .i64 at_))) (by kernel_rfl) (by first | trivial | assumption) (fun hHeld=>?_)
  refine tkH 0 ?_; simp only[Act.put,ps0]
  refine tkH 1 ?_; simp only[Act.put,ps0]
  refine tkH 2 ?_; simp only[Act.put,ps0]
  refine tkH 3 ?_; simp only[Act.put,ps0]
  refine tkH 4 ?_; simp only[Act.put,ps0]
  refine tkH 5 ?_; simp only[Act.put,ps0]
  refine tkH 6 ?_; simp only[Act.put,ps0]
  refine tkH 11 ?_; simp only[Act.put,ps0]
  refine wpAnyH_ready (rs:=[7]) (by kernel_rfl) (by simp) ?_
  refine AllReadyH.cons rfl (fun K hK=>?_) AllReadyH.nil
  try simp only[gg0]
  go_simp
  refine(HPC.out _).mono ?_
  rintro e w3 ⟨rfl,hb3⟩
  have HB3:=zh hb3
  clear hb3
  try simp only
  refine hK.out _ _ ?hkS (fun hHeld=>?_)
  case hkS=>
   exact HS.out _ HB3.out
  clear hK K
  try simp only[Act.put,ps0]
  refine tkH 8 ?_; simp only[Act.put,ps0]
  refine tkH 9 ?_; simp only[Act.put,ps0]
  refine wpAnyH_ready (rs:=[10]) (by kernel_rfl) (by simp) ?_
  refine AllReadyH.cons rfl (fun K hK=>?_) AllReadyH.nil
  try simp only[gg0]
  go_simp
  refine(HPA.out _ _ _).mono ?_
  rintro e w4 ⟨rfl,hb4⟩
  have HB4:=zh (blN HB3.out hb4)
  clear hb4
  try simp only
  refine hK.out _ _ ?hkS (fun hHeld=>?_)
  case hkS=>
   exact HS.out _ HB4.out
  clear hK K
  try simp only[Act.put,ps0]
  refine wpAnyH_ready (rs:=[12]) (by kernel_rfl) (by simp) ?_
  refine AllReadyH.cons rfl (fun K hK=>?_) AllReadyH.nil
  try simp only[gg0]
  go_simp
  refine(HCH.out _ HB4.out).mono ?_
  intro e w5 hd
  have HF5:=zh hd
  have hs5:=HS5.out _ _ hd
  obtain⟨hd1,-⟩:=hd
  rcases hd1 with ⟨h0,rfl,-⟩ | ⟨h0,rfl⟩
  ·have hs5:=hs5 h0
   try simp only
   refine hK.out _ _ ?hkS (fun hHeld=>?_)
   case hkS=>
    exact hs5
   clear hK K
   try simp only[Act.put,ps0]
   refine tkH 13 ?_; simp only[Act.put,ps0]
   refine wpAnyH_done (by kernel_rfl) ?_ _
   go_wp2
   first | exact HF5.out | (go_ret; exact HF5.out)
  ·unfold stopE at HF5 ⊢
   exact⟨rfl,HF5.out⟩
 ·have hsec:q7z g i t.F q=t.F.more:=by rw[q7z,if_neg hq8]
  have hoff:((q9z q:Nat):Int)=2*((q:Int)-8):=by rw[q9z,if_neg hq8]; omega
  have q1:decide ((q:Int)<8)=false:=decide_eq_false (by omega)
  have hpc:=fun W:World=>iitem_any W ((q:Int)-8) b (by omega) hb0 hb1
  simp only[Int.zero_add] at hpc
  have e1:IntKind.i64.wrap ((q:Int)-8)=(q:Int)-8:=IntWalk.i64_in _ (by omega)
  have x5:=zc 19 hM1.core.box
  have hs5:∀e w5,FDone w0 base B Bd Bf D0 g i at_ n vb (Foot Bf vb vm D) w (t.nameC g i q b ahead) (.int .i64 (t.S.changeN (q7z g i t.F q) (q9z q) (putB 2 b) ahead)) (t.name g i q b ahead) e w5→t.nameC g i q b ahead=0→w5.cell? ⟨Bf,19,none⟩=some (.int .i64 t.F.more):=fun e w5 hd h0=>(hd.cell h0).2
  obtain⟨mo,hmo⟩:=zx (t.F.more)
  obtain⟨w1,hw1⟩:=zx (w.setCell ⟨gb,q,none⟩ (.int .i64 b))
  rw[hw1] at hch x5 hbd
  have hch2:∀W,Below w1.drew.heap.size w1.drew W→Calls Tryz.prog 100 #[pt Bf,.int .i64 (q7z g i t.F q),.agg #[.int .i64 ((q9z q:Nat):Int),.string (putB 2 b)],v] W (FDone w0 base B Bd Bf D0 g i at_ n vb (Foot Bf vb vm D) w (t.nameC g i q b ahead) (.int .i64 (t.S.changeN (q7z g i t.F q) (q9z q) (putB 2 b) ahead)) (t.name g i q b ahead)):=fun W hW=>hch W (show Below w1.heap.size w1 W from blN (blD (Below.refl _ _)) hW)
  clear hch
  have x5b:w1.cell? ⟨Bf,19,none⟩=some (.int .i64 mo):=by
   rw[←hmo]; exact x5
  have hs:∀W,Below w1.drew.heap.size w1.drew W→W.cell? ⟨Bf,19,none⟩=some (.int .i64 mo):=fun W hW=>(hW.cell (p:=⟨Bf,19,none⟩) hbd).trans x5b
  obtain⟨N,hN⟩:=zx (t.S.changeN (q7z g i t.F q) (q9z q) (putB 2 b) ahead)
  obtain⟨C,hC⟩:=zx (t.nameC g i q b ahead)
  obtain⟨T1,hT1⟩:=zx (t.name g i q b ahead)
  rw[hN,hC,hT1] at hch2 hs5 ⊢
  rw[hsec,hoff] at hch2
  obtain⟨P,hP⟩:=zx (putB 2 b)
  rw[hP] at hpc hch2
  rw[hmo] at hch2 hs5
  have hch:=hch2
  unfold pt at hch ⊢
  have HCH:=zh hch
  have HPC:=zh hpc
  have HPA:=zh hpa
  have HS:=zh hs
  have HS5:=zh hs5
  clear hch hpc hpa hs hs5
  clear h hf hm hat hb0 hb1 hv hal hM1 hv1 hch2 hbd hN hC hP hsec hoff hmo hT1 hTb hTf hlen hnv hq8
  have x5d:w1.drew.cell? ⟨Bf,19,none⟩=some (.int .i64 mo):=x5b
  clear x5 x5b
  go_enter Tryz.func230,Tryz.ntmps230
  go_wp2_with fail
  refine wp_region_held_drew (S:=(fun W=>W.cell? ⟨Bf,19,none⟩=some (.int .i64 mo))) (by kernel_rfl) (by first | trivial | assumption) (fun hHeld=>?_)
  refine tkH 0 ?_; simp only[Act.put,ps0]
  refine tkH 1 ?_; simp only[Act.put,ps0]
  refine tkH 2 ?_; simp only[Act.put,ps0]
  refine tkH 3 ?_; simp only[Act.put,ps0]
  refine tkH 4 ?_; simp only[Act.put,ps0]
  refine tkH 5 ?_; simp only[Act.put,ps0]
  refine tkH 6 ?_; simp only[Act.put,ps0]
  refine tkH 7 ?_; simp only[Act.put,ps0]
  refine tkH 8 ?_; simp only[Act.put,ps0]
  refine tkH 13 ?_; simp only[Act.put,ps0]
  refine wpAnyH_ready (rs:=[9]) (by kernel_rfl) (by simp) ?_
  refine AllReadyH.cons rfl (fun K hK=>?_) AllReadyH.nil
  try simp only[gg0]
  go_simp
  refine(HPC.out _).mono ?_
  rintro e w3 ⟨rfl,hb3⟩
  have HB3:=zh hb3
  clear hb3
  try simp only
  refine hK.out _ _ ?hkS (fun hHeld=>?_)
  case hkS=>
   exact HS.out _ HB3.out
  clear hK K
  try simp only[Act.put,ps0]
  refine tkH 10 ?_; simp only[Act.put,ps0]
  refine tkH 11 ?_; simp only[Act.put,ps0]
  refine wpAnyH_ready (rs:=[12]) (by kernel_rfl) (by simp) ?_
  refine AllReadyH.cons rfl (fun K hK=>?_) AllReadyH.nil
  try simp only[gg0]
  go_simp
  refine(HPA.out _ _ _).mono ?_
  rintro e w4 ⟨rfl,hb4⟩
  have HB4:=zh (blN HB3.out hb4)
  clear hb4
  try simp only
  refine hK.out _ _ ?hkS (fun hHeld=>?_)
  case hkS=>
   exact HS.out _ HB4.out
  clear hK K
  try simp only[Act.put,ps0]
  refine wpAnyH_ready (rs:=[14]) (by kernel_rfl) (by simp) ?_
  refine AllReadyH.cons rfl (fun K hK=>?_) AllReadyH.nil
  try simp only[gg0]
  go_simp
  refine(HCH.out _ HB4.out).mono ?_
  intro e w5 hd
  have HF5:=zh hd
  have hs5:=HS5.out _ _ hd
  obtain⟨hd1,-⟩:=hd
  rcases hd1 with ⟨h0,rfl,-⟩ | ⟨h0,rfl⟩
  ·have hs5:=hs5 h0
   try simp only
   refine hK.out _ _ ?hkS (fun hHeld=>?_)
   case hkS=>
    exact hs5
   clear hK K
   try simp only[Act.put,ps0]
   refine tkH 15 ?_; simp only[Act.put,ps0]
   refine wpAnyH_done (by kernel_rfl) ?_ _
   go_wp2
   first | exact HF5.out | (go_ret; exact HF5.out)
  ·unfold stopE at HF5 ⊢
   exact⟨rfl,HF5.out⟩
end
section
variable {w0 w w1 wr:World} {base B Bd Bf:Nat} {D0 D K K1:Nat→Prop} {g:Sp.Geom} {i at_:Int} {n:Sp.Inode} {t t':BSt} {vb vm:Value}
theorem FM.blkCell (h:FM w0 base B Bd Bf D0 g i at_ n t vb vm D w) {q:Nat} (hq:q<t.F.blocks.length):∃gb cap,vb = .slice (some ⟨gb,0,none⟩) t.F.blocks.length cap∧w.cell? ⟨gb,q,none⟩=some (.int .i64 (t.F.blocks.getD q 0)):=by
 obtain⟨hx,⟨rfl,h0⟩ | ⟨gb,cap,cur,rfl,hgb,hh,hnc,hm,hcs,ht⟩⟩:=h.core.blk
 ·omega
 refine⟨gb,cap,rfl,?_⟩
 have hc:=World.ownsRow.cellAt h.core.blk q (by omega)
 rw[q97z,List.getElem?_map,List.getElem?_eq_getElem hq] at hc
 rw[List.getD_eq_getElem?_getD,List.getElem?_eq_getElem hq]
 exact hc
theorem FDone.val {c:Int} {v:Value} {e:Ending} {w':World} (h:FDone w0 base B Bd Bf D0 g i at_ n vb K w c v t' e w') (h0:c=0) (v2:Value):FDone w0 base B Bd Bf D0 g i at_ n vb K w c v2 t' (.returned v2) w':=by
 obtain⟨⟨_,_,h1⟩ | ⟨h1,_⟩,h2⟩:=h
 ·exact⟨Or.inl ⟨h0,rfl,h1⟩,h2⟩
 ·exact absurd h0 h1
theorem FDone.stop {c:Int} {v:Value} {e:Ending} {w':World} (h:FDone w0 base B Bd Bf D0 g i at_ n vb K w c v t' e w') {c2:Int} (h0:c2≠0) (v2:Value) (t2:BSt):FDone w0 base B Bd Bf D0 g i at_ n vb K w c2 v2 t2 (stopE c2) w':=⟨Or.inr ⟨h0,rfl⟩,h.2⟩
theorem FDone.got {c:Int} {v:Value} {e:Ending} {w':World} (h:FDone w0 base B Bd Bf D0 g i at_ n vb K w c v t' e w') (h0:c=0):∃vm D,FM w0 base B Bd Bf D0 g i at_ n t' vb vm D w'∧(∀j,Foot Bf vb vm D j→K j∨w.heap.size≤j)∧Turn K w w':=by
 obtain⟨⟨_,_,vm,D,h1,h3⟩ | ⟨h1,_⟩,h2⟩:=h
 ·exact⟨vm,D,h1,h3,h2⟩
 ·exact absurd h0 h1
theorem fput_there (h:FM w0 base B Bd Bf D0 g i at_ n t vb vm D w) (hf:Fine t) (hm:t.made.length≤1000000) (hlen:t.F.blocks.length=40) {q:Nat} (hq:q<40) (h0:0<t.F.blocks.getD q 0) (ks:List Int) (off:Nat) (x:ByteArray) (vk:Value) :
 Calls Tryz.prog 161 #[pt Bf,.int .i64 (q:Int),.int .i64 (off:Int),.string x,vk] w (FDone w0 base B Bd Bf D0 g i at_ n vb (Foot Bf vb vm D) w (t.putC g i ks q off x) (.tuple #[]) (t.put g i ks q off x)):=by
 obtain⟨W1,hW1⟩:=zx (w.alloc (.cells #[.int .i64 (off:Int),.string x] 167))
 have hb1:Below w.heap.size w W1:=by rw[←hW1]; exact bl2 _
 have hz1:W1.heap[w.heap.size]? = some (.cells #[.int .i64 (off:Int),.string x] 167 (0,0)):=by rw[←hW1]; exact heapNew w _
 have hbd:Below w.heap.size w W1.drew:=blD hb1
 have hM1:=h.below hbd
 have hC:t.putC g i ks q off x=t.S.changeC (t.F.blocks.getD q 0) off x []:=if_pos (by omega)
 have hT:t.put g i ks q off x=t.chg (t.F.blocks.getD q 0) off x []:=if_pos (by omega)
 rw[hC,hT]
 have hch:=(q105z hM1 hf.1 (hf.last hm) hm (t.F.blocks.getD q 0) off x (.slice none 0 0) [] (RowAt.void _ 1) (by decide)).mono fun e w3 hd=>hd.ahead (K:=Foot Bf vb vm D) (w:=W1.drew) (fun j hj=>Or.inl hj) (Turn.refl _ _)
 have hft:=h.footLt
 have hbx:∀vm2 D2 w3,FM w0 base B Bd Bf D0 g i at_ n (t.chg (t.F.blocks.getD q 0) off x []) vb vm2 D2 w3→Turn (Foot Bf vb vm D) W1.drew w3 →
  ∃gb cap,vb = .slice (some ⟨gb,0,none⟩) 40 cap∧w3.cell? ⟨Bf,20,none⟩=some vb∧w3.cell? ⟨gb,q,none⟩=some (.int .i64 (t.F.blocks.getD q 0))∧w3.cell? ⟨w.heap.size,0,none⟩=some (.int .i64 (off:Int))∧w3.cell? ⟨w.heap.size,1,none⟩=some (.string x):=fun vm2 D2 w3 hM hT3=>by
  obtain⟨gb,cap,hvb,c0⟩:=hM.blkCell (q:=q) (by show q<t.F.blocks.length; omega)
  have g2:=hT3.heap (show W1.drew.heap[w.heap.size]? = _ from hz1) (fun hd=>by have:=hft _ hd; omega)
  exact⟨gb,cap,by rw[hvb]; congr 1,zc 20 hM.core.box,c0,zc 0 g2,zc 1 g2⟩
 obtain⟨gb,cap,hvb0,c0a⟩:=hM1.blkCell (q:=q) (by omega)
 have x20a:=zc 20 hM1.core.box
 have hvb:vb = .slice (some ⟨gb,0,none⟩) 40 cap:=by rw[hvb0,hlen]
 have x20:W1.cell? ⟨Bf,20,none⟩=some (.slice (some ⟨gb,0,none⟩) 40 cap):=by rw[←hvb]; exact x20a
 have y0:=zc 0 hz1
 have y1:=zc 1 hz1
 have hq1:(q:Int)<40:=by omega
 have q1:decide (t.F.blocks.getD q 0 > 0)=true:=decide_eq_true h0
 have hS5:∀e w3,FDone w0 base B Bd Bf D0 g i at_ n vb (Foot Bf vb vm D) W1.drew (t.S.changeC (t.F.blocks.getD q 0) off x []) (.int .i64 (t.S.changeN (t.F.blocks.getD q 0) off x [])) (t.chg (t.F.blocks.getD q 0) off x []) e w3→t.S.changeC (t.F.blocks.getD q 0) off x []=0 →
  (w3.cell? ⟨Bf,20,none⟩=some (.slice (some ⟨gb,0,none⟩) 40 cap)∧w3.cell? ⟨gb,q,none⟩=some (.int .i64 (t.F.blocks.getD q 0))∧w3.cell? ⟨w.heap.size,0,none⟩=some (.int .i64 (off:Int))∧w3.cell? ⟨w.heap.size,1,none⟩=some (.string x)):=fun e w3 hd h0=>by
  obtain⟨vm2,D2,hM2,_,hT2⟩:=hd.got h0
  obtain⟨gb',cap',hvb',a1,a2,a3,a4⟩:=hbx vm2 D2 w3 hM2 hT2
  rw[hvb'] at hvb
  cases hvb
  exact⟨by rw[a1,hvb'],a2,a3,a4⟩
 have hT1:Turn (Foot Bf vb vm D) w W1.drew:=Turn.of_below hbd
 have hfin:∀e w3,FDone w0 base B Bd Bf D0 g i at_ n vb (Foot Bf vb vm D) W1.drew (t.S.changeC (t.F.blocks.getD q 0) off x []) (.int .i64 (t.S.changeN (t.F.blocks.getD q 0) off x [])) (t.chg (t.F.blocks.getD q 0) off x []) e w3→FDone w0 base B Bd Bf D0 g i at_ n vb (Foot Bf vb vm D) w (t.S.changeC (t.F.blocks.getD q 0) off x []) (.int .i64 (t.S.changeN (t.F.blocks.getD q 0) off x [])) (t.chg (t.F.blocks.getD q 0) off x []) e w3:=fun e w3 hd=>
  hd.ahead (fun j hj=>Or.inl hj) hT1
 have c0:W1.cell? ⟨gb,q,none⟩=some (.int .i64 (t.F.blocks.getD q 0)):=c0a
 clear c0a hvb0
 obtain⟨b,hb⟩:=zx (t.F.blocks.getD q 0)
 rw[hb] at c0 hS5 q1 hch hfin ⊢
 obtain⟨N,hN⟩:=zx (t.S.changeN b off x [])
 obtain⟨C,hC⟩:=zx (t.S.changeC b off x [])
 obtain⟨T1,hT1'⟩:=zx (t.chg b off x [])
 rw[hN,hC,hT1'] at hch hS5 hfin
 rw[hC,hT1']
 have hSd:(W1.drew.cell? ⟨Bf,20,none⟩=some (.slice (some ⟨gb,0,none⟩) 40 cap)∧W1.drew.cell? ⟨gb,q,none⟩=some (.int .i64 b)∧W1.drew.cell? ⟨w.heap.size,0,none⟩=some (.int .i64 (off:Int))∧W1.drew.cell? ⟨w.heap.size,1,none⟩=some (.string x)):=⟨x20,c0,y0,y1⟩
 unfold pt at hch ⊢
 have HCH:=zh hch
 have HS5:=zh hS5
 have HFIN:=zh hfin
 clear hch hS5 hfin
 clear h hf hm hlen hq h0 hb1 hz1 hbd hM1 hbx hft hT1 hb hN hC hT1' hT x20a hvb
 go_enter Tryz.func161,Tryz.ntmps161
 go_wp2_with fail
 refine wp_region_held_drew (S:=(fun W=>W.cell? ⟨Bf,20,none⟩=some (.slice (some ⟨gb,0,none⟩) 40 cap)∧W.cell? ⟨gb,q,none⟩=some (.int .i64 b)∧W.cell? ⟨w.heap.size,0,none⟩=some (.int .i64 (off:Int))∧W.cell? ⟨w.heap.size,1,none⟩=some (.string x))) (by kernel_rfl) (by first | trivial | assumption) (fun hHeld=>?_)
 refine tkH 0 ?_; simp only[Act.put,ps0]
 refine tkH 1 ?_; simp only[Act.put,ps0]
 refine tkH 2 ?_; simp only[Act.put,ps0]
 refine tkH 3 ?_; simp only[Act.put,ps0]
 refine tkH 4 ?_; simp only[Act.put,ps0]
 refine tkH 5 ?_; simp only[Act.put,ps0]
 refine tkH 6 ?_; simp only[Act.put,ps0]
 refine tkH 7 ?_; simp only[Act.put,ps0]
 refine tkH 8 ?_; simp only[Act.put,ps0]
 refine wpAnyH_ready (rs:=[9]) (by kernel_rfl) (by simp) ?_
 refine AllReadyH.cons rfl (fun K hK=>?_) AllReadyH.nil
 try simp only[gg0]
 go_simp
 refine HCH.out.mono ?_
 intro e w3 hd
 have HF3:=zh (HFIN.out _ _ hd)
 have hs5:=HS5.out _ _ hd
 obtain⟨hd1,-⟩:=hd
 rcases hd1 with ⟨h0,rfl,-⟩ | ⟨h0,rfl⟩
 ·have hs5:=hs5 h0
  have HF4:=zh (HF3.out.val h0 (.tuple #[]))
  try simp only
  refine hK.out _ _ ?hkS (fun hHeld=>?_)
  case hkS=>
   exact hs5
  clear hK K
  try simp only[Act.put,ps0]
  refine wpAnyH_done (by kernel_rfl) ?_ _
  go_wp2
  first | exact HF4.out | go_end0 | refine bodyPost_ret (results_none rfl _ _ _) rfl ?_
  exact HF4.out
 ·have HF4:=zh (HF3.out.stop h0 (.tuple #[]) T1)
  unfold stopE at HF4 ⊢
  exact⟨rfl,HF4.out⟩
end
theorem block_num {S:Sp.Side} {g:Sp.Geom} (hg:g.ok) {ks:List Int} (hks:∀k∈ks,0≤k∧k<g.groups) (h:(S.block g ks).2.2.2=0):0≤(S.block g ks).2.1∧(S.block g ks).2.1<65536:=by
 have htk:S.take g true ks=S.takeL g true ks:=if_pos (wrongC_zero hg hks)
 unfold Side.block at h ⊢
 rw[htk] at h ⊢
 by_cases h0:(S.takeL g true ks).2.code=0
 ·rw[if_pos h0]
  obtain⟨hk,hp⟩:=takeL_bd (S:=S) (b:=true) ks hks h0
  have:=q67z hg hk hp
  have hz:=(Geom.size_bd hg).2
  dsimp only
  omega
 ·rw[if_neg h0] at h
  exact absurd h h0
theorem q114z {t:BSt} {g:Sp.Geom} (hg:g.ok) {ks:List Int} (hks:∀k∈ks,0≤k∧k<g.groups) {x:ByteArray} (h:t.freshC g ks x=0):0≤t.newN g ks∧t.newN g ks<65536:=by
 refine block_num hg hks ?_
 unfold BSt.freshC thenC at h
 split at h
 ·assumption
 ·exact h
section
variable {w0 w w1 wr:World} {base B Bd Bf:Nat} {D0 D K K1:Nat→Prop} {g:Sp.Geom} {i at_:Int} {n:Sp.Inode} {t t':BSt} {vb vm:Value}
theorem q165z.ahead {c N:Int} {A:List Int} {e:Ending} {w':World} (h:q165z w0 base B Bd Bf D0 g i at_ n vb K1 w1 c N A t' e w') (hk:∀j,K1 j→K j∨w.heap.size≤j) (hT:Turn K w w1):q165z w0 base B Bd Bf D0 g i at_ n vb K w c N A t' e w':=by
 obtain⟨h1,h2⟩:=h
 refine⟨h1.imp_left fun⟨a,va,b,ho,vm,D,h,hf,hn⟩=>⟨a,va,b,ho.mono hT.size,vm,D,h,fun j hj=>?_,hn⟩,hT.trans h2 (fun _ _ h=>h) (fun j hj hK=>(hk j hK).elim id (fun h=>by omega))⟩
 rcases hf j hj with hj | hj
 ·exact hk j hj
 ·exact Or.inr (Nat.le_trans hT.size hj)
theorem q168z {c2:Int} (h0:c2≠0) (hT:Turn K w w1) (v2:Value) (t2:BSt):FDone w0 base B Bd Bf D0 g i at_ n vb K w c2 v2 t2 (stopE c2) w1:=⟨Or.inr ⟨h0,rfl⟩,hT⟩
/-- What stands for all of a put: from a world w1 on. -/
structure PutK (w0:World) (base B Bd Bf:Nat) (D0:Nat→Prop) (g:Sp.Geom) (i at_:Int) (n:Sp.Inode) (vb:Value) (K:Nat→Prop) (w1:World) (vk:Value) (ks:List Int):Prop where
 ok:g.ok
 at_:at_=q1z g i
 groups:∀k∈ks,0≤k∧k<g.groups
 ints:∀W,Turn D0 w0 W→Ints W vk ks
variable {vk:Value} {ks:List Int}
theorem PutK.fresh (hp:PutK w0 base B Bd Bf D0 g i at_ n vb K w1 vk ks) (hf:Fine t) (hm:t.made.length+1≤1000000) (x:ByteArray) {W:World} (hM:FM w0 base B Bd Bf D0 g i at_ n t vb vm D wr) (hft:∀j,Foot Bf vb vm D j→K j∨w1.heap.size≤j) (hT:Turn K w1 wr) (hW:Below wr.heap.size wr W) :
 Calls Tryz.prog 228 #[pt Bf,.string x,vk] W (q165z w0 base B Bd Bf D0 g i at_ n vb K w1 (t.freshC g ks x) (t.newN g ks) (t.newA g ks x) (t.fresh g ks x)):=
 (ffresh_any (hM.below hW) hf hm hp.ok x vk ks (hp.ints W (hM.below hW).core.tn) hp.groups).mono fun _ _ hd=>hd.ahead hft (hT.trans (Turn.of_below (K:=K) hW) (fun _ _ h=>h) (fun _ _ h=>h))
theorem PutK.more (hp:PutK w0 base B Bd Bf D0 g i at_ n vb K w1 vk ks) (hf:Fine t) (hm:t.made.length≤1000000) {m:Int} (h0:0≤m) (h1:m<65536) {va:Value} {A:List Int} (hA:A.length≤100000) {nv:Nat} (hv:OwnR 3 1 intC nv wr va A) (hM:FM w0 base B Bd Bf D0 g i at_ n t vb vm D wr) (hft:∀j,Foot Bf vb vm D j→K j∨w1.heap.size≤j) (hT:Turn K w1 wr) :
 Calls Tryz.prog 229 #[pt Bf,.int .i64 m,va] wr (FDone w0 base B Bd Bf D0 g i at_ n vb K w1 (t.moreC g i m A) (.int .i64 (t.S.changeN (q1z g i) 24 (putB 2 m) A)) (t.more g i m A)):=
 (fmore_any hM hf hm hp.at_ m h0 h1 nv va A hv hA).mono fun _ _ hd=>hd.ahead hft hT
theorem PutK.name (hp:PutK w0 base B Bd Bf D0 g i at_ n vb K w1 vk ks) (hf:Fine t) (hm:t.made.length≤1000000) (hlen:t.F.blocks.length=40) {q:Nat} (hq:q<40) {m:Int} (h0:0≤m) (h1:m<65536) {va:Value} {A:List Int} (hA:A.length≤100000) {nv:Nat} (hv:OwnR 3 1 intC nv wr va A) (hnv:∀b,va.ownBlock=some b→¬Foot Bf vb vm D b) (hM:FM w0 base B Bd Bf D0 g i at_ n t vb vm D wr) (hft:∀j,Foot Bf vb vm D j→K j∨w1.heap.size≤j) (hT:Turn K w1 wr) :
 Calls Tryz.prog 230 #[pt Bf,.int .i64 (q:Int),.int .i64 m,va] wr (FDone w0 base B Bd Bf D0 g i at_ n vb K w1 (t.nameC g i q m A) (.int .i64 (t.S.changeN (q7z g i t.F q) (q9z q) (putB 2 m) A)) (t.name g i q m A)):=
 (fname_any hM hf hm hp.at_ hlen hq m h0 h1 nv va A hv (fun k hk e=>hnv k hk (Or.inr (Or.inr (Or.inl e)))) hA).mono fun _ _ hd=>hd.ahead hft hT
theorem newA_len (t:BSt) (g:Sp.Geom) (ks:List Int) (x:ByteArray):(t.newA g ks x).length≤100000:=by show(2:Nat)≤_; decide
theorem fput_plain (h:FM w0 base B Bd Bf D0 g i at_ n t vb vm D w) (hf:Fine t) (hm:t.made.length+3≤1000000) (hp:∀w1,PutK w0 base B Bd Bf D0 g i at_ n vb (Foot Bf vb vm D) w1 vk ks) (hlen:t.F.blocks.length=40) {q:Nat} (hq:q<40) (h0:t.F.blocks.getD q 0=0) (hl:¬(8≤q∧t.F.more=0)) (off:Nat) (x:ByteArray) (hx:off+x.size≤64) (hx1:1≤x.size) :
 Calls Tryz.prog 161 #[pt Bf,.int .i64 (q:Int),.int .i64 (off:Int),.string x,vk] w (FDone w0 base B Bd Bf D0 g i at_ n vb (Foot Bf vb vm D) w (t.putC g i ks q off x) (.tuple #[]) (t.put g i ks q off x)):=by
 obtain⟨wX,hwX⟩:=zx (w.alloc (.cells #[.int .i64 (off:Int),.string x] 167))
 have hb1:Below w.heap.size w wX:=by rw[←hwX]; exact bl2 _
 have hz1:wX.heap[w.heap.size]? = some (.cells #[.int .i64 (off:Int),.string x] 167 (0,0)):=by rw[←hwX]; exact heapNew w _
 have hM1:=h.below hb1
 have hL:t.listed g i ks q=t:=if_neg hl
 have hC:t.putC g i ks q off x=thenC (t.freshC g ks (allB off x)) ((t.fresh g ks (allB off x)).nameC g i q (t.newN g ks) (t.newA g ks (allB off x))):=by
  unfold BSt.putC BSt.listedC
  rw[if_neg (by rw[h0]; decide),if_neg hl,q11z rfl,hL]
  rfl
 have hT:t.put g i ks q off x=(t.fresh g ks (allB off x)).name g i q (t.newN g ks) (t.newA g ks (allB off x)):=by
  unfold BSt.put
  rw[if_neg (by rw[h0]; decide),hL]
  rfl
 rw[hC,hT]
 have hbl:=fun W:World=>q84z W
 have hmu:=fun W:World=>q170z W
 have hpd:∀(W:World) (b:Nat),W.heap[b]? = some (.cells #[.int .i64 (off:Int),.string x] 167 (0,0))→Calls Tryz.prog 117 #[.string Sp.blank,.slice (some ⟨b,0,none⟩) 1 1] W fun e w'=>e = .returned (.tuple #[.string (allB off x),.int .i64 0])∧Below W.heap.size W w':=fun W b hb=>by
  have:=q115z W Sp.blank (.slice (some ⟨b,0,none⟩) 1 1) [((off:Int),x)] (RowAt.block (vs:=[patC ((off:Int),x)]) (fun y hy=>by rw[List.mem_singleton.1 hy]; rfl) hb rfl (Nat.le_refl _) (by decide)) (by unfold Sp.blank; rw[Lib.size_eq,q8z,zeros_length]) (by show(1:Nat)≤1024; decide) (fun p hp=>by rw[List.mem_singleton.1 hp]; unfold inside; dsimp only; omega)
  have e:ofL (q19z Sp.blank.data.toList [((off:Int),x)])=allB off x:=by unfold allB; rfl
  rw[e] at this
  exact this
 have hfre:=fun W (hW:Below wX.heap.size wX W)=>(hp wX).fresh hf (by omega) (allB off x) hM1 (fun j hj=>Or.inl hj) (Turn.refl _ _) hW
 have hT1:Turn (Foot Bf vb vm D) w wX:=Turn.of_below hb1
 have hname:=fun w6 vm6 D6 va (hc0:t.freshC g ks (allB off x)=0) (hM6:FM w0 base B Bd Bf D0 g i at_ n (t.fresh g ks (allB off x)) vb vm6 D6 w6) (hf6:∀j,Foot Bf vb vm6 D6 j→Foot Bf vb vm D j∨wX.heap.size≤j) (hT6:Turn (Foot Bf vb vm D) wX w6) (ho6:OwnR 3 1 intC wX.heap.size w6 va (t.newA g ks (allB off x))) (hn6:∀b,va.ownBlock=some b→¬Foot Bf vb vm6 D6 b)=>
  (hp wX).name (hf.fresh (by omega) g ks (allB off x)) (by rw[q87z]; omega) hlen hq (q114z (hp w).ok (hp w).groups hc0).1 (q114z (hp w).ok (hp w).groups hc0).2 (newA_len ..) ho6 hn6 hM6 hf6 hT6
 have hbx:∀W,Below wX.heap.size wX W→W.cell? ⟨w.heap.size,0,none⟩=some (.int .i64 (off:Int))∧W.cell? ⟨w.heap.size,1,none⟩=some (.string x):=fun W hW=>⟨zc 0 (heapOld hW hz1),zc 1 (heapOld hW hz1)⟩
 obtain⟨gb,cap,hvb0,c0a⟩:=hM1.blkCell (q:=q) (by omega)
 have x20a:=zc 20 hM1.core.box
 have x20:wX.cell? ⟨Bf,20,none⟩=some (.slice (some ⟨gb,0,none⟩) 40 cap):=by rw[←hlen,←hvb0]; exact x20a
 have x19a:=zc 19 hM1.core.box
 obtain⟨mo,hmo⟩:=zx (t.F.more)
 have x19:wX.cell? ⟨Bf,19,none⟩=some (.int .i64 mo):=by rw[←hmo]; exact x19a
 rw[hmo] at hl
 rw[h0] at c0a
 have hq1:(q:Int)<40:=by omega
 clear x20a x19a hvb0 hL
 obtain⟨T2,hT2⟩:=zx (t.fresh g ks (allB off x))
 obtain⟨N,hN⟩:=zx (t.newN g ks)
 obtain⟨A,hA⟩:=zx (t.newA g ks (allB off x))
 obtain⟨k1,hk1⟩:=zx (t.freshC g ks (allB off x))
 rw[hT2,hN,hA,hk1] at hfre hname
 rw[hT2,hN,hA,hk1]
 obtain⟨X,hX⟩:=zx (allB off x)
 rw[hX] at hfre hpd
 obtain⟨k2,hk2⟩:=zx (T2.nameC g i q N A)
 obtain⟨T3,hT3⟩:=zx (T2.name g i q N A)
 obtain⟨N2,hN2⟩:=zx (T2.S.changeN (q7z g i T2.F q) (q9z q) (putB 2 N) A)
 rw[hk2,hT3,hN2] at hname
 rw[hk2,hT3]
 have hstop:∀w',k1≠0→Turn (Foot Bf vb vm D) wX w'→FDone w0 base B Bd Bf D0 g i at_ n vb (Foot Bf vb vm D) w (thenC k1 k2) (.tuple #[]) T3 (stopE k1) w':=fun w' hk hT'=>by
  rw[q37z hk]
  exact q168z hk (hT1.trans hT' (fun _ _ h=>h) (fun _ _ h=>h)) _ _
 have hend:∀e w',k1=0→FDone w0 base B Bd Bf D0 g i at_ n vb (Foot Bf vb vm D) wX k2 (.int .i64 N2) T3 e w' →
  (k2=0→FDone w0 base B Bd Bf D0 g i at_ n vb (Foot Bf vb vm D) w (thenC k1 k2) (.tuple #[]) T3 (.returned (.tuple #[])) w')∧(k2≠0→FDone w0 base B Bd Bf D0 g i at_ n vb (Foot Bf vb vm D) w (thenC k1 k2) (.tuple #[]) T3 (stopE k2) w'):=fun e w' hk hd=>by
  rw[q11z hk]
  have:=hd.ahead (K:=Foot Bf vb vm D) (w:=w) (fun j hj=>Or.inl hj) hT1
  exact⟨fun h=>this.val h _,fun h=>this.stop h _ _⟩
 obtain⟨Q,hQ⟩:=zx (FDone w0 base B Bd Bf D0 g i at_ n vb (Foot Bf vb vm D) w (thenC k1 k2) (.tuple #[]) T3)
 rw[hQ] at hstop hend ⊢
 unfold pt at hfre hname ⊢
 have HBL:=zh hbl
 have HMU:=zh hmu
 have HPD:=zh hpd
 have HFRE:=zh hfre
 have HNAME:=zh hname
 have HBX:=zh hbx
 have HSTOP:=zh hstop
 have HEND:=zh hend
 clear hbl hmu hpd hfre hname hbx hstop hend
 have HFRE:=HFRE
 clear h hf hm hp hlen hq h0 hx hx1 hb1 hz1 hM1 hC hT hT1 hmo hT2 hN hA hk1 hX hk2 hT3 hN2 hQ
 by_cases h8:8≤q
 ·have q8:decide ((q:Int)≥8)=true:=decide_eq_true (by omega)
  have q9:(mo == 0)=false:=beq_eq_false_iff_ne.2 (fun e=>hl ⟨h8,e⟩)
  clear hl h8
  go_enter Tryz.func161,Tryz.ntmps161
  go_wp2_with fail
  go_region_held3 (fun W=>W.cell? ⟨w.heap.size,0,none⟩=some (.int .i64 (off:Int))∧W.cell? ⟨w.heap.size,1,none⟩=some (.string x))
   ((refine HBX.out _ ?_; repeat' first | with_reducible exact Below.refl _ _ | with_reducible exact HBa.out | with_reducible exact HBb.out | with_reducible refine blD ?_ | with_reducible refine bl1 ?_ _))
   (first
     | (go_at_call 35
        refine(HBL.out _).mono ?_
        rintro e wa ⟨rfl,hba⟩
        have HBc:=zh hba
        have HBa:Hid (Below wX.heap.size wX wa):=blN (by repeat' first | with_reducible exact Below.refl _ _ | with_reducible refine blD ?_ | with_reducible refine bl1 ?_ _) hba
        clear hba
        simp only)
     | (go_at_call 117
        with_reducible refine(HPD.out _ _ ?a1).mono ?_
        case a1=>first | with_reducible exact heapNew _ _ | exact heapOld HBc.out (heapNew _ _)
        rintro e wb ⟨rfl,hbb⟩
        have HBb:Hid (Below wX.heap.size wX wb):=blN (by repeat' first | with_reducible exact HBa.out | with_reducible refine blD ?_ | with_reducible refine bl1 ?_ _) hbb
        clear hbb
        simp only))
  all_goals
   clear HBa HBc
   have HFR:=zh (HFRE.out wb HBb.out)
   go_wp2_with fail
   refine(HMU.out _).mono ?_
   rintro e wc ⟨rfl,hwc⟩
   replace hwc:=hwc.symm
   subst hwc
   go_wp2_with fail
   refine HFR.out.mono ?_
   intro e w6 hd
   obtain⟨hd1,hT6⟩:=hd
   rcases hd1 with ⟨hc0,va,rfl,ho6,vm6,D6,hM6,hf6,hn6⟩ | ⟨hc0,rfl⟩
   ·have HNm:=zh (HNAME.out w6 vm6 D6 va hc0 hM6 hf6 hT6 ho6 hn6)
    clear hM6 hf6 hT6 ho6 hn6
    go_wp2_with fail
    refine HNm.out.mono ?_
    intro e w7 hd
    have HF7:=zh (HEND.out _ _ hc0 hd)
    obtain⟨hd1,-⟩:=hd
    rcases hd1 with ⟨h0,rfl,-⟩ | ⟨h0,rfl⟩
    ·have HF8:=zh (HF7.out.1 h0)
     go_wp2
     first | exact HF8.out | (go_end0; exact HF8.out)
    ·have HF8:=zh (HF7.out.2 h0)
     clear h0
     unfold stopE at HF8 ⊢
     go_wp2
     exact⟨rfl,HF8.out⟩
   ·have HF8:=zh (HSTOP.out _ hc0 hT6)
    clear hc0
    unfold stopE at HF8 ⊢
    go_wp2
    exact⟨rfl,HF8.out⟩
 ·have q8:decide ((q:Int)≥8)=false:=decide_eq_false (by omega)
  clear hl h8
  go_enter Tryz.func161,Tryz.ntmps161
  go_wp2_with fail
  go_region_held3 (fun W=>W.cell? ⟨w.heap.size,0,none⟩=some (.int .i64 (off:Int))∧W.cell? ⟨w.heap.size,1,none⟩=some (.string x))
   ((refine HBX.out _ ?_; repeat' first | with_reducible exact Below.refl _ _ | with_reducible exact HBa.out | with_reducible exact HBb.out | with_reducible refine blD ?_ | with_reducible refine bl1 ?_ _))
   (first
     | (go_at_call 35
        refine(HBL.out _).mono ?_
        rintro e wa ⟨rfl,hba⟩
        have HBc:=zh hba
        have HBa:Hid (Below wX.heap.size wX wa):=blN (by repeat' first | with_reducible exact Below.refl _ _ | with_reducible refine blD ?_ | with_reducible refine bl1 ?_ _) hba
        clear hba
        simp only)
     | (go_at_call 117
        with_reducible refine(HPD.out _ _ ?a1).mono ?_
        case a1=>first | with_reducible exact heapNew _ _ | exact heapOld HBc.out (heapNew _ _)
        rintro e wb ⟨rfl,hbb⟩
        have HBb:Hid (Below wX.heap.size wX wb):=blN (by repeat' first | with_reducible exact HBa.out | with_reducible refine blD ?_ | with_reducible refine bl1 ?_ _) hbb
        clear hbb
        simp only))
  all_goals
   clear HBa HBc
   have HFR:=zh (HFRE.out wb HBb.out)
   go_wp2_with fail
   refine(HMU.out _).mono ?_
   rintro e wc ⟨rfl,hwc⟩
   replace hwc:=hwc.symm
   subst hwc
   go_wp2_with fail
   refine HFR.out.mono ?_
   intro e w6 hd
   obtain⟨hd1,hT6⟩:=hd
   rcases hd1 with ⟨hc0,va,rfl,ho6,vm6,D6,hM6,hf6,hn6⟩ | ⟨hc0,rfl⟩
   ·have HNm:=zh (HNAME.out w6 vm6 D6 va hc0 hM6 hf6 hT6 ho6 hn6)
    clear hM6 hf6 hT6 ho6 hn6
    go_wp2_with fail
    refine HNm.out.mono ?_
    intro e w7 hd
    have HF7:=zh (HEND.out _ _ hc0 hd)
    obtain⟨hd1,-⟩:=hd
    rcases hd1 with ⟨h0,rfl,-⟩ | ⟨h0,rfl⟩
    ·have HF8:=zh (HF7.out.1 h0)
     go_wp2
     first | exact HF8.out | (go_end0; exact HF8.out)
    ·have HF8:=zh (HF7.out.2 h0)
     clear h0
     unfold stopE at HF8 ⊢
     go_wp2
     exact⟨rfl,HF8.out⟩
   ·have HF8:=zh (HSTOP.out _ hc0 hT6)
    clear hc0
    unfold stopE at HF8 ⊢
    go_wp2
    exact⟨rfl,HF8.out⟩
theorem fput_list (h:FM w0 base B Bd Bf D0 g i at_ n t vb vm D w) (hf:Fine t) (hm:t.made.length+6≤1000000) (hp:∀w1,PutK w0 base B Bd Bf D0 g i at_ n vb (Foot Bf vb vm D) w1 vk ks) (hlen:t.F.blocks.length=40) {q:Nat} (hq:q<40) (h0:t.F.blocks.getD q 0=0) (hl:8≤q∧t.F.more=0) (off:Nat) (x:ByteArray) (hx:off+x.size≤64) (hx1:1≤x.size) :
 Calls Tryz.prog 161 #[pt Bf,.int .i64 (q:Int),.int .i64 (off:Int),.string x,vk] w (FDone w0 base B Bd Bf D0 g i at_ n vb (Foot Bf vb vm D) w (t.putC g i ks q off x) (.tuple #[]) (t.put g i ks q off x)):=by
 obtain⟨w1,hw1⟩:=zx (w.alloc (.cells #[.int .i64 (off:Int),.string x] 167))
 have hb1:Below w.heap.size w w1:=by rw[←hw1]; exact bl2 _
 have hz1:w1.heap[w.heap.size]? = some (.cells #[.int .i64 (off:Int),.string x] 167 (0,0)):=by rw[←hw1]; exact heapNew w _
 have hM1:=h.below hb1
 obtain⟨TB,hTB⟩:=zx ((t.fresh g ks Sp.blank).more g i (t.newN g ks) (t.newA g ks Sp.blank))
 have hL:t.listed g i ks q=TB:=(if_pos hl).trans hTB
 have hLC:t.listedC g i ks q=thenC (t.freshC g ks Sp.blank) ((t.fresh g ks Sp.blank).moreC g i (t.newN g ks) (t.newA g ks Sp.blank)):=if_pos hl
 have hfB:∀(_:t.made.length+6≤1000000),Fine TB∧TB.made.length=t.made.length+3∧TB.F.blocks=t.F.blocks:=fun _=>by
  have h1:=hf.fresh (by omega) g ks Sp.blank
  have h2:=h1.chg (by rw[q87z]; omega) (q1z g i) 24 (putB 2 (t.newN g ks)) (t.newA g ks Sp.blank)
  rw[←hTB]
  refine⟨h2,?_,rfl⟩
  show((t.fresh g ks Sp.blank).made ++ [_]).length=_
  rw[List.length_append,q87z,List.length_singleton]
 obtain⟨hfB1,hfB2,hfB3⟩:=hfB hm
 have hlenB:TB.F.blocks.length=40:=by rw[hfB3]; exact hlen
 have hC:t.putC g i ks q off x=thenC (thenC (t.freshC g ks Sp.blank) ((t.fresh g ks Sp.blank).moreC g i (t.newN g ks) (t.newA g ks Sp.blank))) (thenC (TB.freshC g ks (allB off x)) ((TB.fresh g ks (allB off x)).nameC g i q (TB.newN g ks) (TB.newA g ks (allB off x)))):=by
  unfold BSt.putC
  rw[if_neg (by rw[h0]; decide),hLC,hL]
  rfl
 have hT:t.put g i ks q off x=(TB.fresh g ks (allB off x)).name g i q (TB.newN g ks) (TB.newA g ks (allB off x)):=by
  unfold BSt.put
  rw[if_neg (by rw[h0]; decide),hL]
  rfl
 rw[hC,hT]
 have hbl:=fun W:World=>q84z W
 have hmu:=fun W:World=>q170z W
 have hpd:∀(W:World) (b:Nat),W.heap[b]? = some (.cells #[.int .i64 (off:Int),.string x] 167 (0,0))→Calls Tryz.prog 117 #[.string Sp.blank,.slice (some ⟨b,0,none⟩) 1 1] W fun e w'=>e = .returned (.tuple #[.string (allB off x),.int .i64 0])∧Below W.heap.size W w':=fun W b hb=>by
  have:=q115z W Sp.blank (.slice (some ⟨b,0,none⟩) 1 1) [((off:Int),x)] (RowAt.block (vs:=[patC ((off:Int),x)]) (fun y hy=>by rw[List.mem_singleton.1 hy]; rfl) hb rfl (Nat.le_refl _) (by decide)) (by unfold Sp.blank; rw[Lib.size_eq,q8z,zeros_length]) (by show(1:Nat)≤1024; decide) (fun p hp=>by rw[List.mem_singleton.1 hp]; unfold inside; dsimp only; omega)
  have e:ofL (q19z Sp.blank.data.toList [((off:Int),x)])=allB off x:=by unfold allB; rfl
  rw[e] at this
  exact this
 have hft:=h.footLt
 have hfr1:=fun W (hW:Below w1.heap.size w1 W)=>(hp w1).fresh hf (by omega) Sp.blank hM1 (fun j hj=>Or.inl hj) (Turn.refl _ _) hW
 have hmore:=fun w3 vm3 D3 va (hc0:t.freshC g ks Sp.blank=0) (hM3:FM w0 base B Bd Bf D0 g i at_ n (t.fresh g ks Sp.blank) vb vm3 D3 w3) (hf3:∀j,Foot Bf vb vm3 D3 j→Foot Bf vb vm D j∨w1.heap.size≤j) (hT3:Turn (Foot Bf vb vm D) w1 w3) (ho3:OwnR 3 1 intC w1.heap.size w3 va (t.newA g ks Sp.blank))=>
  (hp w1).more (hf.fresh (by omega) g ks Sp.blank) (by rw[q87z]; omega) (q114z (hp w).ok (hp w).groups hc0).1 (q114z (hp w).ok (hp w).groups hc0).2 (newA_len ..) ho3 hM3 hf3 hT3
 rw[hTB] at hmore
 have hfreF:=fun wX vmX DX (hMX:FM w0 base B Bd Bf D0 g i at_ n TB vb vmX DX wX) (hfX:∀j,Foot Bf vb vmX DX j→Foot Bf vb vm D j∨w1.heap.size≤j) (hTX:Turn (Foot Bf vb vm D) w1 wX) W (hW:Below wX.heap.size wX W)=>(hp w1).fresh hfB1 (by omega) (allB off x) hMX hfX hTX hW
 have hT1:Turn (Foot Bf vb vm D) w w1:=Turn.of_below hb1
 have hname:=fun w6 vm6 D6 va (hc0:TB.freshC g ks (allB off x)=0) (hM6:FM w0 base B Bd Bf D0 g i at_ n (TB.fresh g ks (allB off x)) vb vm6 D6 w6) (hf6:∀j,Foot Bf vb vm6 D6 j→Foot Bf vb vm D j∨w1.heap.size≤j) (hT6:Turn (Foot Bf vb vm D) w1 w6) (ho6:OwnR 3 1 intC w1.heap.size w6 va (TB.newA g ks (allB off x))) (hn6:∀b,va.ownBlock=some b→¬Foot Bf vb vm6 D6 b)=>
  (hp w1).name (hfB1.fresh (by omega) g ks (allB off x)) (by rw[q87z]; omega) hlenB hq (q114z (hp w).ok (hp w).groups hc0).1 (q114z (hp w).ok (hp w).groups hc0).2 (newA_len ..) ho6 hn6 hM6 hf6 hT6
 have hbxF:∀wX,Turn (Foot Bf vb vm D) w1 wX→∀W,Below wX.heap.size wX W→W.cell? ⟨w.heap.size,0,none⟩=some (.int .i64 (off:Int))∧W.cell? ⟨w.heap.size,1,none⟩=some (.string x):=fun wX hTX W hW=>by
  have hz:=hTX.heap hz1 (fun hd=>by have:=hft _ hd; omega)
  exact⟨zc 0 (heapOld hW hz),zc 1 (heapOld hW hz)⟩
 obtain⟨gb,cap,hvb0,c0a⟩:=hM1.blkCell (q:=q) (by omega)
 have x20a:=zc 20 hM1.core.box
 have x20:w1.cell? ⟨Bf,20,none⟩=some (.slice (some ⟨gb,0,none⟩) 40 cap):=by rw[←hlen,←hvb0]; exact x20a
 have x19a:=zc 19 hM1.core.box
 have x19:w1.cell? ⟨Bf,19,none⟩=some (.int .i64 0):=by rw[←hl.2]; exact x19a
 rw[h0] at c0a
 have hq1:(q:Int)<40:=by omega
 have q8:decide ((q:Int)≥8)=true:=decide_eq_true (by omega)
 clear x20a x19a hvb0 hL hLC hTB hfB3
 obtain⟨Ta,hTa⟩:=zx (t.fresh g ks Sp.blank)
 obtain⟨Na,hNa⟩:=zx (t.newN g ks)
 obtain⟨Aa,hAa⟩:=zx (t.newA g ks Sp.blank)
 obtain⟨ka,hka⟩:=zx (t.freshC g ks Sp.blank)
 rw[hTa,hNa,hAa,hka] at hfr1 hmore
 rw[hTa,hNa,hAa,hka]
 obtain⟨kb,hkb⟩:=zx (Ta.moreC g i Na Aa)
 obtain⟨Nb,hNb⟩:=zx (Ta.S.changeN (q1z g i) 24 (putB 2 Na) Aa)
 rw[hkb,hNb] at hmore
 rw[hkb]
 obtain⟨T2,hT2⟩:=zx (TB.fresh g ks (allB off x))
 obtain⟨N,hN⟩:=zx (TB.newN g ks)
 obtain⟨A,hA⟩:=zx (TB.newA g ks (allB off x))
 obtain⟨k1,hk1⟩:=zx (TB.freshC g ks (allB off x))
 rw[hT2,hN,hA,hk1] at hfreF hname
 rw[hT2,hN,hA,hk1]
 obtain⟨X,hX⟩:=zx (allB off x)
 rw[hX] at hfreF hpd
 obtain⟨k2,hk2⟩:=zx (T2.nameC g i q N A)
 obtain⟨T3,hT3⟩:=zx (T2.name g i q N A)
 obtain⟨N2,hN2⟩:=zx (T2.S.changeN (q7z g i T2.F q) (q9z q) (putB 2 N) A)
 rw[hk2,hT3,hN2] at hname
 rw[hk2,hT3]
 have hstopA:∀w',ka≠0→Turn (Foot Bf vb vm D) w1 w'→FDone w0 base B Bd Bf D0 g i at_ n vb (Foot Bf vb vm D) w (thenC (thenC ka kb) (thenC k1 k2)) (.tuple #[]) T3 (stopE ka) w':=fun w' hk hT'=>by
  rw[q37z hk,q37z hk]
  exact q168z hk (hT1.trans hT' (fun _ _ h=>h) (fun _ _ h=>h)) _ _
 have hstopB:∀w',ka=0→kb≠0→Turn (Foot Bf vb vm D) w1 w'→FDone w0 base B Bd Bf D0 g i at_ n vb (Foot Bf vb vm D) w (thenC (thenC ka kb) (thenC k1 k2)) (.tuple #[]) T3 (stopE kb) w':=fun w' hk hk' hT'=>by
  rw[q11z hk,q37z hk']
  exact q168z hk' (hT1.trans hT' (fun _ _ h=>h) (fun _ _ h=>h)) _ _
 have hstop:ka=0→kb=0→∀w',k1≠0→Turn (Foot Bf vb vm D) w1 w'→FDone w0 base B Bd Bf D0 g i at_ n vb (Foot Bf vb vm D) w (thenC (thenC ka kb) (thenC k1 k2)) (.tuple #[]) T3 (stopE k1) w':=fun ha hb w' hk hT'=>by
  rw[q11z ha,q11z hb,q37z hk]
  exact q168z hk (hT1.trans hT' (fun _ _ h=>h) (fun _ _ h=>h)) _ _
 have hend:ka=0→kb=0→∀e w',k1=0→FDone w0 base B Bd Bf D0 g i at_ n vb (Foot Bf vb vm D) w1 k2 (.int .i64 N2) T3 e w' →
  (k2=0→FDone w0 base B Bd Bf D0 g i at_ n vb (Foot Bf vb vm D) w (thenC (thenC ka kb) (thenC k1 k2)) (.tuple #[]) T3 (.returned (.tuple #[])) w')∧(k2≠0→FDone w0 base B Bd Bf D0 g i at_ n vb (Foot Bf vb vm D) w (thenC (thenC ka kb) (thenC k1 k2)) (.tuple #[]) T3 (stopE k2) w'):=fun ha hb e w' hk hd=>by
  rw[q11z ha,q11z hb,q11z hk]
  have:=hd.ahead (K:=Foot Bf vb vm D) (w:=w) (fun j hj=>Or.inl hj) hT1
  exact⟨fun h=>this.val h _,fun h=>this.stop h _ _⟩
 obtain⟨Q,hQ⟩:=zx (FDone w0 base B Bd Bf D0 g i at_ n vb (Foot Bf vb vm D) w (thenC (thenC ka kb) (thenC k1 k2)) (.tuple #[]) T3)
 rw[hQ] at hstopA hstopB hstop hend ⊢
 unfold pt at hfr1 hmore hfreF hname ⊢
 have HSTOP0:=zh hstop
 have HEND0:=zh hend
 have HBL:=zh hbl
 have HMU:=zh hmu
 have HPD:=zh hpd
 have HFR1:=zh hfr1
 have HMORE:=zh hmore
 have HFREF:=zh hfreF
 have HNAME:=zh hname
 have HBXF:=zh hbxF
 have HSTOPA:=zh hstopA
 have HSTOPB:=zh hstopB
 clear hbl hmu hpd hfr1 hmore hfreF hname hbxF hstopA hstopB
 clear h hf hm hp hlen hq h0 hx hx1 hb1 hz1 hM1 hC hT hT1 hTa hNa hAa hka hkb hNb hT2 hN hA hk1 hX hk2 hT3 hN2 hQ hstop hend hl hft hfB hfB1 hfB2 hlenB
 go_enter Tryz.func161,Tryz.ntmps161
 go_wp2_with fail
 refine(HBL.out _).mono ?_
 rintro e w2 ⟨rfl,hb2⟩
 have HFR1':=zh (HFR1.out w2 hb2)
 clear hb2
 go_wp2_with fail
 refine HFR1'.out.mono ?_
 intro e w3 hd
 obtain⟨hd1,hT3'⟩:=hd
 rcases hd1 with ⟨hca,va,rfl,ho3,vm3,D3,hM3,hf3,-⟩ | ⟨hca,rfl⟩
 ·have HMo:=zh (HMORE.out w3 vm3 D3 va hca hM3 hf3 hT3' ho3)
  clear hM3 hf3 hT3' ho3
  go_wp2_with fail
  refine HMo.out.mono ?_
  intro e wX hd
  obtain⟨hd1,hTX⟩:=hd
  rcases hd1 with ⟨hcb,rfl,vmX,DX,hMX,hfX⟩ | ⟨hcb,rfl⟩
  ·have HFRE:=zh (HFREF.out wX vmX DX hMX hfX hTX)
   have HBX:=zh (HBXF.out wX hTX)
   have HSTOP:=zh (HSTOP0.out hca hcb)
   have HEND:=zh (HEND0.out hca hcb)
   clear hMX hfX hTX hca hcb
   go_wp2_with fail
   go_region_held3 (fun W=>W.cell? ⟨w.heap.size,0,none⟩=some (.int .i64 (off:Int))∧W.cell? ⟨w.heap.size,1,none⟩=some (.string x))
    ((refine HBX.out _ ?_; repeat' first | with_reducible exact Below.refl _ _ | with_reducible exact HBa.out | with_reducible exact HBb.out | with_reducible refine blD ?_ | with_reducible refine bl1 ?_ _))
    (first
      | (go_at_call 35
         refine(HBL.out _).mono ?_
         rintro e wa ⟨rfl,hba⟩
         have HBc:=zh hba
         have HBa:Hid (Below wX.heap.size wX wa):=blN (by repeat' first | with_reducible exact Below.refl _ _ | with_reducible refine blD ?_ | with_reducible refine bl1 ?_ _) hba
         clear hba
         simp only)
      | (go_at_call 117
         with_reducible refine(HPD.out _ _ ?a1).mono ?_
         case a1=>first | with_reducible exact heapNew _ _ | exact heapOld HBc.out (heapNew _ _)
         rintro e wb ⟨rfl,hbb⟩
         have HBb:Hid (Below wX.heap.size wX wb):=blN (by repeat' first | with_reducible exact HBa.out | with_reducible refine blD ?_ | with_reducible refine bl1 ?_ _) hbb
         clear hbb
         simp only))
   all_goals
    clear HBa HBc
    have HFR:=zh (HFRE.out wb HBb.out)
    go_wp2_with fail
    refine(HMU.out _).mono ?_
    rintro e wc ⟨rfl,hwc⟩
    replace hwc:=hwc.symm
    subst hwc
    go_wp2_with fail
    refine HFR.out.mono ?_
    intro e w6 hd
    obtain⟨hd1,hT6⟩:=hd
    rcases hd1 with ⟨hc0,va,rfl,ho6,vm6,D6,hM6,hf6,hn6⟩ | ⟨hc0,rfl⟩
    ·have HNm:=zh (HNAME.out w6 vm6 D6 va hc0 hM6 hf6 hT6 ho6 hn6)
     clear hM6 hf6 hT6 ho6 hn6
     go_wp2_with fail
     refine HNm.out.mono ?_
     intro e w7 hd
     have HF7:=zh (HEND.out _ _ hc0 hd)
     obtain⟨hd1,-⟩:=hd
     rcases hd1 with ⟨h0,rfl,-⟩ | ⟨h0,rfl⟩
     ·have HF8:=zh (HF7.out.1 h0)
      go_wp2
      first | exact HF8.out | (go_end0; exact HF8.out)
     ·have HF8:=zh (HF7.out.2 h0)
      clear h0
      unfold stopE at HF8 ⊢
      go_wp2
      exact⟨rfl,HF8.out⟩
    ·have HF8:=zh (HSTOP.out _ hc0 hT6)
     clear hc0
     unfold stopE at HF8 ⊢
     go_wp2
     exact⟨rfl,HF8.out⟩
  ·have HF8:=zh (HSTOPB.out _ hca hcb hTX)
   clear hca hcb
   unfold stopE at HF8 ⊢
   go_wp2
   exact⟨rfl,HF8.out⟩
 ·have HF8:=zh (HSTOPA.out _ hca hT3')
  clear hca
  unfold stopE at HF8 ⊢
  go_wp2
  exact⟨rfl,HF8.out⟩
theorem fput_any (h:FM w0 base B Bd Bf D0 g i at_ n t vb vm D w) (hf:Fine t) (hm:t.made.length+6≤1000000) (hp:∀K w1,PutK w0 base B Bd Bf D0 g i at_ n vb K w1 vk ks) (hlen:t.F.blocks.length=40) {q:Nat} (hq:q<40) (h0:0≤t.F.blocks.getD q 0) (off:Nat) (x:ByteArray) (hx:off+x.size≤64) (hx1:1≤x.size) :
 Calls Tryz.prog 161 #[pt Bf,.int .i64 (q:Int),.int .i64 (off:Int),.string x,vk] w (FDone w0 base B Bd Bf D0 g i at_ n vb (Foot Bf vb vm D) w (t.putC g i ks q off x) (.tuple #[]) (t.put g i ks q off x)):=by
 by_cases h1:t.F.blocks.getD q 0=0
 ·by_cases hl:8≤q∧t.F.more=0
  ·exact fput_list h hf hm (hp _) hlen hq h1 hl off x hx hx1
  ·exact fput_plain h hf (by omega) (hp _) hlen hq h1 hl off x hx hx1
 ·exact fput_there h hf (by omega) hlen hq (by omega) ks off x vk
end
