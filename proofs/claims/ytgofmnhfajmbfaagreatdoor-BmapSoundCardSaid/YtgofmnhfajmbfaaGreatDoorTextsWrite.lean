import Derived.Test.YtgofmnhfajmbfaaGreatDoorGroups16
set_option maxRecDepth 20000
set_option maxHeartbeats 8000000
namespace Go.Proofs.YtgofmnhfajmbfaaGreatDoor
open Go Go.RowKit Txt Sp
theorem wrT_cut {t d:List UInt8} {off N:Nat} (hN:N=max t.length (off+d.length)):q5z (cutT t N) off d=wrT t off d:=by
 unfold wrT cutT
 rw[List.take_of_length_le (by omega),show N-t.length=off+d.length-t.length by omega]
theorem Sp.Texts2.more {g:Sp.Geom} {S:Sp.Side} {t0 t1:List UInt8} {m:Nat} (h:Texts2 g S t0 t1 m):Texts2 g S t0 t1 (m+1):=by
 obtain⟨F,G,Y,r,hb,h0,h1,hp⟩:=h
 exact⟨F,G,Y,r,hb,h0,h1,by omega,hp.2⟩
theorem done_same {w wr w':World} {g:Sp.Geom} {B Bd tb m:Nat} {S:Sp.Side} {D:Nat→Prop} {t0 t1:List UInt8} (h:TMem w B Bd tb S D t0 t1 wr) (ht:Texts2 g S t0 t1 m) (hb:Below wr.heap.size wr w'):q56z w g S B Bd tb m D wr (.returned (.bool true)) w':=
 ⟨rfl,S,D,t0,t1,h.below hb,ht.more,⟨fun _=>False,fun _ h=>h.elim,Turn.of_below hb⟩,fun _ hj=>Or.inl hj,rfl⟩
section
theorem doneLong_any {w wr:World} {g:Sp.Geom} {B Bd tb m:Nat} {S:Sp.Side} {D:Nat→Prop} {t0 t1:List UInt8} (h:TMem w B Bd tb S D t0 t1 wr) (ht:Texts2 g S t0 t1 m) (k:Bool) (off:Int) (x:ByteArray) (hx:160<x.size) (p:Value) :
 Calls Tryz.prog 23 #[.pointer (some ⟨tb,0,none⟩),pt B,gV g,doV k off x p] wr (q56z w g S B Bd tb m D wr):=by
 have ham:=fun W:World=>q147z W off 2400 (by decide) (by decide)
 obtain⟨z,hz⟩:=zx (q94z off 2400)
 rw[hz] at ham
 simp only[show((2400:Nat):Int)=2400 from rfl] at ham
 obtain⟨ga,gb,gc⟩:=g
 obtain⟨W0,hW0⟩:=zx ((wr.alloc (.cells #[.int .i64 ga,.int .i64 gb,.int .i64 gc] 23)).alloc (.cells #[.bool k,.int .i64 off,.string x,p] 60))
 have hb0:Below wr.heap.size wr W0:=by rw[←hW0]; exact bl1 (bl2 _) _
 have hxb:W0.heap[wr.heap.size+1]? = some (.cells #[.bool k,.int .i64 off,.string x,p] 60 (0,0)):=by
  have:=heapNew (wr.alloc (.cells #[.int .i64 ga,.int .i64 gb,.int .i64 gc] 23)) (.cells #[.bool k,.int .i64 off,.string x,p] 60)
  rw[hW0] at this
  simpa using this
 have HE:=zh (done_same h ht hb0)
 have x0:W0.cell? ⟨wr.heap.size+1,0,none⟩=some (.bool k):=zc 0 hxb
 have x1:W0.cell? ⟨wr.heap.size+1,1,none⟩=some (.int .i64 off):=zc 1 hxb
 have x2:W0.cell? ⟨wr.heap.size+1,2,none⟩=some (.string x):=zc 2 hxb
 have q0:(x.toList == (⟨#[]⟩:ByteArray).toList)=false:=(text_eq _ _).trans (decide_eq_false (fun e=>by rw[e] at hx; exact absurd hx (by decide)))
 have q1:(x.toList == ([]:List UInt8))=false:=by rw[Lib.toList_data] at q0 ⊢; rw[Lib.toList_data] at q0; exact q0
 have q2:decide ((x.size:Int) > 160)=true:=decide_eq_true (by omega)
 obtain⟨dp,hdp⟩:=zx (q56z w ⟨ga,gb,gc⟩ S B Bd tb m D wr)
 rw[hdp] at HE ⊢
 unfold gV doV pt
 have HAM:=zh ham
 clear ham
 clear h ht hb0 hxb hz hdp
 cases k with
 | false=>
   go_enter Tryz.func23,Tryz.ntmps23
   go_wp2_with fail
   refine(HAM.out _).mono ?_
   rintro e w1 ⟨rfl,hw1⟩
   replace hw1:=hw1.symm
   subst hw1
   go_wp2_with fail
   exact HE.out
 | true=>
   go_enter Tryz.func23,Tryz.ntmps23
   go_wp2_with fail
   refine(HAM.out _).mono ?_
   rintro e w1 ⟨rfl,hw1⟩
   replace hw1:=hw1.symm
   subst hw1
   go_wp2_with fail
   exact HE.out
theorem doneNo_any {w wr:World} {g:Sp.Geom} {B Bd tb m:Nat} {S:Sp.Side} {D:Nat→Prop} {t0 t1:List UInt8} (h:TMem w B Bd tb S D t0 t1 wr) (ht:Texts2 g S t0 t1 m) (hm:m<12) (k:Bool) (off:Int) (z:Nat) (hz:q94z off 2400=(z:Int)) (x:ByteArray) (hx:x.size≤160) (hx0:x.data.toList≠[]) (p:Value) (n:Nat) (hgn:g.groups=(n:Int)) (hn1:n≤1000)
 (hno:∀(W:World) (base B Bd:Nat) (D:Nat→Prop) (vk:Value),SideAt W base B Bd S D→(∀j,D j→j<W.heap.size)→(∀W',Turn D W W'→Ints W' vk (grpL n)) →
   Calls Tryz.prog 83 #[pt B,gV g,.int .i64 (noK k),.int .i64 (z:Int),.string x,vk] W fun e w'=>e = .returned (.tuple #[.slice none 0 0,.int .i64 109])∧Turn D W w') :
 Calls Tryz.prog 23 #[.pointer (some ⟨tb,0,none⟩),pt B,gV g,doV k off x p] wr (q56z w g S B Bd tb m D wr):=by
 have ham:=fun W:World=>q147z W off 2400 (by decide) (by decide)
 rw[hz] at ham
 simp only[show((2400:Nat):Int)=2400 from rfl] at ham
 have hgr:=fun W:World=>groups16_any W (g:=g) n hgn hn1
 have hll:=(texts_last ht (by omega)).2
 have hdone:=fun(w':World) (hb:Below wr.heap.size wr w')=>done_same h ht hb
 obtain⟨ga,gb,gc⟩:=g
 obtain⟨W0,hW0⟩:=zx ((wr.alloc (.cells #[.int .i64 ga,.int .i64 gb,.int .i64 gc] 23)).alloc (.cells #[.bool k,.int .i64 off,.string x,p] 60))
 have hb0:Below wr.heap.size wr W0:=by rw[←hW0]; exact bl1 (bl2 _) _
 have hgb:W0.heap[wr.heap.size]? = some (.cells #[.int .i64 ga,.int .i64 gb,.int .i64 gc] 23 (0,0)):=by
  rw[←hW0]
  exact heapOld (bl2 _) (heapNew wr _)
 have hxb:W0.heap[wr.heap.size+1]? = some (.cells #[.bool k,.int .i64 off,.string x,p] 60 (0,0)):=by
  have:=heapNew (wr.alloc (.cells #[.int .i64 ga,.int .i64 gb,.int .i64 gc] 23)) (.cells #[.bool k,.int .i64 off,.string x,p] 60)
  rw[hW0] at this
  simpa using this
 have h0:=h.below hb0
 have hfk:=softFork_any h0.side (by omega)
 have HS:Hid (∀W,Below W0.heap.size W0 W→W.cell? ⟨wr.heap.size,0,none⟩=some (.int .i64 ga)∧W.cell? ⟨wr.heap.size,1,none⟩=some (.int .i64 gb)∧W.cell? ⟨wr.heap.size,2,none⟩=some (.int .i64 gc)∧W.cell? ⟨wr.heap.size+1,2,none⟩=some (.string x)):=fun W hW=>
  have hh:=heapOld hW hgb
  ⟨zc 0 hh,zc 1 hh,zc 2 hh,zc 2 (heapOld hW hxb)⟩
 have x0:W0.cell? ⟨wr.heap.size+1,0,none⟩=some (.bool k):=zc 0 hxb
 have x1:W0.cell? ⟨wr.heap.size+1,1,none⟩=some (.int .i64 off):=zc 1 hxb
 have x2:W0.cell? ⟨wr.heap.size+1,2,none⟩=some (.string x):=zc 2 hxb
 have q1:(x.toList == ([]:List UInt8))=false:=by rw[Lib.toList_data]; exact beq_eq_false_iff_ne.2 hx0
 have q2:decide ((x.size:Int) > 160)=false:=decide_eq_false (by omega)
 have HW:Hid (∀(W W2:World) (B':Nat) (D':Nat→Prop) (vk:Value),SideAt W W0.heap.size B' Bd S D'→(∀j,D' j→W0.heap.size≤j∧j<W.heap.size)→Below W0.heap.size W0 W→Below W.heap.size W W2→OwnR 3 1 intC W.heap.size W2 vk (grpL n) →
  Calls Tryz.prog 83 #[pt B',gV ⟨ga,gb,gc⟩,.int .i64 (noK k),.int .i64 (z:Int),.string x,vk] W2 fun e w'=>e = .returned (.tuple #[.slice none 0 0,.int .i64 109])∧q56z w ⟨ga,gb,gc⟩ S B Bd tb m D wr (.returned (.bool true)) w'):=by
  intro W W2 B' D' vk hs hl hb hb2 hv
  refine(hno W2 W0.heap.size B' Bd D' vk (hs.below hb2) (fun j hj=>Nat.lt_of_lt_of_le (hl j hj).2 hb2.size) (fun W' hT=>?_)).mono ?_
  ·exact OwnR.row (f:=intC) (fun _ _=>rfl) (hv.turn hT (fun q hq hd=>by have:=(hv.lt q hq).1; have:=(hl q hd).2; omega))
  ·rintro e w' ⟨rfl,hT⟩
   refine⟨rfl,hdone w' (blN hb0 ((blN hb hb2).trans (hT.below (fun j hj=>(hl j hj).1) ?_)))⟩
   exact Nat.le_trans hb.size hb2.size
 obtain⟨dp,hdp⟩:=zx (q56z w ⟨ga,gb,gc⟩ S B Bd tb m D wr)
 rw[hdp] at HW ⊢
 unfold gV at hgr HW ⊢
 unfold pt at *
 unfold doV
 dsimp only at hgr
 have HAM:=zh ham
 have HFK:=zh hfk
 have HGR:=zh hgr
 clear ham hfk hgr
 clear h ht hm hno hll hb0 hgb hxb h0 hz hdp hdone hgn hx hx0
 cases k with
 | false=>
   simp only[noK,Bool.false_eq_true,if_false] at HW
   go_enter Tryz.func23,Tryz.ntmps23
   go_wp2_with fail
   refine(HAM.out _).mono ?_
   rintro e w1 ⟨rfl,hw1⟩
   replace hw1:=hw1.symm
   subst hw1
   go_wp2_with fail
   clear x0 x1 x2 hW0
   refine HFK.out.mono ?_
   rintro e w2 ⟨B',D',rfl,hs2,hb2,hl2⟩
   have HWW:=zh (fun W2 vk (h1:Below w2.heap.size w2 W2) h2=>HW.out w2 W2 B' D' vk hs2 hl2 hb2 h1 h2)
   have HS2:=zh (fun W (hW:Below w2.heap.size w2 W)=>HS.out W (blN hb2 hW))
   have hSd:=HS2.out w2.drew (blD (Below.refl _ _))
   clear hs2 hl2 hb2 HW HS HFK
   go_upto_region 17 with fail
   refine wp_region_last (fun W=>W.cell? ⟨wr.heap.size,0,none⟩=some (.int .i64 ga)∧W.cell? ⟨wr.heap.size,1,none⟩=some (.int .i64 gb)∧W.cell? ⟨wr.heap.size,2,none⟩=some (.int .i64 gc)∧W.cell? ⟨wr.heap.size+1,2,none⟩=some (.string x)) 9 (by kernel_rfl) (by first | trivial | assumption) (fun hHeld hX0=>?_)
   refine tkU 0 ?_; clear hX0; intro hX0; simp only[Act.put,ps0]
   refine tkU 1 ?_; clear hX0; intro hX0; simp only[Act.put,ps0]
   refine tkU 2 ?_; clear hX0; intro hX0; simp only[Act.put,ps0]
   refine tkU 3 ?_; clear hX0; intro hX0; simp only[Act.put,ps0]
   refine tkU 4 ?_; clear hX0; intro hX0; simp only[Act.put,ps0]
   refine tkU 5 ?_; clear hX0; intro hX0; simp only[Act.put,ps0]
   refine tkU 6 ?_; clear hX0; intro hX0; simp only[Act.put,ps0]
   refine tkU 7 ?_; clear hX0; intro hX0; simp only[Act.put,ps0]
   refine AnyU.each (is:=[8]) (by kernel_rfl) (by simp) (EachU.cons hX0 (by kernel_rfl) rfl (fun K hK=>?_) EachU.nil)
   try simp only[gg0]
   go_simp
   refine(HGR.out _).mono ?_
   rintro e w3 ⟨vk,rfl,hv3,hb3⟩
   have hb3':Below w2.heap.size w2 w3:=blN (blD (Below.refl _ _)) hb3
   have HWX:=zh (HWW.out w3 vk hb3' hv3)
   have hS3:=HS2.out w3 hb3'
   clear hv3 hb3 hb3' HWW
   try simp only
   refine hK.out _ _ (fun _=>?hkS) (fun hHeld2 hX1=>?_)
   case hkS=>
    exact hS3
   clear hHeld; have hHeld:=hHeld2 (by decide)
   clear hK K hHeld2 hX0; have hX0:=hX1; clear hX1
   try simp only[Act.put,ps0]
   refine AnyU.each (is:=[9]) (by kernel_rfl) (by simp) (EachU.cons hX0 (by kernel_rfl) rfl (fun K hK=>?_) EachU.nil)
   try simp only[gg0]
   go_simp
   refine HWX.out.mono ?_
   rintro e w4 ⟨rfl,hd4⟩
   try simp only
   refine hK.out _ _ (fun h=>absurd h (by decide)) (fun _ hX1=>?_)
   clear hK K hX0; have hX0:=hX1; clear hX1
   try simp only[Act.put,ps0]
   refine pkU 10 ?_; clear hX0; intro hX0; simp only[Act.put,ps0]
   refine pkU 11 ?_; clear hX0; intro hX0; simp only[Act.put,ps0]
   refine pkU 12 ?_; clear hX0; intro hX0; simp only[Act.put,ps0]
   refine pkU 13 ?_; clear hX0; intro hX0; simp only[Act.put,ps0]
   refine pkU 14 ?_; clear hX0; intro hX0; simp only[Act.put,ps0]
   refine AnyU.done (by kernel_rfl) ?_ _
   have HE:=zh hd4
   clear hd4 hSd hHeld hX0 hS3 HWX HS2 HGR
   go_wp2_with fail
   exact HE.out
 | true=>
   simp only[noK,if_true] at HW
   go_enter Tryz.func23,Tryz.ntmps23
   go_wp2_with fail
   refine(HAM.out _).mono ?_
   rintro e w1 ⟨rfl,hw1⟩
   replace hw1:=hw1.symm
   subst hw1
   go_wp2_with fail
   clear x0 x1 x2 hW0
   refine HFK.out.mono ?_
   rintro e w2 ⟨B',D',rfl,hs2,hb2,hl2⟩
   have HWW:=zh (fun W2 vk (h1:Below w2.heap.size w2 W2) h2=>HW.out w2 W2 B' D' vk hs2 hl2 hb2 h1 h2)
   have HS2:=zh (fun W (hW:Below w2.heap.size w2 W)=>HS.out W (blN hb2 hW))
   have hSd:=HS2.out w2.drew (blD (Below.refl _ _))
   clear hs2 hl2 hb2 HW HS HFK
   go_upto_region 17 with fail
   refine wp_region_last (fun W=>W.cell? ⟨wr.heap.size,0,none⟩=some (.int .i64 ga)∧W.cell? ⟨wr.heap.size,1,none⟩=some (.int .i64 gb)∧W.cell? ⟨wr.heap.size,2,none⟩=some (.int .i64 gc)∧W.cell? ⟨wr.heap.size+1,2,none⟩=some (.string x)) 9 (by kernel_rfl) (by first | trivial | assumption) (fun hHeld hX0=>?_)
   refine tkU 0 ?_; clear hX0; intro hX0; simp only[Act.put,ps0]
   refine tkU 1 ?_; clear hX0; intro hX0; simp only[Act.put,ps0]
   refine tkU 2 ?_; clear hX0; intro hX0; simp only[Act.put,ps0]
   refine tkU 3 ?_; clear hX0; intro hX0; simp only[Act.put,ps0]
   refine tkU 4 ?_; clear hX0; intro hX0; simp only[Act.put,ps0]
   refine tkU 5 ?_; clear hX0; intro hX0; simp only[Act.put,ps0]
   refine tkU 6 ?_; clear hX0; intro hX0; simp only[Act.put,ps0]
   refine tkU 7 ?_; clear hX0; intro hX0; simp only[Act.put,ps0]
   refine AnyU.each (is:=[8]) (by kernel_rfl) (by simp) (EachU.cons hX0 (by kernel_rfl) rfl (fun K hK=>?_) EachU.nil)
   try simp only[gg0]
   go_simp
   refine(HGR.out _).mono ?_
   rintro e w3 ⟨vk,rfl,hv3,hb3⟩
   have hb3':Below w2.heap.size w2 w3:=blN (blD (Below.refl _ _)) hb3
   have HWX:=zh (HWW.out w3 vk hb3' hv3)
   have hS3:=HS2.out w3 hb3'
   clear hv3 hb3 hb3' HWW
   try simp only
   refine hK.out _ _ (fun _=>?hkS) (fun hHeld2 hX1=>?_)
   case hkS=>
    exact hS3
   clear hHeld; have hHeld:=hHeld2 (by decide)
   clear hK K hHeld2 hX0; have hX0:=hX1; clear hX1
   try simp only[Act.put,ps0]
   refine AnyU.each (is:=[9]) (by kernel_rfl) (by simp) (EachU.cons hX0 (by kernel_rfl) rfl (fun K hK=>?_) EachU.nil)
   try simp only[gg0]
   go_simp
   refine HWX.out.mono ?_
   rintro e w4 ⟨rfl,hd4⟩
   try simp only
   refine hK.out _ _ (fun h=>absurd h (by decide)) (fun _ hX1=>?_)
   clear hK K hX0; have hX0:=hX1; clear hX1
   try simp only[Act.put,ps0]
   refine pkU 10 ?_; clear hX0; intro hX0; simp only[Act.put,ps0]
   refine pkU 11 ?_; clear hX0; intro hX0; simp only[Act.put,ps0]
   refine pkU 12 ?_; clear hX0; intro hX0; simp only[Act.put,ps0]
   refine pkU 13 ?_; clear hX0; intro hX0; simp only[Act.put,ps0]
   refine pkU 14 ?_; clear hX0; intro hX0; simp only[Act.put,ps0]
   refine AnyU.done (by kernel_rfl) ?_ _
   have HE:=zh hd4
   clear hd4 hSd hHeld hX0 hS3 HWX HS2 HGR
   go_wp2_with fail
   exact HE.out
end
