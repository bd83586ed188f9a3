import Derived.Test.YtmljdnlmpiklgaaGreatDoorRefD
namespace Go.Proofs.YtmljdnlmpiklgaaGreatDoor
open Go Go.RowKit Txt Sp
def nodeB (k l z p ge:Nat) (D:List Nat) (j:Nat):List UInt8:=[UInt8.ofNat k,UInt8.ofNat l] ++ textL 2 z ++ textL 2 p ++ textL 2 ge ++ (D.take j).flatMap (textL 2)
theorem nodeB_snoc {k l z p ge:Nat} {D:List Nat} {j x:Nat} (h:D[j]? = some x):nodeB k l z p ge D (j+1)=nodeB k l z p ge D j ++ textL 2 x:=by
 unfold nodeB
 rw[take_step h,List.flatMap_append,List.flatMap_cons,List.flatMap_nil,List.append_nil]
 simp only[List.append_assoc]
theorem nodeB_len {k l z p ge:Nat} {D:List Nat} {j:Nat} (h:j≤D.length):(nodeB k l z p ge D j).length=8+2*j:=by
 have hf:∀L:List Nat,(L.flatMap (textL 2)).length=2*L.length:=fun L=>by
  induction L with
  | nil=>rfl
  | cons a r ih=>rw[List.flatMap_cons,List.length_append,ih,textL_length,List.length_cons]; omega
 unfold nodeB
 rw[List.length_append,List.length_append,List.length_append,List.length_append,textL_length,textL_length,textL_length,hf,List.length_take]
 show 2+2+2+2+_=_
 omega
theorem nodeB_all (k l z p ge d0 d1 d2 d3 d4 d5 d6 d7 m:Nat):inodeB (iN k l z p ge d0 d1 d2 d3 d4 d5 d6 d7 m)=ofL (padL (nodeB k l z p ge [d0,d1,d2,d3,d4,d5,d6,d7] 8 ++ textL 2 m)):=rfl
section
set_option maxHeartbeats 8000000
set_option maxRecDepth 20000 in
theorem rntext_any (w:World) (k l z p ge d0 d1 d2 d3 d4 d5 d6 d7 m:Nat) (hk:k<256) (hl:l<256):Calls Tryz.prog 145 #[.agg (iA k l z p ge d0 d1 d2 d3 d4 d5 d6 d7 m)] w fun e w'=>e = .returned (.string (inodeB (iN k l z p ge d0 d1 d2 d3 d4 d5 d6 d7 m)))∧Below w.heap.size w w':=by
 rw[nodeB_all]
 have htz:=fun W:World=>rtext_any W z 2 (by decide)
 have htp:=fun W:World=>rtext_any W p 2 (by decide)
 have htg:=fun W:World=>rtext_any W ge 2 (by decide)
 have htm:=fun W:World=>rtext_any W m 2 (by decide)
 have htd:=fun(W:World) (x:Nat)=>rtext_any W x 2 (by decide)
 have c1:=text_cat [UInt8.ofNat k,UInt8.ofNat l] (textL 2 z)
 have c2:=text_cat ([UInt8.ofNat k,UInt8.ofNat l] ++ textL 2 z) (textL 2 p)
 have c3:=text_cat ([UInt8.ofNat k,UInt8.ofNat l] ++ textL 2 z ++ textL 2 p) (textL 2 ge)
 have h0:[UInt8.ofNat k,UInt8.ofNat l] ++ textL 2 z ++ textL 2 p ++ textL 2 ge=nodeB k l z p ge [d0,d1,d2,d3,d4,d5,d6,d7] 0:=by
  unfold nodeB
  rw[List.take_zero,List.flatMap_nil,List.append_nil]
 rw[h0] at c3
 have HCB:Hid (∀W b,W.heap[b]? = some (.cells #[.int .u8 (k:Int),.int .u8 (l:Int)] 5 (0,0))→(convert 36 9 (.slice (some ⟨b,0,none⟩) 2 2)).run Tryz.prog W = .ok (.string (ofL [UInt8.ofNat k,UInt8.ofNat l])) W):=fun W b hb=>by
  exact bytes_text (l:=[UInt8.ofNat k,UInt8.ofNat l]) (src:=36) (dst:=9) Tryz.underlying36 Tryz.underlying5 Tryz.underlying9 hb (fun j hj=>by
   match j,hj with
   | 0,_=>
     show some (Value.int .u8 (k:Int))=some (.int .u8 ((UInt8.ofNat k).toNat:Int))
     rw[UInt8.toNat_ofNat',Nat.mod_eq_of_lt (by omega)]
   | 1,_=>
     show some (Value.int .u8 (l:Int))=some (.int .u8 ((UInt8.ofNat l).toNat:Int))
     rw[UInt8.toNat_ofNat',Nat.mod_eq_of_lt (by omega)]) 2
 have sA:(ofL [UInt8.ofNat k,UInt8.ofNat l]).size=2:=by rw[ofL_size]; rfl
 have sz:∀x,(ofL (textL 2 x)).size=2:=fun x=>by rw[ofL_size,textL_length]
 have s1:(ofL ([UInt8.ofNat k,UInt8.ofNat l] ++ textL 2 z)).size=4:=by rw[ofL_size,List.length_append,textL_length]; rfl
 have s2:(ofL ([UInt8.ofNat k,UInt8.ofNat l] ++ textL 2 z ++ textL 2 p)).size=6:=by rw[ofL_size,List.length_append,List.length_append,textL_length,textL_length]; rfl
 have zz:=sz z
 have zp:=sz p
 have zsg:=sz ge
 have zm:=sz m
 obtain⟨A,hA⟩:=zx (ofL [UInt8.ofNat k,UInt8.ofNat l])
 obtain⟨TZ,hTZ⟩:=zx (ofL (textL 2 z))
 obtain⟨TP,hTP⟩:=zx (ofL (textL 2 p))
 obtain⟨TG,hTG⟩:=zx (ofL (textL 2 ge))
 obtain⟨C1,hC1⟩:=zx (ofL ([UInt8.ofNat k,UInt8.ofNat l] ++ textL 2 z))
 obtain⟨C2,hC2⟩:=zx (ofL ([UInt8.ofNat k,UInt8.ofNat l] ++ textL 2 z ++ textL 2 p))
 rw[hA] at c1 sA HCB
 rw[hTZ] at c1 zz htz
 rw[hTP] at c2 zp htp
 rw[hTG] at c3 zsg htg
 rw[hC1] at c1 c2 s1
 rw[hC2] at c2 c3 s2
 have l1:¬9223372036854775807<A.size+TZ.size:=by omega
 have l2:¬9223372036854775807<C1.size+TP.size:=by omega
 have l3:¬9223372036854775807<C2.size+TG.size:=by omega
 have m1:IntKind.u8.wrap (k:Int)=(k:Int):=IntWalk.u8_in _ (by omega)
 have m2:IntKind.u8.wrap (l:Int)=(l:Int):=IntWalk.u8_in _ (by omega)
 have HD8:Hid ([d0,d1,d2,d3,d4,d5,d6,d7].length=8):=rfl
 obtain⟨D,hD⟩:=zx ([d0,d1,d2,d3,d4,d5,d6,d7])
 have HAt:Hid (∀j,j<8→∃x:Nat,D[j]? = some x∧(iA k l z p ge d0 d1 d2 d3 d4 d5 d6 d7 m)[5+j]? = some (.int .i64 (x:Int))):=fun j hj=>by
  rw[←hD]
  match j,hj with
  | 0,_=>exact⟨_,rfl,rfl⟩
  | 1,_=>exact⟨_,rfl,rfl⟩
  | 2,_=>exact⟨_,rfl,rfl⟩
  | 3,_=>exact⟨_,rfl,rfl⟩
  | 4,_=>exact⟨_,rfl,rfl⟩
  | 5,_=>exact⟨_,rfl,rfl⟩
  | 6,_=>exact⟨_,rfl,rfl⟩
  | 7,_=>exact⟨_,rfl,rfl⟩
  | j+8,h=>exact absurd h (by omega)
 rw[hD] at c3 HD8
 have HDe:=zh hD
 rw[hD]
 unfold iA at HAt ⊢
 obtain⟨W1,hW1⟩:=zx (w.alloc (.cells #[.int .i64 (k:Int),.int .i64 (l:Int),.int .i64 (z:Int),.int .i64 (p:Int),.int .i64 (ge:Int),.int .i64 (d0:Int),.int .i64 (d1:Int),.int .i64 (d2:Int),.int .i64 (d3:Int),.int .i64 (d4:Int),.int .i64 (d5:Int),.int .i64 (d6:Int),.int .i64 (d7:Int),.int .i64 (m:Int)] 71))
 have hz1:W1.heap[w.heap.size]? = some (.cells #[.int .i64 (k:Int),.int .i64 (l:Int),.int .i64 (z:Int),.int .i64 (p:Int),.int .i64 (ge:Int),.int .i64 (d0:Int),.int .i64 (d1:Int),.int .i64 (d2:Int),.int .i64 (d3:Int),.int .i64 (d4:Int),.int .i64 (d5:Int),.int .i64 (d6:Int),.int .i64 (d7:Int),.int .i64 (m:Int)] 71 (0,0)):=by rw[←hW1]; exact heapNew w _
 have HB1:Hid (Below w.heap.size w W1):=by rw[←hW1]; exact bl2 _
 have HKc:Hid (∀W,Below W1.heap.size W1 W→W.cell? ⟨w.heap.size,0,none⟩=some (.int .i64 (k:Int))∧W.cell? ⟨w.heap.size,1,none⟩=some (.int .i64 (l:Int))∧W.cell? ⟨w.heap.size,2,none⟩=some (.int .i64 (z:Int))∧W.cell? ⟨w.heap.size,3,none⟩=some (.int .i64 (p:Int))∧W.cell? ⟨w.heap.size,4,none⟩=some (.int .i64 (ge:Int))):=fun W hW=>⟨cellOf (heapOld hW hz1) rfl,cellOf (heapOld hW hz1) rfl,cellOf (heapOld hW hz1) rfl,cellOf (heapOld hW hz1) rfl,cellOf (heapOld hW hz1) rfl⟩
 have HKd:Hid (∀j,j<8→∃x:Nat,D[j]? = some x∧∀W,Below W1.heap.size W1 W→W.cell? ⟨w.heap.size,5+j,none⟩=some (.int .i64 (x:Int))):=fun j hj=>by
  obtain⟨x,h1,h2⟩:=HAt.out j hj
  exact⟨x,h1,fun W hW=>cellOf (heapOld hW hz1) h2⟩
 have HKm:Hid (∀W,Below W1.heap.size W1 W→W.cell? ⟨w.heap.size,13,none⟩=some (.int .i64 (m:Int))):=fun W hW=>cellOf (heapOld hW hz1) rfl
 have HTZ:=zh htz
 have HTP:=zh htp
 have HTG:=zh htg
 have HTM:=zh htm
 have HTD:=zh htd
 clear htz htp htg htm htd
 have HZM:=zh zm
 clear hz1 hA hTZ hTP hTG hC1 hC2 h0 sA sz s1 s2 zz zp zsg zm hk hl HAt hD
 go_enter Tryz.func145,Tryz.ntmps145
 go_wp2_with fail
 clear hW1
 go_cut [3] (fun v wx=>v = .string (ofL (nodeB k l z p ge D 0))∧Hid (Below W1.heap.size W1 wx))
 case first=>
  refine wp_region_held_drew (S:=fun W:World=>W.cell? ⟨w.heap.size,0,none⟩=some (.int .i64 (k:Int))∧W.cell? ⟨w.heap.size,1,none⟩=some (.int .i64 (l:Int))∧W.cell? ⟨w.heap.size,2,none⟩=some (.int .i64 (z:Int))∧W.cell? ⟨w.heap.size,3,none⟩=some (.int .i64 (p:Int))∧W.cell? ⟨w.heap.size,4,none⟩=some (.int .i64 (ge:Int))) (by kernel_rfl) (HKc.out W1.drew (blD (Below.refl _ _))) (fun hHeld=>?_)
  refine tkH 0 ?_; simp only[Act.put,ps0]
  refine tkH 1 ?_; simp only[Act.put,ps0]
  refine tkH 2 ?_; simp only[Act.put,ps0]
  refine tkH 3 ?_; simp only[Act.put,ps0]
  refine tkH 4 ?_; simp only[Act.put,ps0]
  refine tkH 5 ?_; simp only[Act.put,ps0]
  refine tkH 8 ?_; simp only[Act.put,ps0]
  refine tkH 9 ?_; simp only[Act.put,ps0]
  refine tkH 12 ?_; simp only[Act.put,ps0]
  refine tkH 13 ?_; simp only[Act.put,ps0]
  refine tkH 16 ?_; simp only[Act.put,ps0]
  refine tkH 17 ?_; simp only[Act.put,ps0]
  refine wpAnyH_ready (rs:=[6,10]) (by kernel_rfl) (by simp) ?_
  refine AllReadyH.cons rfl (fun K hK=>?_) ?_
  ·try simp only[gg0]
   go_simp
   refine hK.out _ _ ?_ (fun hHeld=>?_)
   ·refine HKc.out _ ?_; repeat' first | with_reducible exact Below.refl _ _ | with_reducible exact HBc1.out | with_reducible exact HBc2.out | with_reducible exact HBc3.out | with_reducible refine blD ?_ | with_reducible refine bl1 ?_ _
   clear hK K
   try simp only[Act.put,ps0]
   have hz:((W1).alloc (.cells #[.int .u8 (k:Int),.int .u8 (l:Int)] 5)).drew.heap[(W1).heap.size]? = some (.cells #[.int .u8 (k:Int),.int .u8 (l:Int)] 5 (0,0)):=heapNew W1 _
   refine wpAnyH_ready (rs:=[7,10]) (by kernel_rfl) (by simp) ?_
   refine AllReadyH.cons rfl (fun K hK=>?_) ?_
   ·try simp only[gg0]
    have hcw:=HCB.out _ _ hz
    go_simp
    refine hK.out _ _ ?_ (fun hHeld=>?_)
    ·refine HKc.out _ ?_; repeat' first | with_reducible exact Below.refl _ _ | with_reducible exact HBc1.out | with_reducible exact HBc2.out | with_reducible exact HBc3.out | with_reducible refine blD ?_ | with_reducible refine bl1 ?_ _
    clear hK K hcw
    try simp only[Act.put,ps0]
    refine wpAnyH_ready (rs:=[10]) (by kernel_rfl) (by simp) ?_
    refine AllReadyH.cons rfl (fun K hK=>?_) ?_
    ·try simp only[gg0]
     go_simp
     go_at_call_of 141 (Value.int .i64 (z:Int))
     refine(HTZ.out _).mono ?_
     rintro e wc1 ⟨rfl,hbc⟩
     have HBc1:Hid (Below W1.heap.size W1 wc1):=blN (by repeat' first | with_reducible exact Below.refl _ _ | with_reducible exact HBc1.out | with_reducible exact HBc2.out | with_reducible exact HBc3.out | with_reducible refine blD ?_ | with_reducible refine bl1 ?_ _) hbc
     clear hbc
     try simp only
     refine hK.out _ _ ?_ (fun hHeld=>?_)
     ·refine HKc.out _ ?_; repeat' first | with_reducible exact Below.refl _ _ | with_reducible exact HBc1.out | with_reducible exact HBc2.out | with_reducible exact HBc3.out | with_reducible refine blD ?_ | with_reducible refine bl1 ?_ _
     clear hK K
     try simp only[Act.put,ps0]
     refine tkH 11 ?_; simp only[Act.put,ps0]
     refine wpAnyH_ready (rs:=[14]) (by kernel_rfl) (by simp) ?_
     refine AllReadyH.cons rfl (fun K hK=>?_) ?_
     ·try simp only[gg0]
      go_simp
      go_at_call_of 141 (Value.int .i64 (p:Int))
      refine(HTP.out _).mono ?_
      rintro e wc2 ⟨rfl,hbc⟩
      have HBc2:Hid (Below W1.heap.size W1 wc2):=blN (by repeat' first | with_reducible exact Below.refl _ _ | with_reducible exact HBc1.out | with_reducible exact HBc2.out | with_reducible exact HBc3.out | with_reducible refine blD ?_ | with_reducible refine bl1 ?_ _) hbc
      clear hbc
      try simp only
      refine hK.out _ _ ?_ (fun hHeld=>?_)
      ·refine HKc.out _ ?_; repeat' first | with_reducible exact Below.refl _ _ | with_reducible exact HBc1.out | with_reducible exact HBc2.out | with_reducible exact HBc3.out | with_reducible refine blD ?_ | with_reducible refine bl1 ?_ _
      clear hK K
      try simp only[Act.put,ps0]
      refine tkH 15 ?_; simp only[Act.put,ps0]
      refine wpAnyH_ready (rs:=[18]) (by kernel_rfl) (by simp) ?_
      refine AllReadyH.cons rfl (fun K hK=>?_) ?_
      ·try simp only[gg0]
       go_simp
       go_at_call_of 141 (Value.int .i64 (ge:Int))
       refine(HTG.out _).mono ?_
       rintro e wc3 ⟨rfl,hbc⟩
       have HBc3:Hid (Below W1.heap.size W1 wc3):=blN (by repeat' first | with_reducible exact Below.refl _ _ | with_reducible exact HBc1.out | with_reducible exact HBc2.out | with_reducible exact HBc3.out | with_reducible refine blD ?_ | with_reducible refine bl1 ?_ _) hbc
       clear hbc
       try simp only
       refine hK.out _ _ ?_ (fun hHeld=>?_)
       ·refine HKc.out _ ?_; repeat' first | with_reducible exact Below.refl _ _ | with_reducible exact HBc1.out | with_reducible exact HBc2.out | with_reducible exact HBc3.out | with_reducible refine blD ?_ | with_reducible refine bl1 ?_ _
       clear hK K
       try simp only[Act.put,ps0]
       refine tkH 19 ?_; simp only[Act.put,ps0]
       refine tkH 20 ?_; simp only[Act.put,ps0]
       refine wpAnyH_done (by kernel_rfl) ?_ _
       clear hHeld
       go_wp2
       go_meet
       case rel=>exact⟨rfl,by show Below _ _ _; repeat' first | with_reducible exact Below.refl _ _ | with_reducible exact HBc1.out | with_reducible exact HBc2.out | with_reducible exact HBc3.out | with_reducible refine blD ?_ | with_reducible refine bl1 ?_ _⟩
      exact AllReadyH.nil
     exact AllReadyH.nil
    exact AllReadyH.nil
   refine AllReadyH.cons rfl (fun K hK=>?_) ?_
   ·try simp only[gg0]
    go_simp
    go_at_call_of 141 (Value.int .i64 (z:Int))
    refine(HTZ.out _).mono ?_
    rintro e wc1 ⟨rfl,hbc⟩
    have HBc1:Hid (Below W1.heap.size W1 wc1):=blN (by repeat' first | with_reducible exact Below.refl _ _ | with_reducible exact HBc1.out | with_reducible exact HBc2.out | with_reducible exact HBc3.out | with_reducible refine blD ?_ | with_reducible refine bl1 ?_ _) hbc
    replace hz:=heapOld hbc hz
    clear hbc
    try simp only
    refine hK.out _ _ ?_ (fun hHeld=>?_)
    ·refine HKc.out _ ?_; repeat' first | with_reducible exact Below.refl _ _ | with_reducible exact HBc1.out | with_reducible exact HBc2.out | with_reducible exact HBc3.out | with_reducible refine blD ?_ | with_reducible refine bl1 ?_ _
    clear hK K
    try simp only[Act.put,ps0]
    refine wpAnyH_ready (rs:=[7,14]) (by kernel_rfl) (by simp) ?_
    refine AllReadyH.cons rfl (fun K hK=>?_) ?_
    ·try simp only[gg0]
     have hcw:=HCB.out _ _ hz
     go_simp
     refine hK.out _ _ ?_ (fun hHeld=>?_)
     ·refine HKc.out _ ?_; repeat' first | with_reducible exact Below.refl _ _ | with_reducible exact HBc1.out | with_reducible exact HBc2.out | with_reducible exact HBc3.out | with_reducible refine blD ?_ | with_reducible refine bl1 ?_ _
     clear hK K hcw
     try simp only[Act.put,ps0]
     refine tkH 11 ?_; simp only[Act.put,ps0]
     refine wpAnyH_ready (rs:=[14]) (by kernel_rfl) (by simp) ?_
     refine AllReadyH.cons rfl (fun K hK=>?_) ?_
     ·try simp only[gg0]
      go_simp
      go_at_call_of 141 (Value.int .i64 (p:Int))
      refine(HTP.out _).mono ?_
      rintro e wc2 ⟨rfl,hbc⟩
      have HBc2:Hid (Below W1.heap.size W1 wc2):=blN (by repeat' first | with_reducible exact Below.refl _ _ | with_reducible exact HBc1.out | with_reducible exact HBc2.out | with_reducible exact HBc3.out | with_reducible refine blD ?_ | with_reducible refine bl1 ?_ _) hbc
      clear hbc
      try simp only
      refine hK.out _ _ ?_ (fun hHeld=>?_)
      ·refine HKc.out _ ?_; repeat' first | with_reducible exact Below.refl _ _ | with_reducible exact HBc1.out | with_reducible exact HBc2.out | with_reducible exact HBc3.out | with_reducible refine blD ?_ | with_reducible refine bl1 ?_ _
      clear hK K
      try simp only[Act.put,ps0]
      refine tkH 15 ?_; simp only[Act.put,ps0]
      refine wpAnyH_ready (rs:=[18]) (by kernel_rfl) (by simp) ?_
      refine AllReadyH.cons rfl (fun K hK=>?_) ?_
      ·try simp only[gg0]
       go_simp
       go_at_call_of 141 (Value.int .i64 (ge:Int))
       refine(HTG.out _).mono ?_
       rintro e wc3 ⟨rfl,hbc⟩
       have HBc3:Hid (Below W1.heap.size W1 wc3):=blN (by repeat' first | with_reducible exact Below.refl _ _ | with_reducible exact HBc1.out | with_reducible exact HBc2.out | with_reducible exact HBc3.out | with_reducible refine blD ?_ | with_reducible refine bl1 ?_ _) hbc
       clear hbc
       try simp only
       refine hK.out _ _ ?_ (fun hHeld=>?_)
       ·refine HKc.out _ ?_; repeat' first | with_reducible exact Below.refl _ _ | with_reducible exact HBc1.out | with_reducible exact HBc2.out | with_reducible exact HBc3.out | with_reducible refine blD ?_ | with_reducible refine bl1 ?_ _
       clear hK K
       try simp only[Act.put,ps0]
       refine tkH 19 ?_; simp only[Act.put,ps0]
       refine tkH 20 ?_; simp only[Act.put,ps0]
       refine wpAnyH_done (by kernel_rfl) ?_ _
       clear hHeld
       go_wp2
       go_meet
       case rel=>exact⟨rfl,by show Below _ _ _; repeat' first | with_reducible exact Below.refl _ _ | with_reducible exact HBc1.out | with_reducible exact HBc2.out | with_reducible exact HBc3.out | with_reducible refine blD ?_ | with_reducible refine bl1 ?_ _⟩
      exact AllReadyH.nil
     exact AllReadyH.nil
    refine AllReadyH.cons rfl (fun K hK=>?_) ?_
    ·try simp only[gg0]
     go_simp
     go_at_call_of 141 (Value.int .i64 (p:Int))
     refine(HTP.out _).mono ?_
     rintro e wc2 ⟨rfl,hbc⟩
     have HBc2:Hid (Below W1.heap.size W1 wc2):=blN (by repeat' first | with_reducible exact Below.refl _ _ | with_reducible exact HBc1.out | with_reducible exact HBc2.out | with_reducible exact HBc3.out | with_reducible refine blD ?_ | with_reducible refine bl1 ?_ _) hbc
     replace hz:=heapOld hbc hz
     clear hbc
     try simp only
     refine hK.out _ _ ?_ (fun hHeld=>?_)
     ·refine HKc.out _ ?_; repeat' first | with_reducible exact Below.refl _ _ | with_reducible exact HBc1.out | with_reducible exact HBc2.out | with_reducible exact HBc3.out | with_reducible refine blD ?_ | with_reducible refine bl1 ?_ _
     clear hK K
     try simp only[Act.put,ps0]
     refine wpAnyH_ready (rs:=[7,18]) (by kernel_rfl) (by simp) ?_
     refine AllReadyH.cons rfl (fun K hK=>?_) ?_
     ·try simp only[gg0]
      have hcw:=HCB.out _ _ hz
      go_simp
      refine hK.out _ _ ?_ (fun hHeld=>?_)
      ·refine HKc.out _ ?_; repeat' first | with_reducible exact Below.refl _ _ | with_reducible exact HBc1.out | with_reducible exact HBc2.out | with_reducible exact HBc3.out | with_reducible refine blD ?_ | with_reducible refine bl1 ?_ _
      clear hK K hcw
      try simp only[Act.put,ps0]
      refine tkH 11 ?_; simp only[Act.put,ps0]
      refine tkH 15 ?_; simp only[Act.put,ps0]
      refine wpAnyH_ready (rs:=[18]) (by kernel_rfl) (by simp) ?_
      refine AllReadyH.cons rfl (fun K hK=>?_) ?_
      ·try simp only[gg0]
       go_simp
       go_at_call_of 141 (Value.int .i64 (ge:Int))
       refine(HTG.out _).mono ?_
       rintro e wc3 ⟨rfl,hbc⟩
       have HBc3:Hid (Below W1.heap.size W1 wc3):=blN (by repeat' first | with_reducible exact Below.refl _ _ | with_reducible exact HBc1.out | with_reducible exact HBc2.out | with_reducible exact HBc3.out | with_reducible refine blD ?_ | with_reducible refine bl1 ?_ _) hbc
       clear hbc
       try simp only
       refine hK.out _ _ ?_ (fun hHeld=>?_)
       ·refine HKc.out _ ?_; repeat' first | with_reducible exact Below.refl _ _ | with_reducible exact HBc1.out | with_reducible exact HBc2.out | with_reducible exact HBc3.out | with_reducible refine blD ?_ | with_reducible refine bl1 ?_ _
       clear hK K
       try simp only[Act.put,ps0]
       refine tkH 19 ?_; simp only[Act.put,ps0]
       refine tkH 20 ?_; simp only[Act.put,ps0]
       refine wpAnyH_done (by kernel_rfl) ?_ _
       clear hHeld
       go_wp2
       go_meet
       case rel=>exact⟨rfl,by show Below _ _ _; repeat' first | with_reducible exact Below.refl _ _ | with_reducible exact HBc1.out | with_reducible exact HBc2.out | with_reducible exact HBc3.out | with_reducible refine blD ?_ | with_reducible refine bl1 ?_ _⟩
      exact AllReadyH.nil
     refine AllReadyH.cons rfl (fun K hK=>?_) ?_
     ·try simp only[gg0]
      go_simp
      go_at_call_of 141 (Value.int .i64 (ge:Int))
      refine(HTG.out _).mono ?_
      rintro e wc3 ⟨rfl,hbc⟩
      have HBc3:Hid (Below W1.heap.size W1 wc3):=blN (by repeat' first | with_reducible exact Below.refl _ _ | with_reducible exact HBc1.out | with_reducible exact HBc2.out | with_reducible exact HBc3.out | with_reducible refine blD ?_ | with_reducible refine bl1 ?_ _) hbc
      replace hz:=heapOld hbc hz
      clear hbc
      try simp only
      refine hK.out _ _ ?_ (fun hHeld=>?_)
      ·refine HKc.out _ ?_; repeat' first | with_reducible exact Below.refl _ _ | with_reducible exact HBc1.out | with_reducible exact HBc2.out | with_reducible exact HBc3.out | with_reducible refine blD ?_ | with_reducible refine bl1 ?_ _
      clear hK K
      try simp only[Act.put,ps0]
      refine wpAnyH_ready (rs:=[7]) (by kernel_rfl) (by simp) ?_
      refine AllReadyH.cons rfl (fun K hK=>?_) ?_
      ·try simp only[gg0]
       have hcw:=HCB.out _ _ hz
       go_simp
       refine hK.out _ _ ?_ (fun hHeld=>?_)
       ·refine HKc.out _ ?_; repeat' first | with_reducible exact Below.refl _ _ | with_reducible exact HBc1.out | with_reducible exact HBc2.out | with_reducible exact HBc3.out | with_reducible refine blD ?_ | with_reducible refine bl1 ?_ _
       clear hK K hcw
       try simp only[Act.put,ps0]
       refine tkH 11 ?_; simp only[Act.put,ps0]
       refine tkH 15 ?_; simp only[Act.put,ps0]
       refine tkH 19 ?_; simp only[Act.put,ps0]
       refine tkH 20 ?_; simp only[Act.put,ps0]
       refine wpAnyH_done (by kernel_rfl) ?_ _
       clear hHeld
       go_wp2
       go_meet
       case rel=>exact⟨rfl,by show Below _ _ _; repeat' first | with_reducible exact Below.refl _ _ | with_reducible exact HBc1.out | with_reducible exact HBc2.out | with_reducible exact HBc3.out | with_reducible refine blD ?_ | with_reducible refine bl1 ?_ _⟩
      exact AllReadyH.nil
     exact AllReadyH.nil
    exact AllReadyH.nil
   exact AllReadyH.nil
  refine AllReadyH.cons rfl (fun K hK=>?_) ?_
  ·try simp only[gg0]
   go_simp
   go_at_call_of 141 (Value.int .i64 (z:Int))
   refine(HTZ.out _).mono ?_
   rintro e wc1 ⟨rfl,hbc⟩
   have HBc1:Hid (Below W1.heap.size W1 wc1):=blN (by repeat' first | with_reducible exact Below.refl _ _ | with_reducible exact HBc1.out | with_reducible exact HBc2.out | with_reducible exact HBc3.out | with_reducible refine blD ?_ | with_reducible refine bl1 ?_ _) hbc
   clear hbc
   try simp only
   refine hK.out _ _ ?_ (fun hHeld=>?_)
   ·refine HKc.out _ ?_; repeat' first | with_reducible exact Below.refl _ _ | with_reducible exact HBc1.out | with_reducible exact HBc2.out | with_reducible exact HBc3.out | with_reducible refine blD ?_ | with_reducible refine bl1 ?_ _
   clear hK K
   try simp only[Act.put,ps0]
   refine wpAnyH_ready (rs:=[6,14]) (by kernel_rfl) (by simp) ?_
   refine AllReadyH.cons rfl (fun K hK=>?_) ?_
   ·try simp only[gg0]
    go_simp
    refine hK.out _ _ ?_ (fun hHeld=>?_)
    ·refine HKc.out _ ?_; repeat' first | with_reducible exact Below.refl _ _ | with_reducible exact HBc1.out | with_reducible exact HBc2.out | with_reducible exact HBc3.out | with_reducible refine blD ?_ | with_reducible refine bl1 ?_ _
    clear hK K
    try simp only[Act.put,ps0]
    have hz:((wc1).alloc (.cells #[.int .u8 (k:Int),.int .u8 (l:Int)] 5)).heap[(wc1).heap.size]? = some (.cells #[.int .u8 (k:Int),.int .u8 (l:Int)] 5 (0,0)):=heapNew wc1 _
    refine wpAnyH_ready (rs:=[7,14]) (by kernel_rfl) (by simp) ?_
    refine AllReadyH.cons rfl (fun K hK=>?_) ?_
    ·try simp only[gg0]
     have hcw:=HCB.out _ _ hz
     go_simp
     refine hK.out _ _ ?_ (fun hHeld=>?_)
     ·refine HKc.out _ ?_; repeat' first | with_reducible exact Below.refl _ _ | with_reducible exact HBc1.out | with_reducible exact HBc2.out | with_reducible exact HBc3.out | with_reducible refine blD ?_ | with_reducible refine bl1 ?_ _
     clear hK K hcw
     try simp only[Act.put,ps0]
     refine tkH 11 ?_; simp only[Act.put,ps0]
     refine wpAnyH_ready (rs:=[14]) (by kernel_rfl) (by simp) ?_
     refine AllReadyH.cons rfl (fun K hK=>?_) ?_
     ·try simp only[gg0]
      go_simp
      go_at_call_of 141 (Value.int .i64 (p:Int))
      refine(HTP.out _).mono ?_
      rintro e wc2 ⟨rfl,hbc⟩
      have HBc2:Hid (Below W1.heap.size W1 wc2):=blN (by repeat' first | with_reducible exact Below.refl _ _ | with_reducible exact HBc1.out | with_reducible exact HBc2.out | with_reducible exact HBc3.out | with_reducible refine blD ?_ | with_reducible refine bl1 ?_ _) hbc
      clear hbc
      try simp only
      refine hK.out _ _ ?_ (fun hHeld=>?_)
      ·refine HKc.out _ ?_; repeat' first | with_reducible exact Below.refl _ _ | with_reducible exact HBc1.out | with_reducible exact HBc2.out | with_reducible exact HBc3.out | with_reducible refine blD ?_ | with_reducible refine bl1 ?_ _
      clear hK K
      try simp only[Act.put,ps0]
      refine tkH 15 ?_; simp only[Act.put,ps0]
      refine wpAnyH_ready (rs:=[18]) (by kernel_rfl) (by simp) ?_
      refine AllReadyH.cons rfl (fun K hK=>?_) ?_
      ·try simp only[gg0]
       go_simp
       go_at_call_of 141 (Value.int .i64 (ge:Int))
       refine(HTG.out _).mono ?_
       rintro e wc3 ⟨rfl,hbc⟩
       have HBc3:Hid (Below W1.heap.size W1 wc3):=blN (by repeat' first | with_reducible exact Below.refl _ _ | with_reducible exact HBc1.out | with_reducible exact HBc2.out | with_reducible exact HBc3.out | with_reducible refine blD ?_ | with_reducible refine bl1 ?_ _) hbc
       clear hbc
       try simp only
       refine hK.out _ _ ?_ (fun hHeld=>?_)
       ·refine HKc.out _ ?_; repeat' first | with_reducible exact Below.refl _ _ | with_reducible exact HBc1.out | with_reducible exact HBc2.out | with_reducible exact HBc3.out | with_reducible refine blD ?_ | with_reducible refine bl1 ?_ _
       clear hK K
       try simp only[Act.put,ps0]
       refine tkH 19 ?_; simp only[Act.put,ps0]
       refine tkH 20 ?_; simp only[Act.put,ps0]
       refine wpAnyH_done (by kernel_rfl) ?_ _
       clear hHeld
       go_wp2
       go_meet
       case rel=>exact⟨rfl,by show Below _ _ _; repeat' first | with_reducible exact Below.refl _ _ | with_reducible exact HBc1.out | with_reducible exact HBc2.out | with_reducible exact HBc3.out | with_reducible refine blD ?_ | with_reducible refine bl1 ?_ _⟩
      exact AllReadyH.nil
     exact AllReadyH.nil
    refine AllReadyH.cons rfl (fun K hK=>?_) ?_
    ·try simp only[gg0]
     go_simp
     go_at_call_of 141 (Value.int .i64 (p:Int))
     refine(HTP.out _).mono ?_
     rintro e wc2 ⟨rfl,hbc⟩
     have HBc2:Hid (Below W1.heap.size W1 wc2):=blN (by repeat' first | with_reducible exact Below.refl _ _ | with_reducible exact HBc1.out | with_reducible exact HBc2.out | with_reducible exact HBc3.out | with_reducible refine blD ?_ | with_reducible refine bl1 ?_ _) hbc
     replace hz:=heapOld hbc hz
     clear hbc
     try simp only
     refine hK.out _ _ ?_ (fun hHeld=>?_)
     ·refine HKc.out _ ?_; repeat' first | with_reducible exact Below.refl _ _ | with_reducible exact HBc1.out | with_reducible exact HBc2.out | with_reducible exact HBc3.out | with_reducible refine blD ?_ | with_reducible refine bl1 ?_ _
     clear hK K
     try simp only[Act.put,ps0]
     refine wpAnyH_ready (rs:=[7,18]) (by kernel_rfl) (by simp) ?_
     refine AllReadyH.cons rfl (fun K hK=>?_) ?_
     ·try simp only[gg0]
      have hcw:=HCB.out _ _ hz
      go_simp
      refine hK.out _ _ ?_ (fun hHeld=>?_)
      ·refine HKc.out _ ?_; repeat' first | with_reducible exact Below.refl _ _ | with_reducible exact HBc1.out | with_reducible exact HBc2.out | with_reducible exact HBc3.out | with_reducible refine blD ?_ | with_reducible refine bl1 ?_ _
      clear hK K hcw
      try simp only[Act.put,ps0]
      refine tkH 11 ?_; simp only[Act.put,ps0]
      refine tkH 15 ?_; simp only[Act.put,ps0]
      refine wpAnyH_ready (rs:=[18]) (by kernel_rfl) (by simp) ?_
      refine AllReadyH.cons rfl (fun K hK=>?_) ?_
      ·try simp only[gg0]
       go_simp
       go_at_call_of 141 (Value.int .i64 (ge:Int))
       refine(HTG.out _).mono ?_
       rintro e wc3 ⟨rfl,hbc⟩
       have HBc3:Hid (Below W1.heap.size W1 wc3):=blN (by repeat' first | with_reducible exact Below.refl _ _ | with_reducible exact HBc1.out | with_reducible exact HBc2.out | with_reducible exact HBc3.out | with_reducible refine blD ?_ | with_reducible refine bl1 ?_ _) hbc
       clear hbc
       try simp only
       refine hK.out _ _ ?_ (fun hHeld=>?_)
       ·refine HKc.out _ ?_; repeat' first | with_reducible exact Below.refl _ _ | with_reducible exact HBc1.out | with_reducible exact HBc2.out | with_reducible exact HBc3.out | with_reducible refine blD ?_ | with_reducible refine bl1 ?_ _
       clear hK K
       try simp only[Act.put,ps0]
       refine tkH 19 ?_; simp only[Act.put,ps0]
       refine tkH 20 ?_; simp only[Act.put,ps0]
       refine wpAnyH_done (by kernel_rfl) ?_ _
       clear hHeld
       go_wp2
       go_meet
       case rel=>exact⟨rfl,by show Below _ _ _; repeat' first | with_reducible exact Below.refl _ _ | with_reducible exact HBc1.out | with_reducible exact HBc2.out | with_reducible exact HBc3.out | with_reducible refine blD ?_ | with_reducible refine bl1 ?_ _⟩
      exact AllReadyH.nil
     refine AllReadyH.cons rfl (fun K hK=>?_) ?_
     ·try simp only[gg0]
      go_simp
      go_at_call_of 141 (Value.int .i64 (ge:Int))
      refine(HTG.out _).mono ?_
      rintro e wc3 ⟨rfl,hbc⟩
      have HBc3:Hid (Below W1.heap.size W1 wc3):=blN (by repeat' first | with_reducible exact Below.refl _ _ | with_reducible exact HBc1.out | with_reducible exact HBc2.out | with_reducible exact HBc3.out | with_reducible refine blD ?_ | with_reducible refine bl1 ?_ _) hbc
      replace hz:=heapOld hbc hz
      clear hbc
      try simp only
      refine hK.out _ _ ?_ (fun hHeld=>?_)
      ·refine HKc.out _ ?_; repeat' first | with_reducible exact Below.refl _ _ | with_reducible exact HBc1.out | with_reducible exact HBc2.out | with_reducible exact HBc3.out | with_reducible refine blD ?_ | with_reducible refine bl1 ?_ _
      clear hK K
      try simp only[Act.put,ps0]
      refine wpAnyH_ready (rs:=[7]) (by kernel_rfl) (by simp) ?_
      refine AllReadyH.cons rfl (fun K hK=>?_) ?_
      ·try simp only[gg0]
       have hcw:=HCB.out _ _ hz
       go_simp
       refine hK.out _ _ ?_ (fun hHeld=>?_)
       ·refine HKc.out _ ?_; repeat' first | with_reducible exact Below.refl _ _ | with_reducible exact HBc1.out | with_reducible exact HBc2.out | with_reducible exact HBc3.out | with_reducible refine blD ?_ | with_reducible refine bl1 ?_ _
       clear hK K hcw
       try simp only[Act.put,ps0]
       refine tkH 11 ?_; simp only[Act.put,ps0]
       refine tkH 15 ?_; simp only[Act.put,ps0]
       refine tkH 19 ?_; simp only[Act.put,ps0]
       refine tkH 20 ?_; simp only[Act.put,ps0]
       refine wpAnyH_done (by kernel_rfl) ?_ _
       clear hHeld
       go_wp2
       go_meet
       case rel=>exact⟨rfl,by show Below _ _ _; repeat' first | with_reducible exact Below.refl _ _ | with_reducible exact HBc1.out | with_reducible exact HBc2.out | with_reducible exact HBc3.out | with_reducible refine blD ?_ | with_reducible refine bl1 ?_ _⟩
      exact AllReadyH.nil
     exact AllReadyH.nil
    exact AllReadyH.nil
   refine AllReadyH.cons rfl (fun K hK=>?_) ?_
   ·try simp only[gg0]
    go_simp
    go_at_call_of 141 (Value.int .i64 (p:Int))
    refine(HTP.out _).mono ?_
    rintro e wc2 ⟨rfl,hbc⟩
    have HBc2:Hid (Below W1.heap.size W1 wc2):=blN (by repeat' first | with_reducible exact Below.refl _ _ | with_reducible exact HBc1.out | with_reducible exact HBc2.out | with_reducible exact HBc3.out | with_reducible refine blD ?_ | with_reducible refine bl1 ?_ _) hbc
    clear hbc
    try simp only
    refine hK.out _ _ ?_ (fun hHeld=>?_)
    ·refine HKc.out _ ?_; repeat' first | with_reducible exact Below.refl _ _ | with_reducible exact HBc1.out | with_reducible exact HBc2.out | with_reducible exact HBc3.out | with_reducible refine blD ?_ | with_reducible refine bl1 ?_ _
    clear hK K
    try simp only[Act.put,ps0]
    refine wpAnyH_ready (rs:=[6,18]) (by kernel_rfl) (by simp) ?_
    refine AllReadyH.cons rfl (fun K hK=>?_) ?_
    ·try simp only[gg0]
     go_simp
     refine hK.out _ _ ?_ (fun hHeld=>?_)
     ·refine HKc.out _ ?_; repeat' first | with_reducible exact Below.refl _ _ | with_reducible exact HBc1.out | with_reducible exact HBc2.out | with_reducible exact HBc3.out | with_reducible refine blD ?_ | with_reducible refine bl1 ?_ _
     clear hK K
     try simp only[Act.put,ps0]
     have hz:((wc2).alloc (.cells #[.int .u8 (k:Int),.int .u8 (l:Int)] 5)).heap[(wc2).heap.size]? = some (.cells #[.int .u8 (k:Int),.int .u8 (l:Int)] 5 (0,0)):=heapNew wc2 _
     refine wpAnyH_ready (rs:=[7,18]) (by kernel_rfl) (by simp) ?_
     refine AllReadyH.cons rfl (fun K hK=>?_) ?_
     ·try simp only[gg0]
      have hcw:=HCB.out _ _ hz
      go_simp
      refine hK.out _ _ ?_ (fun hHeld=>?_)
      ·refine HKc.out _ ?_; repeat' first | with_reducible exact Below.refl _ _ | with_reducible exact HBc1.out | with_reducible exact HBc2.out | with_reducible exact HBc3.out | with_reducible refine blD ?_ | with_reducible refine bl1 ?_ _
      clear hK K hcw
      try simp only[Act.put,ps0]
      refine tkH 11 ?_; simp only[Act.put,ps0]
      refine tkH 15 ?_; simp only[Act.put,ps0]
      refine wpAnyH_ready (rs:=[18]) (by kernel_rfl) (by simp) ?_
      refine AllReadyH.cons rfl (fun K hK=>?_) ?_
      ·try simp only[gg0]
       go_simp
       go_at_call_of 141 (Value.int .i64 (ge:Int))
       refine(HTG.out _).mono ?_
       rintro e wc3 ⟨rfl,hbc⟩
       have HBc3:Hid (Below W1.heap.size W1 wc3):=blN (by repeat' first | with_reducible exact Below.refl _ _ | with_reducible exact HBc1.out | with_reducible exact HBc2.out | with_reducible exact HBc3.out | with_reducible refine blD ?_ | with_reducible refine bl1 ?_ _) hbc
       clear hbc
       try simp only
       refine hK.out _ _ ?_ (fun hHeld=>?_)
       ·refine HKc.out _ ?_; repeat' first | with_reducible exact Below.refl _ _ | with_reducible exact HBc1.out | with_reducible exact HBc2.out | with_reducible exact HBc3.out | with_reducible refine blD ?_ | with_reducible refine bl1 ?_ _
       clear hK K
       try simp only[Act.put,ps0]
       refine tkH 19 ?_; simp only[Act.put,ps0]
       refine tkH 20 ?_; simp only[Act.put,ps0]
       refine wpAnyH_done (by kernel_rfl) ?_ _
       clear hHeld
       go_wp2
       go_meet
       case rel=>exact⟨rfl,by show Below _ _ _; repeat' first | with_reducible exact Below.refl _ _ | with_reducible exact HBc1.out | with_reducible exact HBc2.out | with_reducible exact HBc3.out | with_reducible refine blD ?_ | with_reducible refine bl1 ?_ _⟩
      exact AllReadyH.nil
     refine AllReadyH.cons rfl (fun K hK=>?_) ?_
     ·try simp only[gg0]
      go_simp
      go_at_call_of 141 (Value.int .i64 (ge:Int))
      refine(HTG.out _).mono ?_
      rintro e wc3 ⟨rfl,hbc⟩
      have HBc3:Hid (Below W1.heap.size W1 wc3):=blN (by repeat' first | with_reducible exact Below.refl _ _ | with_reducible exact HBc1.out | with_reducible exact HBc2.out | with_reducible exact HBc3.out | with_reducible refine blD ?_ | with_reducible refine bl1 ?_ _) hbc
      replace hz:=heapOld hbc hz
      clear hbc
      try simp only
      refine hK.out _ _ ?_ (fun hHeld=>?_)
      ·refine HKc.out _ ?_; repeat' first | with_reducible exact Below.refl _ _ | with_reducible exact HBc1.out | with_reducible exact HBc2.out | with_reducible exact HBc3.out | with_reducible refine blD ?_ | with_reducible refine bl1 ?_ _
      clear hK K
      try simp only[Act.put,ps0]
      refine wpAnyH_ready (rs:=[7]) (by kernel_rfl) (by simp) ?_
      refine AllReadyH.cons rfl (fun K hK=>?_) ?_
      ·try simp only[gg0]
       have hcw:=HCB.out _ _ hz
       go_simp
       refine hK.out _ _ ?_ (fun hHeld=>?_)
       ·refine HKc.out _ ?_; repeat' first | with_reducible exact Below.refl _ _ | with_reducible exact HBc1.out | with_reducible exact HBc2.out | with_reducible exact HBc3.out | with_reducible refine blD ?_ | with_reducible refine bl1 ?_ _
       clear hK K hcw
       try simp only[Act.put,ps0]
       refine tkH 11 ?_; simp only[Act.put,ps0]
       refine tkH 15 ?_; simp only[Act.put,ps0]
       refine tkH 19 ?_; simp only[Act.put,ps0]
       refine tkH 20 ?_; simp only[Act.put,ps0]
       refine wpAnyH_done (by kernel_rfl) ?_ _
       clear hHeld
       go_wp2
       go_meet
       case rel=>exact⟨rfl,by show Below _ _ _; repeat' first | with_reducible exact Below.refl _ _ | with_reducible exact HBc1.out | with_reducible exact HBc2.out | with_reducible exact HBc3.out | with_reducible refine blD ?_ | with_reducible refine bl1 ?_ _⟩
      exact AllReadyH.nil
     exact AllReadyH.nil
    refine AllReadyH.cons rfl (fun K hK=>?_) ?_
    ·try simp only[gg0]
     go_simp
     go_at_call_of 141 (Value.int .i64 (ge:Int))
     refine(HTG.out _).mono ?_
     rintro e wc3 ⟨rfl,hbc⟩
     have HBc3:Hid (Below W1.heap.size W1 wc3):=blN (by repeat' first | with_reducible exact Below.refl _ _ | with_reducible exact HBc1.out | with_reducible exact HBc2.out | with_reducible exact HBc3.out | with_reducible refine blD ?_ | with_reducible refine bl1 ?_ _) hbc
     clear hbc
     try simp only
     refine hK.out _ _ ?_ (fun hHeld=>?_)
     ·refine HKc.out _ ?_; repeat' first | with_reducible exact Below.refl _ _ | with_reducible exact HBc1.out | with_reducible exact HBc2.out | with_reducible exact HBc3.out | with_reducible refine blD ?_ | with_reducible refine bl1 ?_ _
     clear hK K
     try simp only[Act.put,ps0]
     refine wpAnyH_ready (rs:=[6]) (by kernel_rfl) (by simp) ?_
     refine AllReadyH.cons rfl (fun K hK=>?_) ?_
     ·try simp only[gg0]
      go_simp
      refine hK.out _ _ ?_ (fun hHeld=>?_)
      ·refine HKc.out _ ?_; repeat' first | with_reducible exact Below.refl _ _ | with_reducible exact HBc1.out | with_reducible exact HBc2.out | with_reducible exact HBc3.out | with_reducible refine blD ?_ | with_reducible refine bl1 ?_ _
      clear hK K
      try simp only[Act.put,ps0]
      have hz:((wc3).alloc (.cells #[.int .u8 (k:Int),.int .u8 (l:Int)] 5)).heap[(wc3).heap.size]? = some (.cells #[.int .u8 (k:Int),.int .u8 (l:Int)] 5 (0,0)):=heapNew wc3 _
      refine wpAnyH_ready (rs:=[7]) (by kernel_rfl) (by simp) ?_
      refine AllReadyH.cons rfl (fun K hK=>?_) ?_
      ·try simp only[gg0]
       have hcw:=HCB.out _ _ hz
       go_simp
       refine hK.out _ _ ?_ (fun hHeld=>?_)
       ·refine HKc.out _ ?_; repeat' first | with_reducible exact Below.refl _ _ | with_reducible exact HBc1.out | with_reducible exact HBc2.out | with_reducible exact HBc3.out | with_reducible refine blD ?_ | with_reducible refine bl1 ?_ _
       clear hK K hcw
       try simp only[Act.put,ps0]
       refine tkH 11 ?_; simp only[Act.put,ps0]
       refine tkH 15 ?_; simp only[Act.put,ps0]
       refine tkH 19 ?_; simp only[Act.put,ps0]
       refine tkH 20 ?_; simp only[Act.put,ps0]
       refine wpAnyH_done (by kernel_rfl) ?_ _
       clear hHeld
       go_wp2
       go_meet
       case rel=>exact⟨rfl,by show Below _ _ _; repeat' first | with_reducible exact Below.refl _ _ | with_reducible exact HBc1.out | with_reducible exact HBc2.out | with_reducible exact HBc3.out | with_reducible refine blD ?_ | with_reducible refine bl1 ?_ _⟩
      exact AllReadyH.nil
     exact AllReadyH.nil
    exact AllReadyH.nil
   exact AllReadyH.nil
  exact AllReadyH.nil
 case rest=>
 obtain⟨rfl,HBc⟩:=hcut
 go_wp2
 go_loopw [3,4] (fun t i wr=>∃j:Nat,j≤8∧i = .int .i64 (j:Int)∧t = .string (ofL (nodeB k l z p ge D j))∧Hid (Below W1.heap.size W1 wr)) (fun _ i _=>8-(intOf i).toNat)
 case atStart=>exact⟨0,Nat.zero_le _,rfl,rfl,HBc⟩
 case round=>
  obtain⟨j,hj,rfl,rfl,HB⟩:=hrel
  have hlen:=nodeB_len (k:=k) (l:=l) (z:=z) (p:=p) (ge:=ge) (D:=D) (j:=j) (by rw[HD8.out]; exact hj)
  by_cases hj8:j<8
  ·have hj1:(j:Int)<8:=by omega
   obtain⟨x,hx,hkx⟩:=HKd.out j hj8
   have hsn:=nodeB_snoc (k:=k) (l:=l) (z:=z) (p:=p) (ge:=ge) hx
   have hc:=text_cat (nodeB k l z p ge D j) (textL 2 x)
   rw[←hsn] at hc
   have k0:=hkx wr HB.out
   have htx:=fun W:World=>HTD.out W x
   have s1:(ofL (nodeB k l z p ge D j)).size=8+2*j:=by rw[ofL_size]; exact hlen
   have s2:(ofL (textL 2 x)).size=2:=by rw[ofL_size,textL_length]
   obtain⟨X,hX⟩:=zx (ofL (nodeB k l z p ge D j))
   obtain⟨Y,hY⟩:=zx (ofL (textL 2 x))
   obtain⟨Z,hZ⟩:=zx (ofL (nodeB k l z p ge D (j+1)))
   rw[hX] at hc s1 ⊢
   rw[hY] at hc s2 htx
   rw[hZ] at hc
   have hlim:¬9223372036854775807<X.size+Y.size:=by omega
   have HZ:=zh hZ
   have HTX:=zh htx
   clear htx
   clear hX hY hZ s1 s2 hx hkx hsn hlen
   go_wp2_with fail
   refine(HTX.out _).mono ?_
   rintro e w2 ⟨rfl,hb2⟩
   have HB2:=zh (blN HB.out hb2)
   clear hb2 k0
   go_wp2
   go_roundw
   case rel=>exact⟨j+1,by omega,by go_num,by rw[HZ.out],HB2⟩
   case measure=>simp[intOf]; omega
  ·obtain rfl:j=8:=by omega
   have k0:=HKm.out wr HB.out
   have hc:=text_cat (nodeB k l z p ge D 8) (textL 2 m)
   have s1:(ofL (nodeB k l z p ge D 8)).size=24:=by rw[ofL_size]; exact hlen
   have s2:(ofL (textL 2 m)).size=2:=by rw[ofL_size,textL_length]
   have s3:(nodeB k l z p ge D 8 ++ textL 2 m).length=26:=by rw[List.length_append,textL_length,hlen]
   have hpad:=text_cat (nodeB k l z p ge D 8 ++ textL 2 m) (zeros 38)
   have hpe:nodeB k l z p ge D 8 ++ textL 2 m ++ zeros 38=padL (nodeB k l z p ge D 8 ++ textL 2 m):=by
    unfold padL
    rw[s3]
   rw[hpe] at hpad
   have s4:(ofL (nodeB k l z p ge D 8 ++ textL 2 m)).size=26:=by rw[ofL_size]; exact s3
   have s5:(ofL (zeros 38)).size=38:=by rw[ofL_size,zeros_length]
   obtain⟨X,hX⟩:=zx (ofL (nodeB k l z p ge D 8))
   obtain⟨Y,hY⟩:=zx (ofL (textL 2 m))
   obtain⟨V,hV⟩:=zx (ofL (nodeB k l z p ge D 8 ++ textL 2 m))
   obtain⟨Z,hZ⟩:=zx (ofL (zeros 38))
   obtain⟨P,hP⟩:=zx (ofL (padL (nodeB k l z p ge D 8 ++ textL 2 m)))
   have htm:=HTM.out
   rw[hX] at hc s1 ⊢
   rw[hY] at hc s2 htm
   rw[hV] at hc hpad s4
   rw[hZ] at hpad s5
   rw[hP] at hpad
   have hlim:¬9223372036854775807<X.size+Y.size:=by omega
   have hlim2:¬9223372036854775807<V.size+Z.size:=by omega
   have HP:=zh hP
   have HZZ:=zh hZ
   have HTM:=zh htm
   clear htm
   clear hX hY hV hZ hP s1 s2 s3 s5 hpe hlen
   go_wp2_with fail
   refine(HTM.out _).mono ?_
   rintro e w2 ⟨rfl,hb2⟩
   have HB2:=zh (blN HB.out hb2)
   clear hb2 k0
   obtain⟨ia,ib,ic,id,ie⟩:=info_parts infoU8
   have hmk:=run_make_bytes (P:=Tryz.prog) w2 Tryz.underlying36 ib ic id ie 38 (by decide)
   have hcv:=run_bytes_text (P:=Tryz.prog) (w2.alloc (bytesO (zeros 38) 5 (0,0))) (src:=36) (dst:=9) (z:=[]) (l:=zeros 38) (n:=38) Tryz.underlying36 Tryz.underlying5 Tryz.underlying9 (by rw[List.append_nil]; exact heapNew w2 _) (zeros_length 38).symm 38
   rw[HZZ.out] at hcv
   obtain⟨W3,hW3⟩:=zx (w2.alloc (bytesO (zeros 38) 5 (0,0)))
   have HB3:Hid (Below W1.heap.size W1 W3):=by rw[←hW3]; exact bl1 HB2.out _
   rw[hW3] at hmk hcv
   change (Instr.makeSlice _ (.int .i64 38) (.int .i64 38)).run _ _=_ at hmk
   have e1:IntKind.i64.wrap (64-(V.size:Int))=38:=by rw[s4]; rfl
   clear hW3 ia ib ic id ie s4
   go_wp2
   first | exact⟨by rw[HP.out],blN HB1.out HB3.out⟩ | (go_ret; exact⟨by rw[HP.out]; rfl,blN HB1.out HB3.out⟩)
end
