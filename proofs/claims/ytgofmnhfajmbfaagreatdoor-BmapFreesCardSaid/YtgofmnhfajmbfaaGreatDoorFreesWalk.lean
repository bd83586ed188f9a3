/-
 BmapFrees: the walk.
-/
import Derived.Test.YtgofmnhfajmbfaaGreatDoorFreesMem
namespace Go.Proofs.YtgofmnhfajmbfaaGreatDoor
open Go Go.RowKit Txt Sp
section
set_option maxHeartbeats 8000000
set_option maxRecDepth 20000 in
theorem frees_any (w:World) (two:Bool) (v:Value) (l:List Do4) (ha:DosAt w v l):Calls Tryz.prog 6 #[.bool two,v] w fun e w'=>e = .returned (.bool true)∧Below w.heap.size w w':=by
 obtain⟨ad,len,cap,rfl,HN,hn2,HFa⟩:=RowAt.facts ha.1
 have HIn:=Lib.hid ha.2
 have hgr:=fun W:World=>ground_any W two
 obtain⟨g,hg0⟩:∃g,q164z two=g:=⟨_,rfl⟩
 have hg:g.ok:=by rw[←hg0]; cases two <;> decide
 have h3:3≤g.inodes:=by rw[←hg0]; cases two <;> decide
 obtain⟨n,hn,hn1⟩:∃n:Nat,g.groups=(n:Int)∧n≤1000:=by
  rw[←hg0]
  cases two
  ·exact⟨1,rfl,by omega⟩
  ·exact⟨2,rfl,by omega⟩
 obtain⟨ni,hni,hni1⟩:∃n:Nat,g.groups*g.inodes=(n:Int)∧n≤10000:=by
  rw[←hg0]
  cases two
  ·exact⟨4,rfl,by omega⟩
  ·exact⟨6,rfl,by omega⟩
 obtain⟨nb,hnb,hnb1⟩:∃n:Nat,g.groups*g.blocks=(n:Int)∧n≤10000:=by
  rw[←hg0]
  cases two
  ·exact⟨60,rfl,by omega⟩
  ·exact⟨60,rfl,by omega⟩
 rw[hg0] at hgr
 have hld:=fun W:World=>laid16z_any W hg h3
 have hwk:=fun W:World=>works16_any W
 have hst:=texts_start hg h3
 obtain⟨S0,hS0⟩:∃S,q24z (q29z g) 0 0=S:=⟨_,rfl⟩
 have hdl:S0.disk.last=0:=by rw[←hS0]; rfl
 rw[hS0] at hld hst
 have heq:=q91z
 have heq2:=eql_soft_nil
 -- the law's calls
 have hdone:=fun(wr:World) (B Bd tb gb:Nat) (S:Sp.Side) (D:Nat→Prop) (t0 t1:List UInt8) (m:Nat) (h:RM w B Bd tb gb g S D t0 t1 wr) (ht:Texts2 g S t0 t1 m) (hm:m<12) (k:Bool) (off:Int) (x:ByteArray) (p:Value)=>h.done hg h3 ht hm k off x p n hn hn1
 have hflush:=fun(wr:World) (B Bd tb gb:Nat) (S:Sp.Side) (D:Nat→Prop) (t0 t1:List UInt8) (m:Nat) (h:RM w B Bd tb gb g S D t0 t1 wr) (ht:Texts2 g S t0 t1 m) (hl:S.disk.last≤1024*100) (v:Value) (P:List Int) (hp:Ints w v P)=>h.flushT ht hl v P hp
 have hdrain:=fun(wr:World) (B Bd tb gb:Nat) (S:Sp.Side) (D:Nat→Prop) (t0 t1:List UInt8) (m:Nat) (h:RM w B Bd tb gb g S D t0 t1 wr) (ht:Texts2 g S t0 t1 m) (hm:m≤12) (hl:S.disk.last≤1024*100)=>h.drainedW ht hm hl
 have hfr:=fun(S:Sp.Side) (t0 t1:List UInt8) (m:Nat) (h:q165z g S t0 t1 m) (hm:m≤12)=>texts_fr h hm
 have hcl:=fun(wr:World) (B Bd tb gb:Nat) (S:Sp.Side) (D:Nat→Prop) (t0 t1:List UInt8) (h:RM w B Bd tb gb g S D t0 t1 wr) (k:Nat) (hk:k<2) (hf:Fr g S k)=>h.clear hg h3 hk hf
 have hlb:=fun(wr:World) (B Bd tb gb:Nat) (S:Sp.Side) (D:Nat→Prop) (t0 t1:List UInt8) (h:RM w B Bd tb gb g S D t0 t1 wr) (k:Nat) (hk:k<2) (hf:Fr g S (k+1))=>h.loadBareV hg h3 hk hf
 have hcn:=fun(wr:World) (B Bd tb gb:Nat) (S:Sp.Side) (D:Nat→Prop) (t0 t1:List UInt8) (h:RM w B Bd tb gb g S D t0 t1 wr) (k:Nat) (hk:k<2) (hf:Fr g S (k+1))=>h.clearNo hg h3 hk hf
 have hdf:=fun(wr:World) (B Bd tb gb:Nat) (S:Sp.Side) (D:Nat→Prop) (t0 t1:List UInt8) (h:RM w B Bd tb gb g S D t0 t1 wr) (hf:Fr g S 2) (hl:S.disk.last≤900000000)=>h.drainedF hf hl
 have hraw:=fun(wr:World) (B Bd tb gb:Nat) (S:Sp.Side) (D:Nat→Prop) (t0 t1:List UInt8) (h:RM w B Bd tb gb g S D t0 t1 wr)=>h.raw
 have hgrp:=fun(W:World)=>groups16_any W n hn hn1
 have hfa:=fun(wr:World) (B Bd tb gb:Nat) (S:Sp.Side) (D:Nat→Prop) (t0 t1:List UInt8) (h:RM w B Bd tb gb g (rawS S) D t0 t1 wr) (hf:Fr g S 2) (h0:S.deps.l=[]) (v:Value) (hv:Ints wr v (grpL n))=>h.freeAll hg hn hn1 hf h0 hv
 have hino:=fun W:World=>ginodes_any W g
 have hmany:=Geom.many_ok hg
 rw[hmany,hni] at hino
 rw[hni,hnb] at hfa
 have HNB:Hid (g.groups*g.blocks=(nb:Int)):=hnb
 obtain⟨ga,gb',gc⟩:=g
 unfold gV pt doV at *
 dsimp only at *
 have HGR:=Lib.hid hgr
 have HLD:=Lib.hid hld
 have HWK:=Lib.hid hwk
 have HST:=Lib.hid hst
 have HDL:=Lib.hid hdl
 have HDONE:=Lib.hid hdone
 have HFLUSH:=Lib.hid hflush
 have HDRAIN:=Lib.hid hdrain
 have HFR:=Lib.hid hfr
 have HCL:=Lib.hid hcl
 have HLB:=Lib.hid hlb
 have HCN:=Lib.hid hcn
 have HDF:=Lib.hid hdf
 have HRAW:=Lib.hid hraw
 have HGRP:=Lib.hid hgrp
 have HFA:=Lib.hid hfa
 have HINO:=Lib.hid hino
 clear hgr hld hwk hst hdl hdone hflush hdrain hfr hcl hlb hcn hdf hraw hgrp hfa hino
 clear ha hS0 hg0 hg h3 hn hn1 hmany hni hnb
 go_enter Tryz.func6,Tryz.ntmps6
 go_wp2_with fail
 refine(HGR.out _).mono ?_
 rintro e w1 ⟨rfl,hb1⟩
 obtain⟨W2,hW2⟩:∃W,w1.alloc (.cells #[.int .i64 ga,.int .i64 gb',.int .i64 gc] 23)=W:=⟨_,rfl⟩
 have HB2:Hid (Below w.heap.size w W2):=blN hb1 (by rw[←hW2]; exact bl2 _)
 have HG2:Hid (W2.heap[w1.heap.size]? = some (.cells #[.int .i64 ga,.int .i64 gb',.int .i64 gc] 23 (0,0))):=by rw[←hW2]; exact q3z w1 _
 have HZ2:Hid (w.heap.size≤w1.heap.size∧w1.heap.size<W2.heap.size):=⟨hb1.size,by rw[←hW2]; show _<_; simp⟩
 clear hb1
 have z0:=cellOf (k:=0) HG2.out rfl
 have z1:=cellOf (k:=1) HG2.out rfl
 have z2:=cellOf (k:=2) HG2.out rfl
 go_wp2_with fail
 clear z0 z1 z2 hW2
 refine(HLD.out _).mono ?_
 rintro e w3 ⟨B,Bd,D,rfl,hs3,hb3,hD3⟩
 have HS3:=Lib.hid hs3
 have HB3:=Lib.hid hb3
 have HD3:=Lib.hid hD3
 clear hs3 hb3 hD3
 go_wp2_with fail
 refine(HWK.out _).mono ?_
 rintro e w4 ⟨rfl,hb4⟩
 obtain⟨W5,hW5⟩:∃W,w4.alloc (.cells #[.slice none 0 0,.slice none 0 0] 56)=W:=⟨_,rfl⟩
 have HRM:Hid (RM w B Bd w4.heap.size w1.heap.size ⟨ga,gb',gc⟩ S0 D [] [] W5):=by
  have hz:=HZ2.out
  have h3:=HB3.out.size
  have h4:=hb4.size
  have hb5:Below w4.heap.size w4 W5:=by rw[←hW5]; exact bl2 _
  have hd:=HD3.out
  have hb35:Below w3.heap.size w3 W5:=blN hb4 hb5
  refine⟨⟨HS3.out.below hb35,fun j hj=>?_,fun j hj=>?_,by omega,fun hh=>?_,_,_,by rw[←hW5]; exact q3z w4 _,Or.inl ⟨rfl,rfl⟩,Or.inl ⟨rfl,rfl⟩⟩,q1z hb35 (q1z HB3.out HG2.out),fun hh=>?_,blN HB2.out (blN HB3.out hb35)⟩
  ·have:=(hd j hj).2; have:=hb35.size; omega
  ·have:=(hd j hj).1; omega
  ·have:=(hd _ hh).2; omega
  ·have:=(hd _ hh).1; omega
 clear hb4 HS3 HB3 HD3 HB2 HG2 HZ2 HGR HLD HWK
 obtain⟨tb,htb⟩:∃x,w4.heap.size=x:=⟨_,rfl⟩
 obtain⟨gb,hgb⟩:∃x,w1.heap.size=x:=⟨_,rfl⟩
 rw[htb,hgb] at HRM
 go_wp2
 clear htb hgb hW5
 go_loopw [9] (fun q wr=>∃(k:Nat) (S:Sp.Side) (D:Nat→Prop) (t0 t1:List UInt8),k≤len∧k≤12∧q = .int .i64 (k:Int)∧Hid (RM w B Bd tb gb ⟨ga,gb',gc⟩ S D t0 t1 wr)∧Hid (Texts2 ⟨ga,gb',gc⟩ S t0 t1 k∧S.disk.last≤1024*k)) (fun q _=>12-(intOf q).toNat)
 case atStart=>exact⟨0,S0,D,[],[],Nat.zero_le _,Nat.zero_le _,rfl,HRM,⟨HST.out,by rw[HDL.out]; exact Nat.zero_le _⟩⟩
 case round=>
  clear HRM HST HDL
  obtain⟨k,S,D,t0,t1,hk,hk12,rfl,HM,HT⟩:=hrel
  by_cases hlt:k<len∧k<12
  ·obtain⟨hl1,hl2⟩:=hlt
   obtain⟨b,o,x,rfl,hb,hx,hc⟩:=HFa.out k hl1
   obtain⟨-,-,P,hP⟩:=HIn.out x (List.mem_of_getElem? hx)
   obtain⟨xk,xo,xd,xp⟩:=x
   dsimp only at hP
   have hall:∀W S D t0 t1,RM w B Bd tb gb ⟨ga,gb',gc⟩ S D t0 t1 W→(W.cell? ⟨gb,0,none⟩=some (.int .i64 ga)∧W.cell? ⟨gb,1,none⟩=some (.int .i64 gb')∧W.cell? ⟨gb,2,none⟩=some (.int .i64 gc)∧W.cell? ⟨b,o+k*4,none⟩=some (.bool xk)∧W.cell? ⟨b,o+k*4+1,none⟩=some (.int .i64 xo)∧W.cell? ⟨b,o+k*4+2,none⟩=some (.string xd)∧W.cell? ⟨b,o+k*4+3,none⟩=some xp):=fun W S D t0 t1 hM=>
    ⟨cellOf (k:=0) hM.box rfl,cellOf (k:=1) hM.box rfl,cellOf (k:=2) hM.box rfl,(hM.bel.cell (p:=⟨b,o+k*4,none⟩) hb).trans (hc 0 _ rfl),(hM.bel.cell (p:=⟨b,o+k*4+1,none⟩) hb).trans (hc 1 _ rfl),(hM.bel.cell (p:=⟨b,o+k*4+2,none⟩) hb).trans (hc 2 _ rfl),(hM.bel.cell (p:=⟨b,o+k*4+3,none⟩) hb).trans (hc 3 _ rfl)⟩
   have HAll:=Lib.hid hall
   have hMd:=HM.out.below (blD (Below.refl _ _):Below wr.heap.size wr wr.drew)
   have HDn:=Lib.hid (HDONE.out wr.drew B Bd tb gb S D t0 t1 k hMd HT.out.1 hl2 xk xo xd xp)
   have hSd:=HAll.out _ _ _ _ _ hMd
   have HP:=Lib.hid hP
   clear hall hx hc hb hMd hP HDONE
   go_upto_region 9 with fail
   refine q22z (fun W=>W.cell? ⟨gb,0,none⟩=some (.int .i64 ga)∧W.cell? ⟨gb,1,none⟩=some (.int .i64 gb')∧W.cell? ⟨gb,2,none⟩=some (.int .i64 gc)∧W.cell? ⟨b,o+k*4,none⟩=some (.bool xk)∧W.cell? ⟨b,o+k*4+1,none⟩=some (.int .i64 xo)∧W.cell? ⟨b,o+k*4+2,none⟩=some (.string xd)∧W.cell? ⟨b,o+k*4+3,none⟩=some xp) 16 (by kernel_rfl) (by first | trivial | assumption) (fun hHeld hX0=>?_)
   refine tkU 0 ?_; clear hX0; intro hX0; simp only[Act.put,ps0]
   refine tkU 1 ?_; clear hX0; intro hX0; simp only[Act.put,ps0]
   refine tkU 2 ?_; clear hX0; intro hX0; simp only[Act.put,ps0]
   refine tkU 3 ?_; clear hX0; intro hX0; simp only[Act.put,ps0]
   refine tkU 4 ?_; clear hX0; intro hX0; simp only[Act.put,ps0]
   refine tkU 5 ?_; clear hX0; intro hX0; simp only[Act.put,ps0]
   refine AnyU.each (is:=[6]) (by kernel_rfl) (by simp) (EachU.cons hX0 (by kernel_rfl) rfl (fun K hK=>?_) EachU.nil)
   try simp only[gg0]
   go_simp
   refine HDn.out.mono ?_
   rintro e w6 ⟨rfl,S6,D6,a0,a1,hM6,hT6,hd6⟩
   have hl6:S6.disk.last≤1024*k:=by rw[hd6]; exact HT.out.2
   have HFl:=Lib.hid (HFLUSH.out w6 B Bd tb gb S6 D6 a0 a1 (k+1) hM6 hT6 (by omega) xp P HP.out)
   have hS6:=HAll.out _ _ _ _ _ hM6
   clear hM6 hT6 hd6
   try simp only
   refine hK.out _ _ (fun _=>?hkS) (fun hHeld2 hX1=>?_)
   case hkS=>
    exact hS6
   clear hHeld; have hHeld:=hHeld2 (by decide)
   clear hK K hHeld2 hX0; have hX0:=hX1; clear hX1
   try simp only[Act.put,ps0]
   refine tkU 7 ?_; clear hX0; intro hX0; simp only[Act.put,ps0]
   refine tkU 8 ?_; clear hX0; intro hX0; simp only[Act.put,ps0]
   refine tkU 9 ?_; clear hX0; intro hX0; simp only[Act.put,ps0]
   refine tkU 10 ?_; clear hX0; intro hX0; simp only[Act.put,ps0]
   refine tkU 11 ?_; clear hX0; intro hX0; simp only[Act.put,ps0]
   refine tkU 12 ?_; clear hX0; intro hX0; simp only[Act.put,ps0]
   refine tkU 13 ?_; clear hX0; intro hX0; simp only[Act.put,ps0]
   refine tkU 14 ?_; clear hX0; intro hX0; simp only[Act.put,ps0]
   refine tkU 15 ?_; clear hX0; intro hX0; simp only[Act.put,ps0]
   refine AnyU.each (is:=[16]) (by kernel_rfl) (by simp) (EachU.cons hX0 (by kernel_rfl) rfl (fun K hK=>?_) EachU.nil)
   try simp only[gg0]
   go_simp
   refine HFl.out.mono ?_
   rintro e w7 ⟨rfl,S7,hM7,hT7,hd7⟩
   have hl7:S7.disk.last≤1024*(k+1):=by omega
   try simp only
   refine hK.out _ _ (fun h=>absurd h (by decide)) (fun _ hX1=>?_)
   clear hK K hX0; have hX0:=hX1; clear hX1
   try simp only[Act.put,ps0]
   refine pkU 17 ?_; clear hX0; intro hX0; simp only[Act.put,ps0]
   refine pkU 18 ?_; clear hX0; intro hX0; simp only[Act.put,ps0]
   refine AnyU.done (by kernel_rfl) ?_ _
   have HM7:=Lib.hid hM7
   have HT7:Hid (Texts2 ⟨ga,gb',gc⟩ S7 a0 a1 (k+1)∧S7.disk.last≤1024*(k+1)):=⟨hT7,hl7⟩
   clear hM7 hT7 hd7 hl7 hl6 hSd hS6 hHeld hX0 HFl HDn HFLUSH HDRAIN HRAW HP
   go_wp2
   go_roundw
   case rel=>exact⟨k+1,S7,D6,a0,a1,by omega,by omega,by go_num,HM7,HT7⟩
   case measure=>simp[intOf]; omega
  ·have hlt2:(¬k<len)∨(k<len∧¬k<12):=by omega
   have HDr:=Lib.hid (HDRAIN.out wr B Bd tb gb S D t0 t1 k HM.out HT.out.1 hk12 (by have:=HT.out.2; omega))
   have HT2:Hid (S.disk.last≤1024*12):=by have:=HT.out.2; exact Nat.le_trans this (Nat.mul_le_mul_left _ hk12)
   clear HDONE HFLUSH HDRAIN
   rcases hlt2 with h1 | ⟨h1,h2⟩
   ·skip
    go_wp2_with fail
    refine HDr.out.mono ?_
    rintro e w9 ⟨rfl,S9,hM9,hw9,-,-,hd9⟩
    have HM9:=Lib.hid hM9
    have HF9:Hid (Fr ⟨ga,gb',gc⟩ S9 0∧S9.disk.last≤800000):=⟨HFR.out S9 t0 t1 k hw9 hk12,by have:=HT2.out; omega⟩
    clear hM9 hw9 hd9 HDr
    go_wp2
    go_loopw [10] (fun q wr=>∃(j:Nat) (S:Sp.Side) (D:Nat→Prop),j≤2∧q = .int .i64 ((2+j:Nat):Int)∧Hid (RM w B Bd tb gb ⟨ga,gb',gc⟩ S D t0 t1 wr)∧Hid (Fr ⟨ga,gb',gc⟩ S j∧S.disk.last≤800000)) (fun q _=>4-(intOf q).toNat)
    case atStart=>exact⟨0,S9,_,Nat.zero_le _,rfl,HM9,HF9⟩
    case round=>
     clear HM9 HF9
     obtain⟨j,Sj,Dj,hj,rfl,HMj,HFj⟩:=hrel
     rcases(show j=0∨j=1∨j=2 by omega) with rfl | rfl | rfl
     ·skip
      have HC1:=Lib.hid (HCL.out _ B Bd tb gb Sj Dj t0 t1 HMj.out 0 (by decide) HFj.out.1)
      have z0:=cellOf (k:=0) HMj.out.box rfl
      have z1:=cellOf (k:=1) HMj.out.box rfl
      have z2:=cellOf (k:=2) HMj.out.box rfl
      go_wp2_with fail
      clear z0 z1 z2
      refine HC1.out.mono ?_
      rintro e w10 ⟨vc,S10,D10,rfl,hM10,hF10,hd10⟩
      have HM10:=Lib.hid hM10
      have HF10:Hid (Fr ⟨ga,gb',gc⟩ S10 1∧S10.disk.last≤800000):=⟨hF10,by rw[hd10]; exact HFj.out.2⟩
      clear hM10 hF10 hd10 HC1
      have z0:=cellOf (k:=0) HM10.out.box rfl
      have z1:=cellOf (k:=1) HM10.out.box rfl
      have z2:=cellOf (k:=2) HM10.out.box rfl
      have HL1:=Lib.hid (HLB.out w10 B Bd tb gb S10 D10 t0 t1 HM10.out 0 (by decide) HF10.out.1)
      go_wp2_with fail
      clear z0 z1 z2
      refine HL1.out.mono ?_
      rintro e w11 ⟨x0,x1,x2,x3,x4,x5,x6,x7,x8,x9,x10,x11,x12,x13,rfl,hM11,HX11⟩
      have hneq:=fun W:World=>neq_bareV W HX11.out
      obtain⟨W12,hW12⟩:∃W,w11.alloc (.cells #[.int .i64 x0,.int .i64 x1,.int .i64 x2,.int .i64 x3,.int .i64 x4,.int .i64 x5,.int .i64 x6,.int .i64 x7,.int .i64 x8,.int .i64 x9,.int .i64 x10,.int .i64 x11,.int .i64 x12,.int .i64 x13] 69)=W:=⟨_,rfl⟩
      have hz12:W12.heap[w11.heap.size]? = some (.cells #[.int .i64 x0,.int .i64 x1,.int .i64 x2,.int .i64 x3,.int .i64 x4,.int .i64 x5,.int .i64 x6,.int .i64 x7,.int .i64 x8,.int .i64 x9,.int .i64 x10,.int .i64 x11,.int .i64 x12,.int .i64 x13] 69 (0,0)):=by rw[←hW12]; exact q3z w11 _
      have HM12:=Lib.hid (hM11.below (show Below w11.heap.size w11 W12 by rw[←hW12]; exact bl2 _))
      clear hM11 HL1
      have z0:=cellOf (k:=0) HM12.out.box rfl
      have z1:=cellOf (k:=1) HM12.out.box rfl
      have z2:=cellOf (k:=2) HM12.out.box rfl
      obtain⟨y0,-⟩:=q74z hz12
      have HN1:=Lib.hid (HCN.out W12 B Bd tb gb S10 D10 t0 t1 HM12.out 0 (by decide) HF10.out.1)
      clear hz12
      go_wp2_with fail
      clear z0 z1 z2 y0 hW12 hneq
      refine HN1.out.mono ?_
      rintro e w13 ⟨rfl,hM13⟩
      have HM13:=Lib.hid hM13
      clear hM13 HN1
      go_wp2
      go_roundw
      case rel=>exact⟨1,S10,D10,by decide,rfl,HM13,HF10⟩
      case measure=>simp[intOf]
     ·skip
      have HC1:=Lib.hid (HCL.out _ B Bd tb gb Sj Dj t0 t1 HMj.out 1 (by decide) HFj.out.1)
      have z0:=cellOf (k:=0) HMj.out.box rfl
      have z1:=cellOf (k:=1) HMj.out.box rfl
      have z2:=cellOf (k:=2) HMj.out.box rfl
      go_wp2_with fail
      clear z0 z1 z2
      refine HC1.out.mono ?_
      rintro e w10 ⟨vc,S10,D10,rfl,hM10,hF10,hd10⟩
      have HM10:=Lib.hid hM10
      have HF10:Hid (Fr ⟨ga,gb',gc⟩ S10 2∧S10.disk.last≤800000):=⟨hF10,by rw[hd10]; exact HFj.out.2⟩
      clear hM10 hF10 hd10 HC1
      have z0:=cellOf (k:=0) HM10.out.box rfl
      have z1:=cellOf (k:=1) HM10.out.box rfl
      have z2:=cellOf (k:=2) HM10.out.box rfl
      have HL1:=Lib.hid (HLB.out w10 B Bd tb gb S10 D10 t0 t1 HM10.out 1 (by decide) HF10.out.1)
      go_wp2_with fail
      clear z0 z1 z2
      refine HL1.out.mono ?_
      rintro e w11 ⟨x0,x1,x2,x3,x4,x5,x6,x7,x8,x9,x10,x11,x12,x13,rfl,hM11,HX11⟩
      have hneq:=fun W:World=>neq_bareV W HX11.out
      obtain⟨W12,hW12⟩:∃W,w11.alloc (.cells #[.int .i64 x0,.int .i64 x1,.int .i64 x2,.int .i64 x3,.int .i64 x4,.int .i64 x5,.int .i64 x6,.int .i64 x7,.int .i64 x8,.int .i64 x9,.int .i64 x10,.int .i64 x11,.int .i64 x12,.int .i64 x13] 69)=W:=⟨_,rfl⟩
      have hz12:W12.heap[w11.heap.size]? = some (.cells #[.int .i64 x0,.int .i64 x1,.int .i64 x2,.int .i64 x3,.int .i64 x4,.int .i64 x5,.int .i64 x6,.int .i64 x7,.int .i64 x8,.int .i64 x9,.int .i64 x10,.int .i64 x11,.int .i64 x12,.int .i64 x13] 69 (0,0)):=by rw[←hW12]; exact q3z w11 _
      have HM12:=Lib.hid (hM11.below (show Below w11.heap.size w11 W12 by rw[←hW12]; exact bl2 _))
      clear hM11 HL1
      have z0:=cellOf (k:=0) HM12.out.box rfl
      have z1:=cellOf (k:=1) HM12.out.box rfl
      have z2:=cellOf (k:=2) HM12.out.box rfl
      obtain⟨y0,-⟩:=q74z hz12
      have HN1:=Lib.hid (HCN.out W12 B Bd tb gb S10 D10 t0 t1 HM12.out 1 (by decide) HF10.out.1)
      clear hz12
      go_wp2_with fail
      clear z0 z1 z2 y0 hW12 hneq
      refine HN1.out.mono ?_
      rintro e w13 ⟨rfl,hM13⟩
      have HM13:=Lib.hid hM13
      clear hM13 HN1
      go_wp2
      go_roundw
      case rel=>exact⟨2,S10,D10,by decide,rfl,HM13,HF10⟩
      case measure=>simp[intOf]
     ·have HD2:=Lib.hid (HDF.out _ B Bd tb gb Sj Dj t0 t1 HMj.out HFj.out.1 (by have:=HFj.out.2; omega))
      go_wp2_with fail
      refine HD2.out.mono ?_
      rintro e w10 ⟨rfl,S10,hM10,hF10,h010⟩
      have HF10:Hid (Fr ⟨ga,gb',gc⟩ S10 2∧S10.deps.l=[]):=⟨hF10,h010⟩
      have HRw:=Lib.hid (HRAW.out w10 B Bd tb gb S10 Dj t0 t1 hM10)
      clear hM10 hF10 h010 HD2 HMj HFj
      go_wp2_with fail
      refine HRw.out.mono ?_
      rintro e w11 ⟨B',D',rfl,hM11,-⟩
      have HM11:=Lib.hid hM11
      clear hM11 HRw
      have hbx:∀W,Below w11.heap.size w11 W→(W.cell? ⟨gb,0,none⟩=some (.int .i64 ga)∧W.cell? ⟨gb,1,none⟩=some (.int .i64 gb')∧W.cell? ⟨gb,2,none⟩=some (.int .i64 gc)):=fun W hW=>by
       have h:=(HM11.out.below hW).box
       exact⟨cellOf (k:=0) h rfl,cellOf (k:=1) h rfl,cellOf (k:=2) h rfl⟩
      have HBX:=Lib.hid hbx
      have hSd:=hbx w11.drew (blD (Below.refl _ _))
      clear hbx
      go_upto_region 30 with fail
      refine q22z (fun W=>W.cell? ⟨gb,0,none⟩=some (.int .i64 ga)∧W.cell? ⟨gb,1,none⟩=some (.int .i64 gb')∧W.cell? ⟨gb,2,none⟩=some (.int .i64 gc)) 4 (by kernel_rfl) (by first | trivial | assumption) (fun hHeld hX0=>?_)
      refine tkU 0 ?_; clear hX0; intro hX0; simp only[Act.put,ps0]
      refine tkU 1 ?_; clear hX0; intro hX0; simp only[Act.put,ps0]
      refine tkU 2 ?_; clear hX0; intro hX0; simp only[Act.put,ps0]
      refine AnyU.each (is:=[3]) (by kernel_rfl) (by simp) (EachU.cons hX0 (by kernel_rfl) rfl (fun K hK=>?_) EachU.nil)
      try simp only[gg0]
      go_simp
      refine(HGRP.out _).mono ?_
      rintro e w12 ⟨vk,rfl,ho12,hb12⟩
      have HB12:Hid (Below w11.heap.size w11 w12):=blN (blD (Below.refl _ _)) hb12
      have HI12:Hid (Ints w12 vk (grpL n)):=OwnR.row (fun _ _=>rfl) ho12
      clear ho12 hb12
      try simp only
      refine hK.out _ _ (fun _=>?hkS) (fun hHeld2 hX1=>?_)
      case hkS=>
       exact HBX.out _ HB12.out
      clear hHeld; have hHeld:=hHeld2 (by decide)
      clear hK K hHeld2 hX0; have hX0:=hX1; clear hX1
      try simp only[Act.put,ps0]
      refine AnyU.each (is:=[4]) (by kernel_rfl) (by simp) (EachU.cons hX0 (by kernel_rfl) rfl (fun K hK=>?_) EachU.nil)
      try simp only[gg0]
      go_simp
      refine(HFA.out w12 B' Bd tb gb S10 D' t0 t1 (HM11.out.below HB12.out) HF10.out.1 HF10.out.2 vk HI12.out).mono ?_
      rintro e w13 ⟨rfl,hb13⟩
      try simp only
      refine hK.out _ _ (fun h=>absurd h (by decide)) (fun _ hX1=>?_)
      clear hK K hX0; have hX0:=hX1; clear hX1
      try simp only[Act.put,ps0]
      refine pkU 5 ?_; clear hX0; intro hX0; simp only[Act.put,ps0]
      refine pkU 6 ?_; clear hX0; intro hX0; simp only[Act.put,ps0]
      refine pkU 7 ?_; clear hX0; intro hX0; simp only[Act.put,ps0]
      refine pkU 8 ?_; clear hX0; intro hX0; simp only[Act.put,ps0]
      refine pkU 9 ?_; clear hX0; intro hX0; simp only[Act.put,ps0]
      refine pkU 10 ?_; clear hX0; intro hX0; simp only[Act.put,ps0]
      refine pkU 11 ?_; clear hX0; intro hX0; simp only[Act.put,ps0]
      refine AnyU.done (by kernel_rfl) ?_ _
      have HM13:=Lib.hid ((HM11.out.below HB12.out).below hb13)
      clear hb13 hSd hHeld hX0
      have e1:wrap64 (ga*gc)=(nb:Int):=by rw[HNB.out,←IntWalk.i64_left]; exact IntWalk.i64_in _ (by omega)
      have e2:wrap64 ((ni:Int)-1)=(ni:Int)-1:=by rw[←IntWalk.i64_left]; exact IntWalk.i64_in _ (by omega)
      have z0:=cellOf (k:=0) HM13.out.box rfl
      have z1:=cellOf (k:=1) HM13.out.box rfl
      have z2:=cellOf (k:=2) HM13.out.box rfl
      go_wp2_with fail
      clear z0 z1 z2
      refine(HINO.out _).mono ?_
      rintro e w14 ⟨rfl,hb14⟩
      have HM14:=Lib.hid (HM13.out.below hb14)
      have z0:=cellOf (k:=0) HM14.out.box rfl
      have z1:=cellOf (k:=1) HM14.out.box rfl
      have z2:=cellOf (k:=2) HM14.out.box rfl
      have HF:Hid (Below w.heap.size w w14):=HM14.out.bel
      clear hb14
      go_wp2
      go_ret
      exact⟨rfl,HF.out⟩
   ·skip
    go_wp2_with fail
    refine HDr.out.mono ?_
    rintro e w9 ⟨rfl,S9,hM9,hw9,-,-,hd9⟩
    have HM9:=Lib.hid hM9
    have HF9:Hid (Fr ⟨ga,gb',gc⟩ S9 0∧S9.disk.last≤800000):=⟨HFR.out S9 t0 t1 k hw9 hk12,by have:=HT2.out; omega⟩
    clear hM9 hw9 hd9 HDr
    go_wp2
    go_loopw [10] (fun q wr=>∃(j:Nat) (S:Sp.Side) (D:Nat→Prop),j≤2∧q = .int .i64 ((2+j:Nat):Int)∧Hid (RM w B Bd tb gb ⟨ga,gb',gc⟩ S D t0 t1 wr)∧Hid (Fr ⟨ga,gb',gc⟩ S j∧S.disk.last≤800000)) (fun q _=>4-(intOf q).toNat)
    case atStart=>exact⟨0,S9,_,Nat.zero_le _,rfl,HM9,HF9⟩
    case round=>
     clear HM9 HF9
     obtain⟨j,Sj,Dj,hj,rfl,HMj,HFj⟩:=hrel
     rcases(show j=0∨j=1∨j=2 by omega) with rfl | rfl | rfl
     ·skip
      have HC1:=Lib.hid (HCL.out _ B Bd tb gb Sj Dj t0 t1 HMj.out 0 (by decide) HFj.out.1)
      have z0:=cellOf (k:=0) HMj.out.box rfl
      have z1:=cellOf (k:=1) HMj.out.box rfl
      have z2:=cellOf (k:=2) HMj.out.box rfl
      go_wp2_with fail
      clear z0 z1 z2
      refine HC1.out.mono ?_
      rintro e w10 ⟨vc,S10,D10,rfl,hM10,hF10,hd10⟩
      have HM10:=Lib.hid hM10
      have HF10:Hid (Fr ⟨ga,gb',gc⟩ S10 1∧S10.disk.last≤800000):=⟨hF10,by rw[hd10]; exact HFj.out.2⟩
      clear hM10 hF10 hd10 HC1
      have z0:=cellOf (k:=0) HM10.out.box rfl
      have z1:=cellOf (k:=1) HM10.out.box rfl
      have z2:=cellOf (k:=2) HM10.out.box rfl
      have HL1:=Lib.hid (HLB.out w10 B Bd tb gb S10 D10 t0 t1 HM10.out 0 (by decide) HF10.out.1)
      go_wp2_with fail
      clear z0 z1 z2
      refine HL1.out.mono ?_
      rintro e w11 ⟨x0,x1,x2,x3,x4,x5,x6,x7,x8,x9,x10,x11,x12,x13,rfl,hM11,HX11⟩
      have hneq:=fun W:World=>neq_bareV W HX11.out
      obtain⟨W12,hW12⟩:∃W,w11.alloc (.cells #[.int .i64 x0,.int .i64 x1,.int .i64 x2,.int .i64 x3,.int .i64 x4,.int .i64 x5,.int .i64 x6,.int .i64 x7,.int .i64 x8,.int .i64 x9,.int .i64 x10,.int .i64 x11,.int .i64 x12,.int .i64 x13] 69)=W:=⟨_,rfl⟩
      have hz12:W12.heap[w11.heap.size]? = some (.cells #[.int .i64 x0,.int .i64 x1,.int .i64 x2,.int .i64 x3,.int .i64 x4,.int .i64 x5,.int .i64 x6,.int .i64 x7,.int .i64 x8,.int .i64 x9,.int .i64 x10,.int .i64 x11,.int .i64 x12,.int .i64 x13] 69 (0,0)):=by rw[←hW12]; exact q3z w11 _
      have HM12:=Lib.hid (hM11.below (show Below w11.heap.size w11 W12 by rw[←hW12]; exact bl2 _))
      clear hM11 HL1
      have z0:=cellOf (k:=0) HM12.out.box rfl
      have z1:=cellOf (k:=1) HM12.out.box rfl
      have z2:=cellOf (k:=2) HM12.out.box rfl
      obtain⟨y0,-⟩:=q74z hz12
      have HN1:=Lib.hid (HCN.out W12 B Bd tb gb S10 D10 t0 t1 HM12.out 0 (by decide) HF10.out.1)
      clear hz12
      go_wp2_with fail
      clear z0 z1 z2 y0 hW12 hneq
      refine HN1.out.mono ?_
      rintro e w13 ⟨rfl,hM13⟩
      have HM13:=Lib.hid hM13
      clear hM13 HN1
      go_wp2
      go_roundw
      case rel=>exact⟨1,S10,D10,by decide,rfl,HM13,HF10⟩
      case measure=>simp[intOf]
     ·skip
      have HC1:=Lib.hid (HCL.out _ B Bd tb gb Sj Dj t0 t1 HMj.out 1 (by decide) HFj.out.1)
      have z0:=cellOf (k:=0) HMj.out.box rfl
      have z1:=cellOf (k:=1) HMj.out.box rfl
      have z2:=cellOf (k:=2) HMj.out.box rfl
      go_wp2_with fail
      clear z0 z1 z2
      refine HC1.out.mono ?_
      rintro e w10 ⟨vc,S10,D10,rfl,hM10,hF10,hd10⟩
      have HM10:=Lib.hid hM10
      have HF10:Hid (Fr ⟨ga,gb',gc⟩ S10 2∧S10.disk.last≤800000):=⟨hF10,by rw[hd10]; exact HFj.out.2⟩
      clear hM10 hF10 hd10 HC1
      have z0:=cellOf (k:=0) HM10.out.box rfl
      have z1:=cellOf (k:=1) HM10.out.box rfl
      have z2:=cellOf (k:=2) HM10.out.box rfl
      have HL1:=Lib.hid (HLB.out w10 B Bd tb gb S10 D10 t0 t1 HM10.out 1 (by decide) HF10.out.1)
      go_wp2_with fail
      clear z0 z1 z2
      refine HL1.out.mono ?_
      rintro e w11 ⟨x0,x1,x2,x3,x4,x5,x6,x7,x8,x9,x10,x11,x12,x13,rfl,hM11,HX11⟩
      have hneq:=fun W:World=>neq_bareV W HX11.out
      obtain⟨W12,hW12⟩:∃W,w11.alloc (.cells #[.int .i64 x0,.int .i64 x1,.int .i64 x2,.int .i64 x3,.int .i64 x4,.int .i64 x5,.int .i64 x6,.int .i64 x7,.int .i64 x8,.int .i64 x9,.int .i64 x10,.int .i64 x11,.int .i64 x12,.int .i64 x13] 69)=W:=⟨_,rfl⟩
      have hz12:W12.heap[w11.heap.size]? = some (.cells #[.int .i64 x0,.int .i64 x1,.int .i64 x2,.int .i64 x3,.int .i64 x4,.int .i64 x5,.int .i64 x6,.int .i64 x7,.int .i64 x8,.int .i64 x9,.int .i64 x10,.int .i64 x11,.int .i64 x12,.int .i64 x13] 69 (0,0)):=by rw[←hW12]; exact q3z w11 _
      have HM12:=Lib.hid (hM11.below (show Below w11.heap.size w11 W12 by rw[←hW12]; exact bl2 _))
      clear hM11 HL1
      have z0:=cellOf (k:=0) HM12.out.box rfl
      have z1:=cellOf (k:=1) HM12.out.box rfl
      have z2:=cellOf (k:=2) HM12.out.box rfl
      obtain⟨y0,-⟩:=q74z hz12
      have HN1:=Lib.hid (HCN.out W12 B Bd tb gb S10 D10 t0 t1 HM12.out 1 (by decide) HF10.out.1)
      clear hz12
      go_wp2_with fail
      clear z0 z1 z2 y0 hW12 hneq
      refine HN1.out.mono ?_
      rintro e w13 ⟨rfl,hM13⟩
      have HM13:=Lib.hid hM13
      clear hM13 HN1
      go_wp2
      go_roundw
      case rel=>exact⟨2,S10,D10,by decide,rfl,HM13,HF10⟩
      case measure=>simp[intOf]
     ·have HD2:=Lib.hid (HDF.out _ B Bd tb gb Sj Dj t0 t1 HMj.out HFj.out.1 (by have:=HFj.out.2; omega))
      go_wp2_with fail
      refine HD2.out.mono ?_
      rintro e w10 ⟨rfl,S10,hM10,hF10,h010⟩
      have HF10:Hid (Fr ⟨ga,gb',gc⟩ S10 2∧S10.deps.l=[]):=⟨hF10,h010⟩
      have HRw:=Lib.hid (HRAW.out w10 B Bd tb gb S10 Dj t0 t1 hM10)
      clear hM10 hF10 h010 HD2 HMj HFj
      go_wp2_with fail
      refine HRw.out.mono ?_
      rintro e w11 ⟨B',D',rfl,hM11,-⟩
      have HM11:=Lib.hid hM11
      clear hM11 HRw
      have hbx:∀W,Below w11.heap.size w11 W→(W.cell? ⟨gb,0,none⟩=some (.int .i64 ga)∧W.cell? ⟨gb,1,none⟩=some (.int .i64 gb')∧W.cell? ⟨gb,2,none⟩=some (.int .i64 gc)):=fun W hW=>by
       have h:=(HM11.out.below hW).box
       exact⟨cellOf (k:=0) h rfl,cellOf (k:=1) h rfl,cellOf (k:=2) h rfl⟩
      have HBX:=Lib.hid hbx
      have hSd:=hbx w11.drew (blD (Below.refl _ _))
      clear hbx
      go_upto_region 30 with fail
      refine q22z (fun W=>W.cell? ⟨gb,0,none⟩=some (.int .i64 ga)∧W.cell? ⟨gb,1,none⟩=some (.int .i64 gb')∧W.cell? ⟨gb,2,none⟩=some (.int .i64 gc)) 4 (by kernel_rfl) (by first | trivial | assumption) (fun hHeld hX0=>?_)
      refine tkU 0 ?_; clear hX0; intro hX0; simp only[Act.put,ps0]
      refine tkU 1 ?_; clear hX0; intro hX0; simp only[Act.put,ps0]
      refine tkU 2 ?_; clear hX0; intro hX0; simp only[Act.put,ps0]
      refine AnyU.each (is:=[3]) (by kernel_rfl) (by simp) (EachU.cons hX0 (by kernel_rfl) rfl (fun K hK=>?_) EachU.nil)
      try simp only[gg0]
      go_simp
      refine(HGRP.out _).mono ?_
      rintro e w12 ⟨vk,rfl,ho12,hb12⟩
      have HB12:Hid (Below w11.heap.size w11 w12):=blN (blD (Below.refl _ _)) hb12
      have HI12:Hid (Ints w12 vk (grpL n)):=OwnR.row (fun _ _=>rfl) ho12
      clear ho12 hb12
      try simp only
      refine hK.out _ _ (fun _=>?hkS) (fun hHeld2 hX1=>?_)
      case hkS=>
       exact HBX.out _ HB12.out
      clear hHeld; have hHeld:=hHeld2 (by decide)
      clear hK K hHeld2 hX0; have hX0:=hX1; clear hX1
      try simp only[Act.put,ps0]
      refine AnyU.each (is:=[4]) (by kernel_rfl) (by simp) (EachU.cons hX0 (by kernel_rfl) rfl (fun K hK=>?_) EachU.nil)
      try simp only[gg0]
      go_simp
      refine(HFA.out w12 B' Bd tb gb S10 D' t0 t1 (HM11.out.below HB12.out) HF10.out.1 HF10.out.2 vk HI12.out).mono ?_
      rintro e w13 ⟨rfl,hb13⟩
      try simp only
      refine hK.out _ _ (fun h=>absurd h (by decide)) (fun _ hX1=>?_)
      clear hK K hX0; have hX0:=hX1; clear hX1
      try simp only[Act.put,ps0]
      refine pkU 5 ?_; clear hX0; intro hX0; simp only[Act.put,ps0]
      refine pkU 6 ?_; clear hX0; intro hX0; simp only[Act.put,ps0]
      refine pkU 7 ?_; clear hX0; intro hX0; simp only[Act.put,ps0]
      refine pkU 8 ?_; clear hX0; intro hX0; simp only[Act.put,ps0]
      refine pkU 9 ?_; clear hX0; intro hX0; simp only[Act.put,ps0]
      refine pkU 10 ?_; clear hX0; intro hX0; simp only[Act.put,ps0]
      refine pkU 11 ?_; clear hX0; intro hX0; simp only[Act.put,ps0]
      refine AnyU.done (by kernel_rfl) ?_ _
      have HM13:=Lib.hid ((HM11.out.below HB12.out).below hb13)
      clear hb13 hSd hHeld hX0
      have e1:wrap64 (ga*gc)=(nb:Int):=by rw[HNB.out,←IntWalk.i64_left]; exact IntWalk.i64_in _ (by omega)
      have e2:wrap64 ((ni:Int)-1)=(ni:Int)-1:=by rw[←IntWalk.i64_left]; exact IntWalk.i64_in _ (by omega)
      have z0:=cellOf (k:=0) HM13.out.box rfl
      have z1:=cellOf (k:=1) HM13.out.box rfl
      have z2:=cellOf (k:=2) HM13.out.box rfl
      go_wp2_with fail
      clear z0 z1 z2
      refine(HINO.out _).mono ?_
      rintro e w14 ⟨rfl,hb14⟩
      have HM14:=Lib.hid (HM13.out.below hb14)
      have z0:=cellOf (k:=0) HM14.out.box rfl
      have z1:=cellOf (k:=1) HM14.out.box rfl
      have z2:=cellOf (k:=2) HM14.out.box rfl
      have HF:Hid (Below w.heap.size w w14):=HM14.out.bel
      clear hb14
      go_wp2
      go_ret
      exact⟨rfl,HF.out⟩
end
end Go.Proofs.YtgofmnhfajmbfaaGreatDoor
