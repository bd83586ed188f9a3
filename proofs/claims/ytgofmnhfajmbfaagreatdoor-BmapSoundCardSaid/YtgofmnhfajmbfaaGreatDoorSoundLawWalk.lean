import Derived.Test.YtgofmnhfajmbfaaGreatDoorSndWalk
namespace Go.Proofs.YtgofmnhfajmbfaaGreatDoor
open Go Go.RowKit Txt Sp
theorem ints_drop {w:World} {ad:Option Addr} {n cap:Nat} {P:List Int} (h:Ints w (.slice ad n cap) P) {m:Nat} (hm:m≤n):Ints w (sliced ad m n cap 1) (P.drop m):=by
 obtain⟨a,c,e,h1,h2,h3⟩:=h
 rw[List.length_map] at e h1 h3
 cases e
 unfold sliced
 refine⟨_,cap-m,by rw[List.length_map,List.length_drop],by rw[List.length_map,List.length_drop]; omega,by omega,fun hp=>?_⟩
 rw[List.length_map,List.length_drop] at hp
 obtain⟨b,off,rfl,hb,hc⟩:=h3 (by omega)
 rw[if_neg (by omega)]
 refine⟨b,off+m,by simp[Addr.add],hb,fun j x hx i y hy=>?_⟩
 rw[List.map_drop,List.getElem?_drop] at hx
 have:=hc (m+j) x hx i y hy
 rw[show off+m+j*1+i=off+(m+j)*1+i by omega]
 exact this
section
variable {w wr wr':World} {B Bd tb gb:Nat} {g:Sp.Geom} {S S':Sp.Side} {D D':Nat→Prop} {t0 t1:List UInt8}
theorem RM.sound (h:RM w B Bd tb gb g S D t0 t1 wr) (hg:g.ok) {fs:Int→File} (hp:SoundP g S fs) {n:Nat} (hn:g.groups*g.inodes=(n:Int)) (hn1:n≤10000) :
 Calls Tryz.prog 25 #[pt Bd,gV g] wr fun e w'=>e = .returned (.bool true)∧Below wr.heap.size wr w':=by
 obtain⟨Bc,fm,Dd,hs⟩:=h.tm.side.parts
 exact sound_any hs.disk (fun j hj=>h.tm.lt j (hs.sub j hj)) hg hp hn hn1
theorem RM.drainedS (h:RM w B Bd tb gb g S D t0 t1 wr) (hg:g.ok) (h3:3≤g.inodes) {m:Nat} (ht:Texts2 g S t0 t1 m) (hm:m≤12) (hl:S.disk.last≤1024*100) :
 Calls Tryz.prog 26 #[pt Bd,pt B] wr fun e w'=>e = .returned (.bool true)∧∃S',RM w B Bd tb gb g S' D t0 t1 w'∧∃fs,SoundP g S' fs:=by
 refine(h.drained ht.fl (texts_last ht hm).2 (by omega)).mono ?_
 rintro e w' ⟨rfl,S',h2,h4,h5,h6⟩
 exact⟨rfl,S',h2,texts_sound_end hg h3 ht h4 h5⟩
end
section
set_option maxHeartbeats 8000000
set_option maxRecDepth 20000 in
theorem soundLaw_any (w:World) (two:Bool) (v:Value) (l:List Do4) (ha:DosAt w v l):Calls Tryz.prog 5 #[.bool two,v] w fun e w'=>e = .returned (.bool true)∧Below w.heap.size w w':=by
 obtain⟨ad,len,cap,rfl,HN,hn2,HFa⟩:=RowAt.facts ha.1
 have HIn:=zh ha.2
 have hgr:=fun W:World=>ground_any W two
 obtain⟨g,hg0⟩:=zx (ground16 two)
 have hg:g.ok:=by rw[←hg0]; cases two <;> decide
 have h3:3≤g.inodes:=by rw[←hg0]; cases two <;> decide
 obtain⟨n,hn,hn1⟩:∃n:Nat,g.groups=(n:Int)∧n≤1000:=by
  rw[←hg0]
  cases two
  ·exact⟨1,rfl,by omega⟩
  ·exact⟨2,rfl,by omega⟩
 obtain⟨ni,hni,hni1⟩:∃n:Nat,g.groups*g.inodes=(n:Int)∧n≤10000:=by
  rw[←hg0]
  cases two
  ·exact⟨4,rfl,by omega⟩
  ·exact⟨6,rfl,by omega⟩
 rw[hg0] at hgr
 have hld:=fun W:World=>laid16z_any W hg h3
 have hwk:=fun W:World=>works16_any W
 have hst:=texts_start hg h3
 obtain⟨S0,hS0⟩:=zx (plainS (laid16L g) 0 0)
 have hdl:S0.disk.last=0:=by rw[←hS0]; rfl
 rw[hS0] at hld hst
 have heq:=eql_disk_nil
 have heq2:=eql_soft_nil
 have hdone:=fun(wr:World) (B Bd tb gb:Nat) (S:Sp.Side) (D:Nat→Prop) (t0 t1:List UInt8) (m:Nat) (h:RM w B Bd tb gb g S D t0 t1 wr) (ht:Texts2 g S t0 t1 m) (hm:m<12) (k:Bool) (off:Int) (x:ByteArray) (p:Value)=>h.done hg h3 ht hm k off x p n hn hn1
 have hflush:=fun(wr:World) (B Bd tb gb:Nat) (S:Sp.Side) (D:Nat→Prop) (t0 t1:List UInt8) (m:Nat) (h:RM w B Bd tb gb g S D t0 t1 wr) (ht:Texts2 g S t0 t1 m) (hl:S.disk.last≤1024*100) (v:Value) (P:List Int) (hp:Ints w v P)=>h.flushT ht hl v P hp
 have hsnd:=fun(wr:World) (B Bd tb gb:Nat) (S:Sp.Side) (D:Nat→Prop) (t0 t1:List UInt8) (h:RM w B Bd tb gb g S D t0 t1 wr) (fs:Int→File) (hp:SoundP g S fs)=>h.sound hg hp hni hni1
 have hso:=fun(S:Sp.Side) (t0 t1:List UInt8) (m:Nat) (h:Texts2 g S t0 t1 m)=>texts_sound hg h3 h
 have hdrain:=fun(wr:World) (B Bd tb gb:Nat) (S:Sp.Side) (D:Nat→Prop) (t0 t1:List UInt8) (m:Nat) (h:RM w B Bd tb gb g S D t0 t1 wr) (ht:Texts2 g S t0 t1 m) (hm:m≤12) (hl:S.disk.last≤1024*100)=>h.drainedS hg h3 ht hm hl
 obtain⟨ga,gb',gc⟩:=g
 unfold gV pt doV at *
 dsimp only at *
 have HGR:=zh hgr
 have HLD:=zh hld
 have HWK:=zh hwk
 have HST:=zh hst
 have HDL:=zh hdl
 have HDONE:=zh hdone
 have HFLUSH:=zh hflush
 have HSND:=zh hsnd
 have HSO:=zh hso
 have HDRAIN:=zh hdrain
 clear hgr hld hwk hst hdl hdone hflush hsnd hso hdrain
 clear ha hS0 hg0 hg h3 hn hn1 hni hni1
 go_enter Tryz.func5,Tryz.ntmps5
 go_wp2_with fail
 refine(HGR.out _).mono ?_
 rintro e w1 ⟨rfl,hb1⟩
 obtain⟨W2,hW2⟩:=zx (w1.alloc (.cells #[.int .i64 ga,.int .i64 gb',.int .i64 gc] 23))
 have HB2:Hid (Below w.heap.size w W2):=blN hb1 (by rw[←hW2]; exact bl2 _)
 have HG2:Hid (W2.heap[w1.heap.size]? = some (.cells #[.int .i64 ga,.int .i64 gb',.int .i64 gc] 23 (0,0))):=by rw[←hW2]; exact heapNew w1 _
 have HZ2:Hid (w.heap.size≤w1.heap.size∧w1.heap.size<W2.heap.size):=⟨hb1.size,by rw[←hW2]; show _<_; simp⟩
 clear hb1
 have z0:=zc 0 HG2.out
 have z1:=zc 1 HG2.out
 have z2:=zc 2 HG2.out
 go_wp2_with fail
 clear z0 z1 z2 hW2
 refine(HLD.out _).mono ?_
 rintro e w3 ⟨B,Bd,D,rfl,hs3,hb3,hD3⟩
 have HS3:=zh hs3
 have HB3:=zh hb3
 have HD3:=zh hD3
 clear hs3 hb3 hD3
 go_wp2_with fail
 refine(HWK.out _).mono ?_
 rintro e w4 ⟨rfl,hb4⟩
 obtain⟨W5,hW5⟩:=zx (w4.alloc (.cells #[.slice none 0 0,.slice none 0 0] 56))
 have HRM:Hid (RM w B Bd w4.heap.size w1.heap.size ⟨ga,gb',gc⟩ S0 D [] [] W5):=by
  have hz:=HZ2.out
  have h3:=HB3.out.size
  have h4:=hb4.size
  have hb5:Below w4.heap.size w4 W5:=by rw[←hW5]; exact bl2 _
  have hd:=HD3.out
  have hb35:Below w3.heap.size w3 W5:=blN hb4 hb5
  refine⟨⟨HS3.out.below hb35,fun j hj=>?_,fun j hj=>?_,by omega,fun hh=>?_,_,_,by rw[←hW5]; exact heapNew w4 _,Or.inl ⟨rfl,rfl⟩,Or.inl ⟨rfl,rfl⟩⟩,heapOld hb35 (heapOld HB3.out HG2.out),fun hh=>?_,blN HB2.out (blN HB3.out hb35)⟩
  ·have:=(hd j hj).2; have:=hb35.size; omega
  ·have:=(hd j hj).1; omega
  ·have:=(hd _ hh).2; omega
  ·have:=(hd _ hh).1; omega
 clear hb4 HS3 HB3 HD3 HB2 HG2 HZ2 HGR HLD HWK
 obtain⟨tb,htb⟩:=zx (w4.heap.size)
 obtain⟨gb,hgb⟩:=zx (w1.heap.size)
 rw[htb,hgb] at HRM
 go_wp2
 clear htb hgb hW5
 go_loopw [9] (fun q wr=>∃(k:Nat) (S:Sp.Side) (D:Nat→Prop) (t0 t1:List UInt8),k≤len∧k≤12∧q = .int .i64 (k:Int)∧Hid (RM w B Bd tb gb ⟨ga,gb',gc⟩ S D t0 t1 wr)∧Hid (Texts2 ⟨ga,gb',gc⟩ S t0 t1 k∧S.disk.last≤6144*k)) (fun q _=>12-(intOf q).toNat)
 case atStart=>exact⟨0,S0,D,[],[],Nat.zero_le _,Nat.zero_le _,rfl,HRM,⟨HST.out,by rw[HDL.out]; exact Nat.zero_le _⟩⟩
 case round=>
  clear HRM HST HDL
  obtain⟨k,S,D,t0,t1,hk,hk12,rfl,HM,HT⟩:=hrel
  by_cases hlt:k<len∧k<12
  ·obtain⟨hl1,hl2⟩:=hlt
   obtain⟨b,o,x,rfl,hb,hx,hc⟩:=HFa.out k hl1
   obtain⟨-,-,P,hP⟩:=HIn.out x (List.mem_of_getElem? hx)
   obtain⟨xk,xo,xd,xp⟩:=x
   dsimp only at hP
   obtain⟨pad,pn,pcap,rfl,HPN,hpn2,-⟩:=RowAt.facts hP
   have hall:∀W S D t0 t1,RM w B Bd tb gb ⟨ga,gb',gc⟩ S D t0 t1 W→(W.cell? ⟨gb,0,none⟩=some (.int .i64 ga)∧W.cell? ⟨gb,1,none⟩=some (.int .i64 gb')∧W.cell? ⟨gb,2,none⟩=some (.int .i64 gc)∧W.cell? ⟨b,o+k*4,none⟩=some (.bool xk)∧W.cell? ⟨b,o+k*4+1,none⟩=some (.int .i64 xo)∧W.cell? ⟨b,o+k*4+2,none⟩=some (.string xd)∧W.cell? ⟨b,o+k*4+3,none⟩=some (.slice pad pn pcap)):=fun W S D t0 t1 hM=>
    ⟨zc 0 hM.box,zc 1 hM.box,zc 2 hM.box,(hM.bel.cell (p:=⟨b,o+k*4,none⟩) hb).trans (hc 0 _ rfl),(hM.bel.cell (p:=⟨b,o+k*4+1,none⟩) hb).trans (hc 1 _ rfl),(hM.bel.cell (p:=⟨b,o+k*4+2,none⟩) hb).trans (hc 2 _ rfl),(hM.bel.cell (p:=⟨b,o+k*4+3,none⟩) hb).trans (hc 3 _ rfl)⟩
   have HAll:=zh hall
   have hMd:=HM.out.below (blD (Below.refl _ _):Below wr.heap.size wr wr.drew)
   have HDn:=zh (HDONE.out wr.drew B Bd tb gb S D t0 t1 k hMd HT.out.1 hl2 xk xo xd (.slice pad pn pcap))
   have hSd:=HAll.out _ _ _ _ _ hMd
   have HP:=zh hP
   clear hall hx hc hb hMd hP HDONE
   go_upto_region 9 with fail
   refine wp_region_last (fun W=>W.cell? ⟨gb,0,none⟩=some (.int .i64 ga)∧W.cell? ⟨gb,1,none⟩=some (.int .i64 gb')∧W.cell? ⟨gb,2,none⟩=some (.int .i64 gc)∧W.cell? ⟨b,o+k*4,none⟩=some (.bool xk)∧W.cell? ⟨b,o+k*4+1,none⟩=some (.int .i64 xo)∧W.cell? ⟨b,o+k*4+2,none⟩=some (.string xd)∧W.cell? ⟨b,o+k*4+3,none⟩=some (.slice pad pn pcap)) 6 (by kernel_rfl) (by first | trivial | assumption) (fun hHeld hX0=>?_)
   refine tkU 0 ?_; clear hX0; intro hX0; simp only[Act.put,ps0]
   refine tkU 1 ?_; clear hX0; intro hX0; simp only[Act.put,ps0]
   refine tkU 2 ?_; clear hX0; intro hX0; simp only[Act.put,ps0]
   refine tkU 3 ?_; clear hX0; intro hX0; simp only[Act.put,ps0]
   refine tkU 4 ?_; clear hX0; intro hX0; simp only[Act.put,ps0]
   refine tkU 5 ?_; clear hX0; intro hX0; simp only[Act.put,ps0]
   refine AnyU.each (is:=[6]) (by kernel_rfl) (by simp) (EachU.cons hX0 (by kernel_rfl) rfl (fun K hK=>?_) EachU.nil)
   try simp only[gg0]
   go_simp
   refine HDn.out.mono ?_
   rintro e w6 ⟨rfl,S6,D6,a0,a1,hM6,hT6,hd6⟩
   have hl6:S6.disk.last≤6144*k:=by rw[hd6]; exact HT.out.2
   try simp only
   refine hK.out _ _ (fun h=>absurd h (by decide)) (fun _ hX1=>?_)
   clear hK K hX0; have hX0:=hX1; clear hX1
   try simp only[Act.put,ps0]
   refine pkU 7 ?_; clear hX0; intro hX0; simp only[Act.put,ps0]
   refine AnyU.done (by kernel_rfl) ?_ _
   have HM6:=zh hM6
   have HT6:Hid (Texts2 ⟨ga,gb',gc⟩ S6 a0 a1 (k+1)∧S6.disk.last≤6144*k):=⟨hT6,hl6⟩
   clear hM6 hT6 hd6 hl6 hSd hHeld hX0 HDn HDRAIN
   go_wp2
   go_loopw [10] (fun q wr=>∃(j:Nat) (S7:Sp.Side),j≤6∧j≤pn+1∧q = .int .i64 (j:Int)∧Hid (RM w B Bd tb gb ⟨ga,gb',gc⟩ S7 D6 a0 a1 wr)∧Hid (Texts2 ⟨ga,gb',gc⟩ S7 a0 a1 (k+1)∧S7.disk.last≤6144*k+1024*j)) (fun q _=>6-(intOf q).toNat)
   case atStart=>exact⟨0,S6,Nat.zero_le _,Nat.zero_le _,rfl,HM6,HT6.out.1,by have:=HT6.out.2; omega⟩
   case round=>
    clear HM6 HT6
    obtain⟨j,S7,hj6,hjp,rfl,HMj,HTj⟩:=hrel
    have z:=HAll.out _ _ _ _ _ HMj.out
    obtain⟨z0,z1,z2,z3,z4,z5,z6⟩:=z
    by_cases hin:j≤pn∧j<6
    ·obtain⟨hj1,hj2⟩:=hin
     have hMd:=HMj.out.below (blD (Below.refl _ _):Below wr.heap.size wr wr.drew)
     have hSd:=HAll.out _ _ _ _ _ hMd
     have HMd:=zh hMd
     have hdr:Ints w (.slice (if pcap=j then pad else Option.map (fun x=>x.add j) pad) (pn-j) (pcap-j)) (P.drop j):=by simpa only[sliced,Nat.mul_one] using ints_drop HP.out hj1
     have HDr:=zh hdr
     have hmin:min (j:Int) (pn:Int)=(j:Int):=by omega
     have hjn:(j:Int)≤(pn:Int):=by omega
     clear hMd hdr
     go_upto_region 14 with fail
     clear z0 z1 z2 z3 z4 z5 z6
     refine wp_region_last (fun W=>W.cell? ⟨gb,0,none⟩=some (.int .i64 ga)∧W.cell? ⟨gb,1,none⟩=some (.int .i64 gb')∧W.cell? ⟨gb,2,none⟩=some (.int .i64 gc)∧W.cell? ⟨b,o+k*4,none⟩=some (.bool xk)∧W.cell? ⟨b,o+k*4+1,none⟩=some (.int .i64 xo)∧W.cell? ⟨b,o+k*4+2,none⟩=some (.string xd)∧W.cell? ⟨b,o+k*4+3,none⟩=some (.slice pad pn pcap)) 21 (by kernel_rfl) (by first | trivial | assumption) (fun hHeld hX0=>?_)
     refine tkU 0 ?_; clear hX0; intro hX0; simp only[Act.put,ps0]
     refine tkU 1 ?_; clear hX0; intro hX0; simp only[Act.put,ps0]
     refine tkU 2 ?_; clear hX0; intro hX0; simp only[Act.put,ps0]
     refine tkU 3 ?_; clear hX0; intro hX0; simp only[Act.put,ps0]
     refine tkU 4 ?_; clear hX0; intro hX0; simp only[Act.put,ps0]
     refine tkU 5 ?_; clear hX0; intro hX0; simp only[Act.put,ps0]
     refine tkU 6 ?_; clear hX0; intro hX0; simp only[Act.put,ps0]
     refine tkU 7 ?_; clear hX0; intro hX0; simp only[Act.put,ps0]
     refine tkU 8 ?_; clear hX0; intro hX0; simp only[Act.put,ps0]
     refine tkU 9 ?_; clear hX0; intro hX0; simp only[Act.put,ps0]
     refine tkU 10 ?_; clear hX0; intro hX0; simp only[Act.put,ps0]
     refine tkU 11 ?_; clear hX0; intro hX0; simp only[Act.put,ps0]
     refine tkU 12 ?_; clear hX0; intro hX0; simp only[Act.put,ps0]
     refine tkU 13 ?_; clear hX0; intro hX0; simp only[Act.put,ps0]
     refine tkU 14 ?_; clear hX0; intro hX0; simp only[Act.put,ps0]
     refine tkU 15 ?_; clear hX0; intro hX0; simp only[Act.put,ps0]
     refine AnyU.each (is:=[16]) (by kernel_rfl) (by simp) (EachU.cons hX0 (by kernel_rfl) rfl (fun K hK=>?_) EachU.nil)
     try simp only[gg0]
     go_simp
     refine(HFLUSH.out wr.drew B Bd tb gb S7 D6 a0 a1 (k+1) HMd.out HTj.out.1 (by have:=HTj.out.2; omega) _ (P.drop j) HDr.out).mono ?_
     rintro e w8 ⟨rfl,S8,hM8,hT8,hd8⟩
     have HT8:Hid (Texts2 ⟨ga,gb',gc⟩ S8 a0 a1 (k+1)∧S8.disk.last≤6144*k+1024*(j+1)):=⟨hT8,by have:=HTj.out.2; omega⟩
     obtain⟨fs,hfs⟩:=HSO.out S8 a0 a1 (k+1) hT8
     have hS8:=HAll.out _ _ _ _ _ hM8
     have HSn:=zh (HSND.out w8 B Bd tb gb S8 D6 a0 a1 hM8 fs hfs)
     have HM8:=zh hM8
     clear hM8 hT8 hd8 hfs HDr hmin hjn
     try simp only
     refine hK.out _ _ (fun _=>?hkS) (fun hHeld2 hX1=>?_)
     case hkS=>
      exact hS8
     clear hHeld; have hHeld:=hHeld2 (by decide)
     clear hK K hHeld2 hX0; have hX0:=hX1; clear hX1
     try simp only[Act.put,ps0]
     refine tkU 17 ?_; clear hX0; intro hX0; simp only[Act.put,ps0]
     refine tkU 18 ?_; clear hX0; intro hX0; simp only[Act.put,ps0]
     refine tkU 19 ?_; clear hX0; intro hX0; simp only[Act.put,ps0]
     refine tkU 20 ?_; clear hX0; intro hX0; simp only[Act.put,ps0]
     refine AnyU.each (is:=[21]) (by kernel_rfl) (by simp) (EachU.cons hX0 (by kernel_rfl) rfl (fun K hK=>?_) EachU.nil)
     try simp only[gg0]
     go_simp
     refine HSn.out.mono ?_
     rintro e w9 ⟨rfl,hb9⟩
     try simp only
     refine hK.out _ _ (fun h=>absurd h (by decide)) (fun _ hX1=>?_)
     clear hK K hX0; have hX0:=hX1; clear hX1
     try simp only[Act.put,ps0]
     refine pkU 22 ?_; clear hX0; intro hX0; simp only[Act.put,ps0]
     refine pkU 23 ?_; clear hX0; intro hX0; simp only[Act.put,ps0]
     refine AnyU.done (by kernel_rfl) ?_ _
     have HM9:=zh (HM8.out.below hb9)
     clear hb9 HM8 hS8 hSd hHeld hX0 HSn HMj HTj
     go_wp2
     go_roundw
     case rel=>exact⟨j+1,S8,by omega,by omega,by go_num,HM9,HT8⟩
     case measure=>simp[intOf]; omega
    ·have hno:(¬j≤pn)∨(j≤pn∧¬j<6):=by omega
     have HT9:Hid (Texts2 ⟨ga,gb',gc⟩ S7 a0 a1 (k+1)∧S7.disk.last≤6144*(k+1)):=⟨HTj.out.1,by have:=HTj.out.2; omega⟩
     rcases hno with h1 | ⟨h1,h2⟩
     ·go_wp2
      go_roundw
      case rel=>exact⟨k+1,S7,D6,a0,a1,by omega,by omega,by go_num,HMj,HT9⟩
      case measure=>simp[intOf]; omega
     ·go_wp2
      go_roundw
      case rel=>exact⟨k+1,S7,D6,a0,a1,by omega,by omega,by go_num,HMj,HT9⟩
      case measure=>simp[intOf]; omega
  ·have hlt2:(¬k<len)∨(k<len∧¬k<12):=by omega
   have HDr:=zh (HDRAIN.out wr B Bd tb gb S D t0 t1 k HM.out HT.out.1 hk12 (by have:=HT.out.2; omega))
   clear HDONE HFLUSH HDRAIN
   rcases hlt2 with h1 | ⟨h1,h2⟩
   ·skip
    go_wp2_with fail
    refine HDr.out.mono ?_
    rintro e w9 ⟨rfl,S9,hM9,fs,hfs⟩
    have HSn:=zh (HSND.out w9 B Bd tb gb S9 D t0 t1 hM9 fs hfs)
    have z0:=zc 0 hM9.box
    have z1:=zc 1 hM9.box
    have z2:=zc 2 hM9.box
    have HB9:Hid (Below w.heap.size w w9):=hM9.bel
    clear hM9 hfs HDr
    go_wp2_with fail
    clear z0 z1 z2
    refine HSn.out.mono ?_
    rintro e w10 ⟨rfl,hb10⟩
    have HF:Hid (Below w.heap.size w w10):=blN HB9.out hb10
    clear hb10
    go_wp2
    go_ret
    exact⟨rfl,HF.out⟩
   ·skip
    go_wp2_with fail
    refine HDr.out.mono ?_
    rintro e w9 ⟨rfl,S9,hM9,fs,hfs⟩
    have HSn:=zh (HSND.out w9 B Bd tb gb S9 D t0 t1 hM9 fs hfs)
    have z0:=zc 0 hM9.box
    have z1:=zc 1 hM9.box
    have z2:=zc 2 hM9.box
    have HB9:Hid (Below w.heap.size w w9):=hM9.bel
    clear hM9 hfs HDr
    go_wp2_with fail
    clear z0 z1 z2
    refine HSn.out.mono ?_
    rintro e w10 ⟨rfl,hb10⟩
    have HF:Hid (Below w.heap.size w w10):=blN HB9.out hb10
    clear hb10
    go_wp2
    go_ret
    exact⟨rfl,HF.out⟩
end
