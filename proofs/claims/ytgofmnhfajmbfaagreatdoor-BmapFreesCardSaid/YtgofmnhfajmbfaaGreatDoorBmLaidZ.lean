/-
 law16.laid once more: a side that has its disk to itself.
-/
import Derived.Test.YtgofmnhfajmbfaaGreatDoorBmF
namespace Go.Proofs.YtgofmnhfajmbfaaGreatDoor
open Go Go.RowKit Txt Sp
section
set_option maxHeartbeats 4000000
set_option maxRecDepth 20000 in
theorem laid16z_any (w:World) {g:Sp.Geom} (hg:g.ok) (h3:3≤g.inodes):Calls Tryz.prog 21 #[gV g] w fun e w'=>
 ∃B Bd D,e = .returned (.tuple #[pt Bd,pt B])∧SideAt w' 0 B Bd (q24z (q29z g) 0 0) D∧Below w.heap.size w w'∧∀j,D j→w.heap.size≤j∧j<w'.heap.size:=by
 have hsz:=fun W:World=>gsize_any W g
 have hz:=Geom.size_bd hg
 obtain⟨N,hN⟩:∃N:Nat,g.size=(N:Int):=⟨g.size.toNat,by omega⟩
 rw[hN] at hsz hz
 have hnew:=fun W:World=>diskNew_any W N (by omega) (by omega)
 have hlay:=fun(W:World) (base Bd:Nat) (D:Nat→Prop) (h:DiskAt W base Bd (q70z N) D) (hD:∀j,D j→j<W.heap.size)=>alay_any h hD hg (by rw[hN]; simp[q70z])
 have hmap:=fun W:World=>gmap_any W g 0 false
 rw[mapAt_in hg ⟨by omega,by have:=hg.1; omega⟩ false,show q6z g 0 false=g.first 0 by unfold q6z; simp] at hmap
 have hof:=fun(W:World) (v:Value) (hv:Ints W v [0,1,2])=>of16_any W (n:=g.inodes) ⟨h3,by have:=hg; unfold Sp.Geom.ok at this; omega⟩ hv
 have hlm:=fun(W:World) (base Bd:Nat) (D:Nat→Prop) (h:DiskAt W base Bd { q70z N with l:=q25z g } D)=>q125z h (g.first 0) map3
 rw[(dk16_first hg N).1,(dk16_first hg N).2] at hlm
 have hln:=fun(W:World) (base Bd:Nat) (D:Nat→Prop) (n:Nat) (hn:n=2∨n=3) (h:DiskAt W base Bd (dk16 g n) D)=>(show Calls _ _ _ _ _ from(by
  have:=q125z h (q2z g n) node1
  rw[(dk16_step hg h3 hn).1,(dk16_step hg h3 hn).2] at this
  exact this):Calls Tryz.prog 55 #[pt Bd,.int .i64 (q2z g n),.string node1] W fun e w'=>e = .returned (.int .i64 0)∧DiskAt w' base Bd (dk16 g (n+1)) D∧∃K,(∀j,K j→D j)∧q67z 9 W K∧Turn K W w')
 have hin:=fun(W:World) (n:Nat) (hn:n=2∨n=3)=>(show Calls _ _ _ _ _ from(by
  have h:=inodeAt_in hg (i:=(n:Int)) (by omega) (by have:=in16 hg h3; omega)
  have:=q144z W g n
  rw[h.1,h.2] at this
  exact this):Calls Tryz.prog 42 #[gV g,.int .i64 n] W fun e w'=>e = .returned (.tuple #[.int .i64 (q2z g n),.int .i64 (q28z g n).2.1,.int .i64 (q28z g n).2.2.1,.int .i64 0])∧Below W.heap.size W w')
 have hen:=fun W:World=>q126z W g 1 1 0 0 1 0 0 0 0 0 0 0 0 0
 unfold IEnc at hen
 rw[(node16_check hg).1,if_pos rfl,(node16_check hg).2] at hen
 have hsoft:=fun(W:World) (base Bd:Nat) (D:Nat→Prop) (h:DiskAt W base Bd (dk16 g 4) D) (hb:base≤W.heap.size) (hdl:∀j,D j→j<W.heap.size)=>softNew_any h.lower (Nat.zero_le _) hdl 0 0 ⟨by decide,by decide⟩ ⟨by decide,by decide⟩
 have heq:=q91z
 have hfr:(⟨dk16 g 4,⟨[],0⟩,0,0,[]⟩:Sp.Side)=q24z (q29z g) 0 0:=rfl
 rw[hfr] at hsoft
 obtain⟨S,hS⟩:∃S,q24z (q29z g) 0 0=S:=⟨_,rfl⟩
 rw[hS] at hsoft ⊢
 obtain⟨dN,hdN⟩:∃d,q70z N=d:=⟨_,rfl⟩
 rw[hdN] at hnew hlay hlm
 obtain⟨dF,hdF⟩:∃d:Sp.Disk,{ dN with l:=q25z g } = d:=⟨_,rfl⟩
 rw[hdF] at hlay hlm
 obtain⟨dk,hdk⟩:∃f,dk16 g=f:=⟨_,rfl⟩
 rw[hdk] at hlm hln hsoft
 obtain⟨at_,hat⟩:∃f:Nat→Int,(fun n:Nat=>q2z g n)=f:=⟨_,rfl⟩
 have hat':∀n:Nat,q2z g n=at_ n:=fun n=>by rw[←hat]
 simp only[hat'] at hln hin
 obtain⟨f0,hf0⟩:∃x,g.first 0=x:=⟨_,rfl⟩
 rw[hf0] at hmap hlm
 obtain⟨n1,hn1⟩:∃x,node1=x:=⟨_,rfl⟩
 rw[hn1] at hln hen
 obtain⟨m3,hm3⟩:∃x,map3=x:=⟨_,rfl⟩
 rw[hm3] at hof hlm
 obtain⟨u1,hu1⟩:∃f:Nat→Int,(fun n:Nat=>(q28z g n).2.1)=f:=⟨_,rfl⟩
 obtain⟨u2,hu2⟩:∃f:Nat→Int,(fun n:Nat=>(q28z g n).2.2.1)=f:=⟨_,rfl⟩
 have hu1':∀n:Nat,(q28z g n).2.1=u1 n:=fun n=>by rw[←hu1]
 have hu2':∀n:Nat,(q28z g n).2.2.1=u2 n:=fun n=>by rw[←hu2]
 simp only[hu1',hu2'] at hin
 obtain⟨ga,gb,gc⟩:=g
 unfold gV at hsz hlay hmap hin hen ⊢
 unfold pt at *
 obtain⟨W0,hW0⟩:∃W,w.alloc (.cells #[.int .i64 ga,.int .i64 gb,.int .i64 gc] 23)=W:=⟨_,rfl⟩
 have hk:=q30z hW0
 have HB0:=Lib.hid hk.1
 have HK:=Lib.hid hk.2
 clear hk
 have HSZ:=Lib.hid hsz
 have HNEW:=Lib.hid hnew
 have HLAY:=Lib.hid hlay
 have HMAP:=Lib.hid hmap
 have HOF:=Lib.hid hof
 have HLM:=Lib.hid hlm
 have HLN:=Lib.hid hln
 have HIN:=Lib.hid hin
 have HEN:=Lib.hid hen
 have HSOFT:=Lib.hid hsoft
 clear hsz hnew hlay hmap hof hlm hln hin hen hsoft
 clear hg hz hN hfr hS hdN hdF hdk hat hat' hf0 hn1 hm3 hu1 hu2 hu1' hu2' h3
 obtain⟨z0,z1,z2⟩:=HK.out W0 (Below.refl _ _)
 go_enter Tryz.func21,Tryz.ntmps21
 go_wp2_with fail
 clear z0 z1 z2
 refine(HSZ.out _).mono ?_
 rintro e w1 ⟨rfl,hb1⟩
 have HB1:=Lib.hid hb1
 clear hb1
 go_wp2_with fail
 refine(HNEW.out _).mono ?_
 rintro e w2 ⟨Bd,D,rfl,hd2,hb2,hD2⟩
 have HB2:=Lib.hid (blN HB1.out hb2)
 have HX2:=Lib.hid hb2.size
 have HDB:=Lib.hid hD2
 have hl2:=HLAY.out w2 _ Bd D hd2 (fun j hj=>(hD2 j hj).2)
 have HL2:=Lib.hid hl2
 clear hl2
 clear hb2 hd2 hD2
 obtain⟨z0,z1,z2⟩:=HK.out w2 HB2.out
 go_wp2_with fail
 clear z0 z1 z2
 refine HL2.out.mono ?_
 rintro e w3 ⟨rfl,hd3,K3,hK3,hT3⟩
 have HD3:=Lib.hid hd3
 have HT3:Hid (∃K,(∀j,K j→D j)∧Turn K w2 w3):=⟨K3,hK3,hT3⟩
 clear hd3 hK3 hT3
 obtain⟨z0,z1,z2⟩:=HK.out w3 (by
  obtain⟨K,hK,hT⟩:=HT3.out
  exact HB2.out.trans (hT.below (fun j hj=>by have:=(HDB.out j (hK j hj)).1; have:=HB1.out.size; omega) (by have:=HX2.out; have:=HB1.out.size; omega)))
 go_wp2_with fail
 clear z0 z1 z2
 refine(HMAP.out _).mono ?_
 rintro e w4 ⟨rfl,hb4⟩
 have HB4:=Lib.hid hb4
 clear hb4
 obtain⟨W5,hW5⟩:∃W,w4.alloc (.cells #[.int .i64 0,.int .i64 1,.int .i64 2] 3)=W:=⟨_,rfl⟩
 have hb5:Below w4.heap.size w4 W5:=by rw[←hW5]; exact bl2 _
 have hr5:Ints W5 (.slice (some ⟨w4.heap.size,0,none⟩) 3 3) [0,1,2]:=ints_three (by rw[←hW5]; exact q3z w4 _)
 have HB5:=Lib.hid (blN HB4.out hb5)
 have ho5:=HOF.out W5 _ hr5
 have HO5:=Lib.hid ho5
 clear ho5
 clear hb5 hr5
 have HB3:Hid (Below w.heap.size w w3):=by
  obtain⟨K,hK,hT⟩:=HT3.out
  exact(blN HB0.out HB2.out).trans (hT.below (fun j hj=>by have:=(HDB.out j (hK j hj)).1; have:=HB1.out.size; have:=HB0.out.size; omega) (by have:=HX2.out; have:=HB1.out.size; have:=HB0.out.size; omega))
 have HK3:Hid (Below W0.heap.size W0 w3):=by
  obtain⟨K,hK,hT⟩:=HT3.out
  exact HB2.out.trans (hT.below (fun j hj=>by have:=(HDB.out j (hK j hj)).1; have:=HB1.out.size; omega) (by have:=HX2.out; have:=HB1.out.size; omega))
 obtain⟨z0,z1,z2⟩:=HK.out w4 (blN HK3.out HB4.out)
 go_wp2_with fail
 clear z0 z1 z2 hW5
 refine HO5.out.mono ?_
 rintro e w6 ⟨rfl,hb6⟩
 have HB6:=Lib.hid (blN HB5.out hb6)
 clear hb6
 have hl6:=HLM.out w6 _ Bd D (HD3.out.below HB6.out)
 have HL6:=Lib.hid hl6
 clear hl6
 go_wp2_with fail
 refine HL6.out.mono ?_
 rintro e w7 ⟨rfl,hd7,K7,hK7,_,hT7⟩
 have HD7:=Lib.hid hd7
 have HT7:Hid (∃K,(∀j,K j→D j)∧Turn K w6 w7):=⟨K7,hK7,hT7⟩
 clear hd7 hK7 hT7
 have H7:Hid (Below w.heap.size w w7∧Below W0.heap.size W0 w7∧w2.heap.size≤w7.heap.size):=by
  have h1:=HB1.out.size
  have h0:=HB0.out.size
  have h2:=HX2.out
  have h3:w2.heap.size≤w3.heap.size:=by obtain⟨K,hK,hT⟩:=HT3.out; exact hT.size
  have h6:=HB6.out.size
  obtain⟨K,hK,hT⟩:=HT7.out
  have h7:=hT.size
  exact⟨(blN HB3.out HB6.out).trans (hT.below (fun j hj=>by have:=(HDB.out j (hK j hj)).1; omega) (by omega)),(blN HK3.out HB6.out).trans (hT.below (fun j hj=>by have:=(HDB.out j (hK j hj)).1; omega) (by omega)),by omega⟩
 go_wp2
 go_loopw [9] (fun i wr=>∃n:Nat,(n=2∨n=3∨n=4)∧i = .int .i64 (n:Int)∧Hid (DiskAt wr w1.heap.size Bd (dk n) D)∧Hid (Below w.heap.size w wr∧Below W0.heap.size W0 wr∧w2.heap.size≤wr.heap.size)) (fun i _=>4-(intOf i).toNat)
 case atStart=>exact⟨2,Or.inl rfl,rfl,HD7.out,H7.out⟩
 case round=>
  obtain⟨n,hn,rfl,HDk,HTk⟩:=hrel
  by_cases hlt:n<4
  ·have hn':n=2∨n=3:=by omega
   have hle:(n:Int)≤3:=by omega
   have hi:=HIN.out wr n hn'
   have HI:=Lib.hid hi
   clear hi
   obtain⟨z0,z1,z2⟩:=HK.out wr HTk.out.2.1
   go_wp2_with fail
   clear z0 z1 z2
   refine HI.out.mono ?_
   rintro e w8 ⟨rfl,hb8⟩
   have HB8:=Lib.hid hb8
   clear hb8
   obtain⟨z0,z1,z2⟩:=HK.out w8 (blN HTk.out.2.1 HB8.out)
   go_wp2_with fail
   clear z0 z1 z2
   refine(HEN.out _).mono ?_
   rintro e w9 ⟨rfl,hb9⟩
   have HB9:=Lib.hid (blN HB8.out hb9)
   clear hb9
   have hl9:=HLN.out w9 _ Bd D n hn' (HDk.out.below HB9.out)
   have HL9:=Lib.hid hl9
   clear hl9
   go_wp2_with fail
   refine HL9.out.mono ?_
   rintro e w10 ⟨rfl,hd10,K,hK,_,hT⟩
   have HD10:=Lib.hid hd10
   have HT10:Hid (Below w.heap.size w w10∧Below W0.heap.size W0 w10∧w2.heap.size≤w10.heap.size):=by
    have h1:=HB1.out.size
    have h0:=HB0.out.size
    have h2:=HX2.out
    have h3:=HTk.out.2.2
    have h9:=HB9.out.size
    have h7:=hT.size
    exact⟨(blN HTk.out.1 HB9.out).trans (hT.below (fun j hj=>by have:=(HDB.out j (hK j hj)).1; omega) (by omega)),(blN HTk.out.2.1 HB9.out).trans (hT.below (fun j hj=>by have:=(HDB.out j (hK j hj)).1; omega) (by omega)),by omega⟩
   clear hd10 hK hT
   go_wp2
   go_roundw
   case rel=>exact⟨n+1,by omega,by go_num,HD10,HT10⟩
   case measure=>simp[intOf]; omega
  ·obtain rfl:n=4:=by omega
   have hso:=HSOFT.out wr _ Bd D HDk.out (by have:=HX2.out; have:=HTk.out.2.2; omega) (fun j hj=>by have:=HDB.out j hj; have:=HTk.out.2.2; omega)
   have HSO:=Lib.hid hso
   clear hso
   go_wp2_with fail
   refine HSO.out.mono ?_
   rintro e w11 ⟨B,D',rfl,hsa,hb11,hD11⟩
   have HF:Hid (∃B' Bd' D,Ending.returned (.tuple #[.pointer (some ⟨Bd,0,none⟩),.pointer (some ⟨B,0,none⟩)])=Ending.returned (.tuple #[.pointer (some ⟨Bd',0,none⟩),.pointer (some ⟨B',0,none⟩)])∧SideAt w11 0 B' Bd' S D∧Below w.heap.size w w11∧∀j,D j→w.heap.size≤j∧j<w11.heap.size):=by
    have h3:=HTk.out.2.2
    have h4:=hb11.size
    have h0:=HB0.out.size
    have h1:=HB1.out.size
    have h2:=HX2.out
    refine⟨B,Bd,D',rfl,hsa,blN HTk.out.1 hb11,fun j hj=>?_⟩
    rcases hD11 j hj with h | h
    ·have:=HDB.out j h
     omega
    ·omega
   clear hsa hb11 hD11
   go_wp2
   go_ret2
   exact HF.out
end
end Go.Proofs.YtgofmnhfajmbfaaGreatDoor
