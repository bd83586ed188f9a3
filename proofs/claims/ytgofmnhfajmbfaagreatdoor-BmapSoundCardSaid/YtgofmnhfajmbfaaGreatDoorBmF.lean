import Derived.Test.YtgofmnhfajmbfaaGreatDoorFlushSteps
import Derived.Test.YtgofmnhfajmbfaaGreatDoorBmE
import Derived.Test.YtgofmnhfajmbfaaGreatDoorBmD
set_option maxRecDepth 20000
set_option maxHeartbeats 4000000
namespace Go.Proofs.YtgofmnhfajmbfaaGreatDoor
open Go Go.RowKit Txt Sp
def dk16 (g:Sp.Geom) (n:Nat):Sp.Disk:=⟨if 3<n then laid16L g else if 2<n then((q24z g).set (g.first 0).toNat map3).set (q1z g 2).toNat node1 else(q24z g).set (g.first 0).toNat map3,[],0⟩
theorem dk16_step {g:Sp.Geom} (hg:g.ok) (h3:3≤g.inodes) {n:Nat} (hn:n=2∨n=3):(dk16 g n).layC (q1z g n) node1=0∧(dk16 g n).lay (q1z g n) node1=dk16 g (n+1):=by
 have hgi:=in16 hg h3
 have hin:=q65z hg (i:=(n:Int)) (by omega) (by omega)
 have hl:(dk16 g n).l.length=g.size.toNat:=by
  rcases hn with rfl | rfl
  ·show((q24z g).set _ _).length=_
   rw[List.length_set,q61z]
  ·show(((q24z g).set _ _).set _ _).length=_
   rw[List.length_set,List.length_set,q61z]
 have hc:(dk16 g n).layC (q1z g n) node1=0:=by
  unfold Sp.Disk.layC
  rw[if_pos ⟨hin.1,by rw[hl]; omega⟩,if_pos node1_size]
 refine⟨hc,?_⟩
 unfold Sp.Disk.lay
 rw[if_pos hc]
 rcases hn with rfl | rfl <;> rfl
theorem dk16_first {g:Sp.Geom} (hg:g.ok) (N:Nat):({ q71z N with l:=q24z g }:Sp.Disk).layC (g.first 0) map3=0∧({ q71z N with l:=q24z g }:Sp.Disk).lay (g.first 0) map3=dk16 g 2:=by
 have hf:=Geom.first_bd hg (k:=0) (by omega) (by omega)
 obtain⟨m0,m1,_⟩:=map_in hg (k:=0) ⟨by omega,by have:=hg.1; omega⟩ false
 have e:q3z g 0 false=g.first 0:=by unfold q3z; simp
 rw[e] at m0 m1
 have hc:({ q71z N with l:=q24z g }:Sp.Disk).layC (g.first 0) map3=0:=by
  unfold Sp.Disk.layC
  rw[if_pos ⟨m0,by show g.first 0<((q24z g).length:Int); rw[q61z]; omega⟩,if_pos map3_size]
 refine⟨hc,?_⟩
 unfold Sp.Disk.lay
 rw[if_pos hc]
 rfl
theorem of16 {n:Int} (h:3≤n∧n≤64):ofC n [0,1,2]=0:=by
 unfold ofC
 rw[if_neg]
 rintro(h1 | h1 | ⟨p,hp,h1⟩)
 ·omega
 ·omega
 ·simp only[List.mem_cons,List.not_mem_nil,or_false] at hp
  omega
theorem map16:ofL (ofL1 [0,1,2])=map3:=by decide +kernel
theorem of16_any (W:World) {n:Int} (h:3≤n∧n≤64) {v:Value} (hv:Ints W v [0,1,2]):Calls Tryz.prog 41 #[.int .i64 n,v] W fun e w'=>e = .returned (.tuple #[.string map3,.int .i64 0])∧Below W.heap.size W w':=by
 refine(mof_any W n v _ hv).mono ?_
 rintro e w' ⟨rfl,hb⟩
 rw[if_pos (of16 h),of16 h,map16]
 exact⟨rfl,hb⟩
theorem ints_three {W:World} {b:Nat} {k l m:Int} (h:W.heap[b]? = some (.cells #[.int .i64 k,.int .i64 l,.int .i64 m] 3 (0,0))):Ints W (.slice (some ⟨b,0,none⟩) 3 3) [k,l,m]:=
 ints_block (o:=0) h (fun j n hj=>by
  match j,hj with
  | 0,hj=>have e:k=n:=by simpa using hj
          rw[←e]; rfl
  | 1,hj=>have e:l=n:=by simpa using hj
          rw[←e]; rfl
  | 2,hj=>have e:m=n:=by simpa using hj
          rw[←e]; rfl
  | q+3,hj=>simp at hj) (by unfold maxLen; simp) rfl
theorem node16_check {g:Sp.Geom} (hg:g.ok):(iN 1 1 0 0 1 0 0 0 0 0 0 0 0 0).check g=0∧q28z (iN 1 1 0 0 1 0 0 0 0 0 0 0 0 0)=node1:=by
 refine⟨?_,rfl⟩
 have hb:q22z g 0:=Or.inl rfl
 unfold Inode.check
 rw[if_pos hg,if_pos]
 unfold Inode.fits
 refine⟨by decide,by decide,by decide,by decide,by decide,by decide,Or.inr (Or.inl ⟨rfl,rfl,fun b h=>?_,hb⟩)⟩
 have e:b=0:=by simpa [iN] using h
 rw[e]
 exact hb
section
theorem laid16_any (w:World) {g:Sp.Geom} (hg:g.ok) (h3:3≤g.inodes):Calls Tryz.prog 21 #[gV g] w fun e w'=>
 ∃base B Bd D,e = .returned (.tuple #[pt Bd,pt B])∧SideAt w' base B Bd (plainS (laid16L g) 0 0) D∧Below w.heap.size w w'∧∀j,D j→w.heap.size≤j∧j<w'.heap.size:=by
 have hsz:=fun W:World=>gsize_any W g
 have hz:=Geom.size_bd hg
 obtain⟨N,hN⟩:∃N:Nat,g.size=(N:Int):=⟨g.size.toNat,by omega⟩
 rw[hN] at hsz hz
 have hnew:=fun W:World=>diskNew_any W N (by omega) (by omega)
 have hlay:=fun(W:World) (base Bd:Nat) (D:Nat→Prop) (h:DiskAt W base Bd (q71z N) D) (hD:∀j,D j→j<W.heap.size)=>alay_any h hD hg (by rw[hN]; simp[q71z])
 have hmap:=fun W:World=>q172z W g 0 false
 rw[mapAt_in hg ⟨by omega,by have:=hg.1; omega⟩ false,show q3z g 0 false=g.first 0 by unfold q3z; simp] at hmap
 have hof:=fun(W:World) (v:Value) (hv:Ints W v [0,1,2])=>of16_any W (n:=g.inodes) ⟨h3,by have:=hg; unfold Sp.Geom.ok at this; omega⟩ hv
 have hlm:=fun(W:World) (base Bd:Nat) (D:Nat→Prop) (h:DiskAt W base Bd { q71z N with l:=q24z g } D)=>q126z h (g.first 0) map3
 rw[(dk16_first hg N).1,(dk16_first hg N).2] at hlm
 have hln:=fun(W:World) (base Bd:Nat) (D:Nat→Prop) (n:Nat) (hn:n=2∨n=3) (h:DiskAt W base Bd (dk16 g n) D)=>(show Calls _ _ _ _ _ from(by
  have:=q126z h (q1z g n) node1
  rw[(dk16_step hg h3 hn).1,(dk16_step hg h3 hn).2] at this
  exact this):Calls Tryz.prog 55 #[pt Bd,.int .i64 (q1z g n),.string node1] W fun e w'=>e = .returned (.int .i64 0)∧DiskAt w' base Bd (dk16 g (n+1)) D∧∃K,(∀j,K j→D j)∧q69z 9 W K∧Turn K W w')
 have hin:=fun(W:World) (n:Nat) (hn:n=2∨n=3)=>(show Calls _ _ _ _ _ from(by
  have h:=inodeAt_in hg (i:=(n:Int)) (by omega) (by have:=in16 hg h3; omega)
  have:=ginode_any W g n
  rw[h.1,h.2] at this
  exact this):Calls Tryz.prog 42 #[gV g,.int .i64 n] W fun e w'=>e = .returned (.tuple #[.int .i64 (q1z g n),.int .i64 (q33z g n).2.1,.int .i64 (q33z g n).2.2.1,.int .i64 0])∧Below W.heap.size W w')
 have hen:=fun W:World=>iencode_any W g 1 1 0 0 1 0 0 0 0 0 0 0 0 0
 unfold IEnc at hen
 rw[(node16_check hg).1,if_pos rfl,(node16_check hg).2] at hen
 have hsoft:=fun(W:World) (base Bd:Nat) (D:Nat→Prop) (h:DiskAt W base Bd (dk16 g 4) D) (hb:base≤W.heap.size) (hdl:∀j,D j→j<W.heap.size)=>softNew_any h hb hdl 0 0 ⟨by decide,by decide⟩ ⟨by decide,by decide⟩
 have heq:=eql_disk_nil
 have hfr:(⟨dk16 g 4,⟨[],0⟩,0,0,[]⟩:Sp.Side)=plainS (laid16L g) 0 0:=rfl
 rw[hfr] at hsoft
 obtain⟨S,hS⟩:=zx (plainS (laid16L g) 0 0)
 rw[hS] at hsoft ⊢
 obtain⟨dN,hdN⟩:=zx (q71z N)
 rw[hdN] at hnew hlay hlm
 obtain⟨dF,hdF⟩:∃d:Sp.Disk,{ dN with l:=q24z g } = d:=⟨_,rfl⟩
 rw[hdF] at hlay hlm
 obtain⟨dk,hdk⟩:=zx (dk16 g)
 rw[hdk] at hlm hln hsoft
 obtain⟨at_,hat⟩:∃f:Nat→Int,(fun n:Nat=>q1z g n)=f:=⟨_,rfl⟩
 have hat':∀n:Nat,q1z g n=at_ n:=fun n=>by rw[←hat]
 simp only[hat'] at hln hin
 obtain⟨f0,hf0⟩:=zx (g.first 0)
 rw[hf0] at hmap hlm
 obtain⟨n1,hn1⟩:=zx (node1)
 rw[hn1] at hln hen
 obtain⟨m3,hm3⟩:=zx (map3)
 rw[hm3] at hof hlm
 obtain⟨u1,hu1⟩:∃f:Nat→Int,(fun n:Nat=>(q33z g n).2.1)=f:=⟨_,rfl⟩
 obtain⟨u2,hu2⟩:∃f:Nat→Int,(fun n:Nat=>(q33z g n).2.2.1)=f:=⟨_,rfl⟩
 have hu1':∀n:Nat,(q33z g n).2.1=u1 n:=fun n=>by rw[←hu1]
 have hu2':∀n:Nat,(q33z g n).2.2.1=u2 n:=fun n=>by rw[←hu2]
 simp only[hu1',hu2'] at hin
 obtain⟨ga,gb,gc⟩:=g
 unfold gV at hsz hlay hmap hin hen ⊢
 unfold pt at *
 obtain⟨W0,hW0⟩:=zg w ga gb gc
 have hk:=q30z hW0
 have HB0:=zh hk.1
 have HK:=zh hk.2
 clear hk
 have HSZ:=zh hsz
 have HNEW:=zh hnew
 have HLAY:=zh hlay
 have HMAP:=zh hmap
 have HOF:=zh hof
 have HLM:=zh hlm
 have HLN:=zh hln
 have HIN:=zh hin
 have HEN:=zh hen
 have HSOFT:=zh hsoft
 clear hsz hnew hlay hmap hof hlm hln hin hen hsoft
 clear hg hz hN hfr hS hdN hdF hdk hat hat' hf0 hn1 hm3 hu1 hu2 hu1' hu2' h3
 obtain⟨z0,z1,z2⟩:=HK.out W0 (Below.refl _ _)
 go_enter Tryz.func21,Tryz.ntmps21
 go_wp2_with fail
 clear z0 z1 z2
 refine(HSZ.out _).mono ?_
 rintro e w1 ⟨rfl,hb1⟩
 have HB1:=zh hb1
 clear hb1
 go_wp2_with fail
 refine(HNEW.out _).mono ?_
 rintro e w2 ⟨Bd,D,rfl,hd2,hb2,hD2⟩
 have HB2:=zh (blN HB1.out hb2)
 have HX2:=zh hb2.size
 have HDB:=zh hD2
 have hl2:=HLAY.out w2 _ Bd D hd2 (fun j hj=>(hD2 j hj).2)
 have HL2:=zh hl2
 clear hl2
 clear hb2 hd2 hD2
 obtain⟨z0,z1,z2⟩:=HK.out w2 HB2.out
 go_wp2_with fail
 clear z0 z1 z2
 refine HL2.out.mono ?_
 rintro e w3 ⟨rfl,hd3,K3,hK3,hT3⟩
 have HD3:=zh hd3
 have HT3:Hid (∃K,(∀j,K j→D j)∧Turn K w2 w3):=⟨K3,hK3,hT3⟩
 clear hd3 hK3 hT3
 obtain⟨z0,z1,z2⟩:=HK.out w3 (by
  obtain⟨K,hK,hT⟩:=HT3.out
  exact HB2.out.trans (hT.below (fun j hj=>by have:=(HDB.out j (hK j hj)).1; have:=HB1.out.size; omega) (by have:=HX2.out; have:=HB1.out.size; omega)))
 go_wp2_with fail
 clear z0 z1 z2
 refine(HMAP.out _).mono ?_
 rintro e w4 ⟨rfl,hb4⟩
 have HB4:=zh hb4
 clear hb4
 obtain⟨W5,hW5⟩:=zx (w4.alloc (.cells #[.int .i64 0,.int .i64 1,.int .i64 2] 3))
 have hb5:Below w4.heap.size w4 W5:=by rw[←hW5]; exact bl2 _
 have hr5:Ints W5 (.slice (some ⟨w4.heap.size,0,none⟩) 3 3) [0,1,2]:=ints_three (by rw[←hW5]; exact heapNew w4 _)
 have HB5:=zh (blN HB4.out hb5)
 have ho5:=HOF.out W5 _ hr5
 have HO5:=zh ho5
 clear ho5
 clear hb5 hr5
 have HB3:Hid (Below w.heap.size w w3):=by
  obtain⟨K,hK,hT⟩:=HT3.out
  exact(blN HB0.out HB2.out).trans (hT.below (fun j hj=>by have:=(HDB.out j (hK j hj)).1; have:=HB1.out.size; have:=HB0.out.size; omega) (by have:=HX2.out; have:=HB1.out.size; have:=HB0.out.size; omega))
 have HK3:Hid (Below W0.heap.size W0 w3):=by
  obtain⟨K,hK,hT⟩:=HT3.out
  exact HB2.out.trans (hT.below (fun j hj=>by have:=(HDB.out j (hK j hj)).1; have:=HB1.out.size; omega) (by have:=HX2.out; have:=HB1.out.size; omega))
 obtain⟨z0,z1,z2⟩:=HK.out w4 (blN HK3.out HB4.out)
 go_wp2_with fail
 clear z0 z1 z2 hW5
 refine HO5.out.mono ?_
 rintro e w6 ⟨rfl,hb6⟩
 have HB6:=zh (blN HB5.out hb6)
 clear hb6
 have hl6:=HLM.out w6 _ Bd D (HD3.out.below HB6.out)
 have HL6:=zh hl6
 clear hl6
 go_wp2_with fail
 refine HL6.out.mono ?_
 rintro e w7 ⟨rfl,hd7,K7,hK7,_,hT7⟩
 have HD7:=zh hd7
 have HT7:Hid (∃K,(∀j,K j→D j)∧Turn K w6 w7):=⟨K7,hK7,hT7⟩
 clear hd7 hK7 hT7
 have H7:Hid (Below w.heap.size w w7∧Below W0.heap.size W0 w7∧w2.heap.size≤w7.heap.size):=by
  have h1:=HB1.out.size
  have h0:=HB0.out.size
  have h2:=HX2.out
  have h3:w2.heap.size≤w3.heap.size:=by obtain⟨K,hK,hT⟩:=HT3.out; exact hT.size
  have h6:=HB6.out.size
  obtain⟨K,hK,hT⟩:=HT7.out
  have h7:=hT.size
  exact⟨(blN HB3.out HB6.out).trans (hT.below (fun j hj=>by have:=(HDB.out j (hK j hj)).1; omega) (by omega)),(blN HK3.out HB6.out).trans (hT.below (fun j hj=>by have:=(HDB.out j (hK j hj)).1; omega) (by omega)),by omega⟩
 go_wp2
 go_loopw [9] (fun i wr=>∃n:Nat,(n=2∨n=3∨n=4)∧i = .int .i64 (n:Int)∧Hid (DiskAt wr w1.heap.size Bd (dk n) D)∧Hid (Below w.heap.size w wr∧Below W0.heap.size W0 wr∧w2.heap.size≤wr.heap.size)) (fun i _=>4-(intOf i).toNat)
 case atStart=>exact⟨2,Or.inl rfl,rfl,HD7.out,H7.out⟩
 case round=>
  obtain⟨n,hn,rfl,HDk,HTk⟩:=hrel
  by_cases hlt:n<4
  ·have hn':n=2∨n=3:=by omega
   have hle:(n:Int)≤3:=by omega
   have hi:=HIN.out wr n hn'
   have HI:=zh hi
   clear hi
   obtain⟨z0,z1,z2⟩:=HK.out wr HTk.out.2.1
   go_wp2_with fail
   clear z0 z1 z2
   refine HI.out.mono ?_
   rintro e w8 ⟨rfl,hb8⟩
   have HB8:=zh hb8
   clear hb8
   obtain⟨z0,z1,z2⟩:=HK.out w8 (blN HTk.out.2.1 HB8.out)
   go_wp2_with fail
   clear z0 z1 z2
   refine(HEN.out _).mono ?_
   rintro e w9 ⟨rfl,hb9⟩
   have HB9:=zh (blN HB8.out hb9)
   clear hb9
   have hl9:=HLN.out w9 _ Bd D n hn' (HDk.out.below HB9.out)
   have HL9:=zh hl9
   clear hl9
   go_wp2_with fail
   refine HL9.out.mono ?_
   rintro e w10 ⟨rfl,hd10,K,hK,_,hT⟩
   have HD10:=zh hd10
   have HT10:Hid (Below w.heap.size w w10∧Below W0.heap.size W0 w10∧w2.heap.size≤w10.heap.size):=by
    have h1:=HB1.out.size
    have h0:=HB0.out.size
    have h2:=HX2.out
    have h3:=HTk.out.2.2
    have h9:=HB9.out.size
    have h7:=hT.size
    exact⟨(blN HTk.out.1 HB9.out).trans (hT.below (fun j hj=>by have:=(HDB.out j (hK j hj)).1; omega) (by omega)),(blN HTk.out.2.1 HB9.out).trans (hT.below (fun j hj=>by have:=(HDB.out j (hK j hj)).1; omega) (by omega)),by omega⟩
   clear hd10 hK hT
   go_wp2
   go_roundw
   case rel=>exact⟨n+1,by omega,by go_num,HD10,HT10⟩
   case measure=>simp[intOf]; omega
  ·obtain rfl:n=4:=by omega
   have hso:=HSOFT.out wr _ Bd D HDk.out (by have:=HX2.out; have:=HTk.out.2.2; omega) (fun j hj=>by have:=HDB.out j hj; have:=HTk.out.2.2; omega)
   have HSO:=zh hso
   clear hso
   go_wp2_with fail
   refine HSO.out.mono ?_
   rintro e w11 ⟨B,D',rfl,hsa,hb11,hD11⟩
   have HF:Hid (∃base B' Bd' D,Ending.returned (.tuple #[.pointer (some ⟨Bd,0,none⟩),.pointer (some ⟨B,0,none⟩)])=Ending.returned (.tuple #[.pointer (some ⟨Bd',0,none⟩),.pointer (some ⟨B',0,none⟩)])∧SideAt w11 base B' Bd' S D∧Below w.heap.size w w11∧∀j,D j→w.heap.size≤j∧j<w11.heap.size):=by
    have h3:=HTk.out.2.2
    have h4:=hb11.size
    have h0:=HB0.out.size
    have h1:=HB1.out.size
    have h2:=HX2.out
    refine⟨_,B,Bd,D',rfl,hsa,blN HTk.out.1 hb11,fun j hj=>?_⟩
    rcases hD11 j hj with h | h
    ·have:=HDB.out j h
     omega
    ·omega
   clear hsa hb11 hD11
   go_wp2
   go_ret2
   exact HF.out
end
def ground16 (two:Bool):Sp.Geom:=if two then⟨2,3,30⟩ else⟨1,4,60⟩
section
theorem ground_any (w:World) (two:Bool):Calls Tryz.prog 20 #[.bool two] w fun e w'=>e = .returned (gV (ground16 two))∧Below w.heap.size w w':=by
 obtain⟨W0,hW0⟩:=zg w 0 0 0
 have HB0:Hid (Below w.heap.size w W0):=by rw[←hW0]; exact bl2 _
 have HZ0:Hid (W0.heap[w.heap.size]? = some (.cells #[.int .i64 0,.int .i64 0,.int .i64 0] 23 (0,0))):=by rw[←hW0]; exact heapNew w _
 have key:∀a b c:Int,Hid (Below w.heap.size w (((W0.setCell ⟨w.heap.size,0,none⟩ (.int .i64 a)).setCell ⟨w.heap.size,1,none⟩ (.int .i64 b)).setCell ⟨w.heap.size,2,none⟩ (.int .i64 c))∧(((W0.setCell ⟨w.heap.size,0,none⟩ (.int .i64 a)).setCell ⟨w.heap.size,1,none⟩ (.int .i64 b)).setCell ⟨w.heap.size,2,none⟩ (.int .i64 c)).heap[w.heap.size]? = some (.cells #[.int .i64 a,.int .i64 b,.int .i64 c] 23 (0,0))):=fun a b c=>⟨q40z (Nat.le_refl _) [.int .i64 a,.int .i64 b,.int .i64 c] 0 _ HB0.out,q45z (vs:=[.int .i64 a,.int .i64 b,.int .i64 c]) HZ0.out rfl⟩
 have HKEY:=zh key
 clear key
 have v0:=q4z (k:=0) HZ0.out
 have v1:=q4z (k:=1) HZ0.out
 have v2:=q4z (k:=2) HZ0.out
 have y0:=zc 0 HZ0.out
 have y1:=zc 1 HZ0.out
 have y2:=zc 2 HZ0.out
 cases two
 ·unfold ground16 gV
  rw[if_neg (by decide)]
  dsimp only
  have hk:=(HKEY.out 1 4 60).out
  obtain⟨Wf,hWf⟩:=zx ((((W0.setCell ⟨w.heap.size,0,none⟩ (.int .i64 1)).setCell ⟨w.heap.size,1,none⟩ (.int .i64 4)).setCell ⟨w.heap.size,2,none⟩ (.int .i64 60)))
  rw[hWf] at hk
  have HF:=zh hk.1
  have x0:=zc 0 hk.2
  have x1:=zc 1 hk.2
  have x2:=zc 2 hk.2
  clear hk
  go_enter Tryz.func20,Tryz.ntmps20
  go_wp2
  refine bodyPost_ret (v:=.agg #[.int .i64 1,.int .i64 4,.int .i64 60]) (by simp[results,Tryz.results20,go_sem,x0,x1,x2]) rfl ?_
  exact⟨rfl,HF.out⟩
 ·unfold ground16 gV
  rw[if_pos rfl]
  dsimp only
  have hk:=(HKEY.out 2 3 30).out
  obtain⟨Wf,hWf⟩:=zx ((((W0.setCell ⟨w.heap.size,0,none⟩ (.int .i64 2)).setCell ⟨w.heap.size,1,none⟩ (.int .i64 3)).setCell ⟨w.heap.size,2,none⟩ (.int .i64 30)))
  rw[hWf] at hk
  have HF:=zh hk.1
  have x0:=zc 0 hk.2
  have x1:=zc 1 hk.2
  have x2:=zc 2 hk.2
  clear hk
  go_enter Tryz.func20,Tryz.ntmps20
  go_wp2
  refine bodyPost_ret (v:=.agg #[.int .i64 2,.int .i64 3,.int .i64 30]) (by simp[results,Tryz.results20,go_sem,x0,x1,x2]) rfl ?_
  exact⟨rfl,HF.out⟩
end
theorem ints_sole {W:World} {b:Nat} {k:Int} (h:W.heap[b]? = some (.cells #[.int .i64 k] 3 (0,0))):Ints W (.slice (some ⟨b,0,none⟩) 1 1) [k]:=
 ints_block (o:=0) h (fun j n hj=>by
  match j,hj with
  | 0,hj=>have e:k=n:=by simpa using hj
          rw[←e]; rfl
  | q+1,hj=>simp at hj) (by unfold maxLen; simp) rfl
def wkG16:Sp.Geom:=⟨1,4,60⟩
def wkT16:BSt:=(⟨plainS (laid16L wkG16) 0 0,file0,[]⟩:BSt).write wkG16 2 [0] 1 3 [97,98]
theorem wk16_made:wkT16.made.length=4:=by decide +kernel
theorem wk16_read:readB wkT16.F wkT16.S.read 0 9=ofL [0,0,0,97,98]:=by decide +kernel
theorem wk16_stands:Stands (plainS (laid16L wkG16) 0 0) wkG16 2 file0:=
 Bm.stands (q157z (g:=wkG16) (by decide) (by decide) (Or.inl rfl)) (by decide) (by decide) (by decide) rfl rfl ⟨by decide,by decide⟩ ⟨by decide,by decide⟩ ⟨by decide,by decide⟩
theorem wk16_code:(⟨plainS (laid16L wkG16) 0 0,file0,[]⟩:BSt).writeC wkG16 2 [0] 1 3 [97,98]=0:=
 bm_writeC (t:=⟨plainS (laid16L wkG16) 0 0,file0,[]⟩) (q157z (by decide) (by decide) (Or.inl rfl)) (by intro n hn; simp at hn) (by decide) (by decide) (by decide) (by decide) (by decide) (by decide) (by decide) (by decide) (Or.inr (by decide))
theorem wk16_bm:∃Y r,Bm wkG16 2 wkT16.S wkT16.F [1,2,3] Y r:=by
 obtain⟨Y,r,_,_,hb,_⟩:=bm_write (t:=⟨plainS (laid16L wkG16) 0 0,file0,[]⟩) (ks:=[0]) (f:=1) (off:=3) (d:=[97,98]) (q157z (by decide) (by decide) (Or.inl rfl)) (by intro n hn; simp at hn) (by decide) (by decide) (by decide) (by decide) (by decide) (by decide) (by decide) (by decide) (Or.inr (by decide))
 exact⟨Y,r,hb⟩
theorem wk16_part:wkT16.F.kind=1∧wkT16.F.parent=0∧(0≤wkT16.F.gen∧wkT16.F.gen≤65535)∧(0≤wkT16.F.links∧wkT16.F.links≤255)∧(0≤wkT16.F.size∧wkT16.F.size≤2560):=by decide +kernel
theorem wk16_has:Stands wkT16.S wkG16 2 wkT16.F∧∀b∈wkT16.F.blocks,b≠0→wkT16.S.disk.has b:=by
 obtain⟨Y,r,hb⟩:=wk16_bm
 obtain⟨p1,p2,p3,p4,p5⟩:=wk16_part
 exact⟨Bm.stands hb (by decide) (by decide) (by decide) p1 p2 p3 p4 p5,fun b h h0=>hb.hasB (by decide) (hb.own b (q6z.2 ⟨Or.inr h,h0⟩))⟩
section
theorem works16_any (w:World):Calls Tryz.prog 22 #[] w fun e w'=>e = .returned (.bool true)∧Below w.heap.size w w':=by
 have hgr:=fun W:World=>ground_any W false
 rw[show ground16 false=wkG16 from rfl] at hgr
 have hld:=fun W:World=>laid16_any W (g:=wkG16) (by decide) (by decide)
 have hwr:=fun(W:World) (base B Bd:Nat) (D:Nat→Prop) (vk:Value) (h:SideAt W base B Bd (plainS (laid16L wkG16) 0 0) D) (hD:∀j,D j→j<W.heap.size) (hv:∀W',Turn D W W'→Ints W' vk [0])=>bwrite_any h hD wk16_stands (by decide) (by decide) (by decide) vk [0] hv (by decide) 3 ⟨#[97,98]⟩ (by decide) (by decide) 1 (by decide) (by decide)
 have hrd:=fun(W:World) (base B Bd:Nat) (D:Nat→Prop) (h:SideAt W base B Bd wkT16.S D) (hD:∀j,D j→j<W.heap.size)=>bread_any h hD wk16_has.1 wk16_has.2 0 9 (by decide) (by decide)
 rw[show(⟨#[97,98]⟩:ByteArray).data.toList=[97,98] from rfl,wk16_code,show(⟨plainS (laid16L wkG16) 0 0,file0,[]⟩:BSt).write wkG16 2 [0] 1 3 [97,98]=wkT16 from rfl] at hwr
 rw[wk16_read] at hrd
 simp only[show((3:Nat):Int)=3 from rfl,show((0:Nat):Int)=0 from rfl,show((9:Nat):Int)=9 from rfl] at hwr hrd
 have hmade:=wk16_made
 obtain⟨S0,hS0⟩:=zx (plainS (laid16L wkG16) 0 0)
 rw[hS0] at hld hwr
 obtain⟨T1,hT1⟩:=zx (wkT16)
 rw[hT1] at hwr hrd hmade
 clear hS0 hT1
 have heq:=eql_disk_nil
 unfold gV wkG16 at hgr hld hwr hrd
 dsimp only at hgr hld hwr hrd
 unfold pt at *
 have HMADE:=zh hmade
 have HGR:=zh hgr
 have HLD:=zh hld
 have HWR:=zh hwr
 have HRD:=zh hrd
 clear hgr hld hwr hrd
 clear hmade
 go_enter Tryz.func22,Tryz.ntmps22
 go_wp2_with fail
 refine(HGR.out _).mono ?_
 rintro e w1 ⟨rfl,hb1⟩
 obtain⟨W2,hW2⟩:=zg w1 1 4 60
 have HB2:Hid (Below w.heap.size w W2):=blN hb1 (by rw[←hW2]; exact bl2 _)
 have HG2:Hid (W2.heap[w1.heap.size]? = some (.cells #[.int .i64 1,.int .i64 4,.int .i64 60] 23 (0,0))):=by rw[←hW2]; exact heapNew w1 _
 have HZ2:Hid (w.heap.size≤w1.heap.size∧w1.heap.size<W2.heap.size):=⟨hb1.size,by rw[←hW2]; show _<_; simp⟩
 clear hb1
 have z0:=zc 0 HG2.out
 have z1:=zc 1 HG2.out
 have z2:=zc 2 HG2.out
 go_wp2_with fail
 clear z0 z1 z2 hW2
 refine(HLD.out _).mono ?_
 rintro e w3 ⟨base,B,Bd,D,rfl,hs3,hb3,hD3⟩
 obtain⟨W4,hW4⟩:=zx (w3.alloc (.cells #[.int .i64 0] 3))
 have hb4:Below w3.heap.size w3 W4:=by rw[←hW4]; exact bl2 _
 have hz4:W4.heap[w3.heap.size]? = some (.cells #[.int .i64 0] 3 (0,0)):=by rw[←hW4]; exact heapNew w3 _
 have HG3:Hid (w3.heap[w1.heap.size]? = some (.cells #[.int .i64 1,.int .i64 4,.int .i64 60] 23 (0,0))):=heapOld hb3 HG2.out
 have HG4:Hid (W4.heap[w1.heap.size]? = some (.cells #[.int .i64 1,.int .i64 4,.int .i64 60] 23 (0,0))):=heapOld hb4 HG3.out
 have HLow:Hid (∀j,D j→W2.heap.size≤j):=fun j hj=>(hD3 j hj).1
 have HB4:Hid (Below w.heap.size w W4):=blN (blN HB2.out hb3) hb4
 have hlt4:∀j,D j→j<W4.heap.size:=fun j hj=>Nat.lt_of_lt_of_le (hD3 j hj).2 hb4.size
 have HLt:Hid (∀j,D j→j<W4.heap.size):=hlt4
 have HZ4:Hid (W2.heap.size≤W4.heap.size):=by have:=hb3.size; have:=hb4.size; show _≤_; omega
 have hw4:=HWR.out W4 base B Bd D _ (hs3.below hb4) hlt4 (fun W' hT=>ints_sole (hT.heap hz4 (fun hd=>by have:=(hD3 _ hd).2; omega)))
 have HW4:=zh hw4
 clear hw4
 clear hs3 hb3 hD3 hb4 hz4 hlt4
 have z0:=zc 0 HG3.out
 have z1:=zc 1 HG3.out
 have z2:=zc 2 HG3.out
 go_wp2_with fail
 clear z0 z1 z2 hW4
 refine HW4.out.mono ?_
 rintro e w5 (⟨-,v,rfl,hv5,hs5⟩ | ⟨hne,-⟩)
 case inr=>exact absurd rfl hne
 obtain⟨ad,len,cap,rfl,hlen,hn2,-⟩:=RowAt.facts hv5
 have hlen4:len=4:=by rw[hlen.out]; exact HMADE.out
 subst hlen4
 have HG5:Hid (w5.heap[w1.heap.size]? = some (.cells #[.int .i64 1,.int .i64 4,.int .i64 60] 23 (0,0))):=hs5.heap HG4.out (fun hd=>by have:=HLow.out _ hd; have:=HZ2.out.2; omega)
 have HT5:Hid (∃K,(∀j,K j→D j)∧Turn K W4 w5):=hs5.2
 have hr5:=HRD.out w5 base B Bd _ hs5.1 (fun j hj=>hj.elim (fun h=>by have:=HLt.out j h; obtain⟨K,hK,hT⟩:=HT5.out; have:=hT.size; omega) (fun h=>h.2))
 have HB5:Hid (Below w.heap.size w w5):=by
  obtain⟨K,hK,hT⟩:=HT5.out
  exact HB4.out.trans (hT.below (fun j hj=>by have:=HLow.out j (hK j hj); have:=HZ2.out; omega) (by have:=HZ4.out; have:=HZ2.out; omega))
 have HZ5:Hid (W4.heap.size≤w5.heap.size):=by obtain⟨K,hK,hT⟩:=HT5.out; exact hT.size
 have HR5:=zh hr5
 clear hr5
 clear hv5 hs5 hlen hn2
 have z0:=zc 0 HG5.out
 have z1:=zc 1 HG5.out
 have z2:=zc 2 HG5.out
 go_wp2_with fail
 clear z0 z1 z2
 refine HR5.out.mono ?_
 rintro e w6 ⟨rfl,hs6⟩
 have HF:Hid (Below w.heap.size w w6):=by
  obtain⟨_,K,hK,hT⟩:=hs6
  refine HB5.out.trans (hT.below (fun j hj=>?_) (by have:=HZ5.out; have:=HZ4.out; have:=HZ2.out; omega))
  have h2:=HZ2.out
  have h4:=HZ4.out
  rcases hK j hj with h | h
  ·have:=HLow.out j h; omega
  ·omega
 clear hs6
 have hq:((ofL [0,0,0,97,98]).toList == [0,0,0,97,98])=true:=by decide +kernel
 go_wp2
 go_ret
 exact⟨rfl,HF.out⟩
end
end Go.Proofs.YtgofmnhfajmbfaaGreatDoor
namespace Go.Proofs.YtgofmnhfajmbfaaGreatDoor
open Go Txt Sp
end Go.Proofs.YtgofmnhfajmbfaaGreatDoor
namespace Go.Proofs.YtgofmnhfajmbfaaGreatDoor
open Go Go.RowKit Txt Sp
section
variable {W:World} {base B Bd:Nat} {D:Nat→Prop} {S:Sp.Side} {F:File} {off:Nat} {d:List UInt8}
end
