import Derived.Test.YtgofmnhfajmbfaaGreatDoorBmF
import Derived.Lib.SmallJoins
set_option maxRecDepth 100000
namespace Go.Proofs.YtgofmnhfajmbfaaGreatDoor
open Go Go.RowKit Txt Sp
section
set_option maxHeartbeats 4000000
theorem laid16z_any (w:World) {g:Sp.Geom} (hg:g.ok) (h3:3≤g.inodes):Calls Tryz.prog 21 #[gV g] w fun e w'=>
 ∃B Bd D,e = .returned (.tuple #[pt Bd,pt B])∧SideAt w' 0 B Bd (plainS (laid16L g) 0 0) D∧Below w.heap.size w w'∧∀j,D j→w.heap.size≤j∧j<w'.heap.size:=by
 have hsz:=fun W:World=>gsize_any W g
 have hz:=Geom.size_bd hg
 obtain⟨N,hN⟩:∃N:Nat,g.size=(N:Int):=⟨g.size.toNat,by omega⟩
 rw[hN] at hsz hz
 have hnew:=fun W:World=>diskNew_any W N (by omega) (by omega)
 have hlay:=fun(W:World) (base Bd:Nat) (D:Nat→Prop) (h:DiskAt W base Bd (q71z N) D) (hD:∀j,D j→j<W.heap.size)=>alay_any h hD hg (by rw[hN]; simp[q71z])
 have hmap:=fun W:World=>q172z W g 0 false
 rw[mapAt_in hg ⟨by omega,by have:=hg.1; omega⟩ false,show q3z g 0 false=g.first 0 by unfold q3z; simp] at hmap
 have hof:=fun(W:World) (v:Value) (hv:Ints W v [0,1,2])=>of16_any W (n:=g.inodes) ⟨h3,by have:=hg; unfold Sp.Geom.ok at this; omega⟩ hv
 have hlm:=fun(W:World) (base Bd:Nat) (D:Nat→Prop) (h:DiskAt W base Bd { q71z N with l:=q24z g } D)=>q126z h (g.first 0) map3
 rw[(dk16_first hg N).1,(dk16_first hg N).2] at hlm
 have hln:=fun(W:World) (base Bd:Nat) (D:Nat→Prop) (n:Nat) (hn:n=2∨n=3) (h:DiskAt W base Bd (dk16 g n) D)=>(show Calls _ _ _ _ _ from(by
  have:=q126z h (q1z g n) node1
  rw[(dk16_step hg h3 hn).1,(dk16_step hg h3 hn).2] at this
  exact this):Calls Tryz.prog 55 #[pt Bd,.int .i64 (q1z g n),.string node1] W fun e w'=>e = .returned (.int .i64 0)∧DiskAt w' base Bd (dk16 g (n+1)) D∧∃K,(∀j,K j→D j)∧q69z 9 W K∧Turn K W w')
 have hin:=fun(W:World) (n:Nat) (hn:n=2∨n=3)=>(show Calls _ _ _ _ _ from(by
  have h:=inodeAt_in hg (i:=(n:Int)) (by omega) (by have:=in16 hg h3; omega)
  have:=ginode_any W g n
  rw[h.1,h.2] at this
  exact this):Calls Tryz.prog 42 #[gV g,.int .i64 n] W fun e w'=>e = .returned (.tuple #[.int .i64 (q1z g n),.int .i64 (q33z g n).2.1,.int .i64 (q33z g n).2.2.1,.int .i64 0])∧Below W.heap.size W w')
 have hen:=fun W:World=>iencode_any W g 1 1 0 0 1 0 0 0 0 0 0 0 0 0
 unfold IEnc at hen
 rw[(node16_check hg).1,if_pos rfl,(node16_check hg).2] at hen
 have hsoft:=fun(W:World) (base Bd:Nat) (D:Nat→Prop) (h:DiskAt W base Bd (dk16 g 4) D) (hb:base≤W.heap.size) (hdl:∀j,D j→j<W.heap.size)=>softNew_any h.lower (Nat.zero_le _) hdl 0 0 ⟨by decide,by decide⟩ ⟨by decide,by decide⟩
 have heq:=eql_disk_nil
 have hfr:(⟨dk16 g 4,⟨[],0⟩,0,0,[]⟩:Sp.Side)=plainS (laid16L g) 0 0:=rfl
 rw[hfr] at hsoft
 obtain⟨S,hS⟩:=zx (plainS (laid16L g) 0 0)
 rw[hS] at hsoft ⊢
 obtain⟨dN,hdN⟩:=zx (q71z N)
 rw[hdN] at hnew hlay hlm
 obtain⟨dF,hdF⟩:∃d:Sp.Disk,{ dN with l:=q24z g } = d:=⟨_,rfl⟩
 rw[hdF] at hlay hlm
 obtain⟨dk,hdk⟩:=zx (dk16 g)
 rw[hdk] at hlm hln hsoft
 obtain⟨at_,hat⟩:∃f:Nat→Int,(fun n:Nat=>q1z g n)=f:=⟨_,rfl⟩
 have hat':∀n:Nat,q1z g n=at_ n:=fun n=>by rw[←hat]
 simp only[hat'] at hln hin
 obtain⟨f0,hf0⟩:=zx (g.first 0)
 rw[hf0] at hmap hlm
 obtain⟨n1,hn1⟩:=zx (node1)
 rw[hn1] at hln hen
 obtain⟨m3,hm3⟩:=zx (map3)
 rw[hm3] at hof hlm
 obtain⟨u1,hu1⟩:∃f:Nat→Int,(fun n:Nat=>(q33z g n).2.1)=f:=⟨_,rfl⟩
 obtain⟨u2,hu2⟩:∃f:Nat→Int,(fun n:Nat=>(q33z g n).2.2.1)=f:=⟨_,rfl⟩
 have hu1':∀n:Nat,(q33z g n).2.1=u1 n:=fun n=>by rw[←hu1]
 have hu2':∀n:Nat,(q33z g n).2.2.1=u2 n:=fun n=>by rw[←hu2]
 simp only[hu1',hu2'] at hin
 obtain⟨ga,gb,gc⟩:=g
 unfold gV at hsz hlay hmap hin hen ⊢
 unfold pt at *
 obtain⟨W0,hW0⟩:=zg w ga gb gc
 have hk:=q30z hW0
 have HB0:=zh hk.1
 have HK:=zh hk.2
 clear hk
 have HSZ:=zh hsz
 have HNEW:=zh hnew
 have HLAY:=zh hlay
 have HMAP:=zh hmap
 have HOF:=zh hof
 have HLM:=zh hlm
 have HLN:=zh hln
 have HIN:=zh hin
 have HEN:=zh hen
 have HSOFT:=zh hsoft
 clear hsz hnew hlay hmap hof hlm hln hin hen hsoft
 clear hg hz hN hfr hS hdN hdF hdk hat hat' hf0 hn1 hm3 hu1 hu2 hu1' hu2' h3
 obtain⟨z0,z1,z2⟩:=HK.out W0 (Below.refl _ _)
 go_enter Tryz.func21,Tryz.ntmps21
 go_wp2_with fail
 clear z0 z1 z2
 refine(HSZ.out _).mono ?_
 rintro e w1 ⟨rfl,hb1⟩
 have HB1:=zh hb1
 clear hb1
 go_wp2_with fail
 refine(HNEW.out _).mono ?_
 rintro e w2 ⟨Bd,D,rfl,hd2,hb2,hD2⟩
 have HB2:=zh (blN HB1.out hb2)
 have HX2:=zh hb2.size
 have HDB:=zh hD2
 have hl2:=HLAY.out w2 _ Bd D hd2 (fun j hj=>(hD2 j hj).2)
 have HL2:=zh hl2
 clear hl2
 clear hb2 hd2 hD2
 obtain⟨z0,z1,z2⟩:=HK.out w2 HB2.out
 go_wp2_with fail
 clear z0 z1 z2
 refine HL2.out.mono ?_
 rintro e w3 ⟨rfl,hd3,K3,hK3,hT3⟩
 have HD3:=zh hd3
 have HT3:Hid (∃K,(∀j,K j→D j)∧Turn K w2 w3):=⟨K3,hK3,hT3⟩
 clear hd3 hK3 hT3
 obtain⟨z0,z1,z2⟩:=HK.out w3 (by
  obtain⟨K,hK,hT⟩:=HT3.out
  exact HB2.out.trans (hT.below (fun j hj=>by have:=(HDB.out j (hK j hj)).1; have:=HB1.out.size; omega) (by have:=HX2.out; have:=HB1.out.size; omega)))
 go_wp2_with fail
 clear z0 z1 z2
 refine(HMAP.out _).mono ?_
 rintro e w4 ⟨rfl,hb4⟩
 have HB4:=zh hb4
 clear hb4
 obtain⟨W5,hW5⟩:=zx (w4.alloc (.cells #[.int .i64 0,.int .i64 1,.int .i64 2] 3))
 have hb5:Below w4.heap.size w4 W5:=by rw[←hW5]; exact bl2 _
 have hr5:Ints W5 (.slice (some ⟨w4.heap.size,0,none⟩) 3 3) [0,1,2]:=ints_three (by rw[←hW5]; exact heapNew w4 _)
 have HB5:=zh (blN HB4.out hb5)
 have ho5:=HOF.out W5 _ hr5
 have HO5:=zh ho5
 clear ho5
 clear hb5 hr5
 have HB3:Hid (Below w.heap.size w w3):=by
  obtain⟨K,hK,hT⟩:=HT3.out
  exact(blN HB0.out HB2.out).trans (hT.below (fun j hj=>by have:=(HDB.out j (hK j hj)).1; have:=HB1.out.size; have:=HB0.out.size; omega) (by have:=HX2.out; have:=HB1.out.size; have:=HB0.out.size; omega))
 have HK3:Hid (Below W0.heap.size W0 w3):=by
  obtain⟨K,hK,hT⟩:=HT3.out
  exact HB2.out.trans (hT.below (fun j hj=>by have:=(HDB.out j (hK j hj)).1; have:=HB1.out.size; omega) (by have:=HX2.out; have:=HB1.out.size; omega))
 obtain⟨z0,z1,z2⟩:=HK.out w4 (blN HK3.out HB4.out)
 go_wp2_with fail
 clear z0 z1 z2 hW5
 refine HO5.out.mono ?_
 rintro e w6 ⟨rfl,hb6⟩
 have HB6:=zh (blN HB5.out hb6)
 clear hb6
 have hl6:=HLM.out w6 _ Bd D (HD3.out.below HB6.out)
 have HL6:=zh hl6
 clear hl6
 go_wp2_with fail
 refine HL6.out.mono ?_
 rintro e w7 ⟨rfl,hd7,K7,hK7,_,hT7⟩
 have HD7:=zh hd7
 have HT7:Hid (∃K,(∀j,K j→D j)∧Turn K w6 w7):=⟨K7,hK7,hT7⟩
 clear hd7 hK7 hT7
 have H7:Hid (Below w.heap.size w w7∧Below W0.heap.size W0 w7∧w2.heap.size≤w7.heap.size):=by
  have h1:=HB1.out.size
  have h0:=HB0.out.size
  have h2:=HX2.out
  have h3:w2.heap.size≤w3.heap.size:=by obtain⟨K,hK,hT⟩:=HT3.out; exact hT.size
  have h6:=HB6.out.size
  obtain⟨K,hK,hT⟩:=HT7.out
  have h7:=hT.size
  exact⟨(blN HB3.out HB6.out).trans (hT.below (fun j hj=>by have:=(HDB.out j (hK j hj)).1; omega) (by omega)),(blN HK3.out HB6.out).trans (hT.below (fun j hj=>by have:=(HDB.out j (hK j hj)).1; omega) (by omega)),by omega⟩
 go_wp2
 go_loopw [9] (fun i wr=>∃n:Nat,(n=2∨n=3∨n=4)∧i = .int .i64 (n:Int)∧Hid (DiskAt wr w1.heap.size Bd (dk n) D)∧Hid (Below w.heap.size w wr∧Below W0.heap.size W0 wr∧w2.heap.size≤wr.heap.size)) (fun i _=>4-(intOf i).toNat)
 case atStart=>exact⟨2,Or.inl rfl,rfl,HD7.out,H7.out⟩
 case round=>
  obtain⟨n,hn,rfl,HDk,HTk⟩:=hrel
  by_cases hlt:n<4
  ·have hn':n=2∨n=3:=by omega
   have hle:(n:Int)≤3:=by omega
   have hi:=HIN.out wr n hn'
   have HI:=zh hi
   clear hi
   obtain⟨z0,z1,z2⟩:=HK.out wr HTk.out.2.1
   go_wp2_with fail
   clear z0 z1 z2
   refine HI.out.mono ?_
   rintro e w8 ⟨rfl,hb8⟩
   have HB8:=zh hb8
   clear hb8
   obtain⟨z0,z1,z2⟩:=HK.out w8 (blN HTk.out.2.1 HB8.out)
   go_wp2_with fail
   clear z0 z1 z2
   refine(HEN.out _).mono ?_
   rintro e w9 ⟨rfl,hb9⟩
   have HB9:=zh (blN HB8.out hb9)
   clear hb9
   have hl9:=HLN.out w9 _ Bd D n hn' (HDk.out.below HB9.out)
   have HL9:=zh hl9
   clear hl9
   go_wp2_with fail
   refine HL9.out.mono ?_
   rintro e w10 ⟨rfl,hd10,K,hK,_,hT⟩
   have HD10:=zh hd10
   have HT10:Hid (Below w.heap.size w w10∧Below W0.heap.size W0 w10∧w2.heap.size≤w10.heap.size):=by
    have h1:=HB1.out.size
    have h0:=HB0.out.size
    have h2:=HX2.out
    have h3:=HTk.out.2.2
    have h9:=HB9.out.size
    have h7:=hT.size
    exact⟨(blN HTk.out.1 HB9.out).trans (hT.below (fun j hj=>by have:=(HDB.out j (hK j hj)).1; omega) (by omega)),(blN HTk.out.2.1 HB9.out).trans (hT.below (fun j hj=>by have:=(HDB.out j (hK j hj)).1; omega) (by omega)),by omega⟩
   clear hd10 hK hT
   go_wp2
   go_roundw
   case rel=>exact⟨n+1,by omega,by go_num,HD10,HT10⟩
   case measure=>simp[intOf]; omega
  ·obtain rfl:n=4:=by omega
   have hso:=HSOFT.out wr _ Bd D HDk.out (by have:=HX2.out; have:=HTk.out.2.2; omega) (fun j hj=>by have:=HDB.out j hj; have:=HTk.out.2.2; omega)
   have HSO:=zh hso
   clear hso
   go_wp2_with fail
   refine HSO.out.mono ?_
   rintro e w11 ⟨B,D',rfl,hsa,hb11,hD11⟩
   have HF:Hid (∃B' Bd' D,Ending.returned (.tuple #[.pointer (some ⟨Bd,0,none⟩),.pointer (some ⟨B,0,none⟩)])=Ending.returned (.tuple #[.pointer (some ⟨Bd',0,none⟩),.pointer (some ⟨B',0,none⟩)])∧SideAt w11 0 B' Bd' S D∧Below w.heap.size w w11∧∀j,D j→w.heap.size≤j∧j<w11.heap.size):=by
    have h3:=HTk.out.2.2
    have h4:=hb11.size
    have h0:=HB0.out.size
    have h1:=HB1.out.size
    have h2:=HX2.out
    refine⟨B,Bd,D',rfl,hsa,blN HTk.out.1 hb11,fun j hj=>?_⟩
    rcases hD11 j hj with h | h
    ·have:=HDB.out j h
     omega
    ·omega
   clear hsa hb11 hD11
   go_wp2
   go_ret2
   exact HF.out
end
end Go.Proofs.YtgofmnhfajmbfaaGreatDoor
namespace Go.Proofs.YtgofmnhfajmbfaaGreatDoor
open Go Go.Joins Go.ChangeShapes Go.WideShapes Go.RowKit Go.Deep
section
variable {H:Type} {enc:TypeId×Value→H} {W:World}
theorem ints_read {fuel:Nat} {cs:List Value} {d:DataW H} {ps:List MemPlace} (h:DataW.trod enc Tryz.prog W 0 (fun _=>true) true fuel 58 cs=some (d,ps)) (hlt:∀x∈ps,x.block<W.heap.size) :
 ∃(l:List Int) (v:Value),cs=[v]∧Ints W v l:=by
 rcases ChangeShapes.open_ints Tryz.underlying58 Tryz.underlying3 (show Tryz.prog.cellsOf 3=1 by kernel_rfl) h with ⟨hcs,hx⟩ | ⟨a,len,cap,ss,hcs,_,hl,hm,hz,hx,hcell,hsz⟩
 ·exact⟨[],_,hcs,RowAt.void W 1⟩
 ·simp only[Prod.mk.injEq] at hx
  obtain⟨rfl,rfl⟩:=hx
  simp only[if_true] at hz
  have hlen:(ss.take len).length=len:=by rw[List.length_take]; omega
  refine⟨ss.take len,.slice (some a) (ss.take len).length cap,by rw[hlen]; exact hcs,some a,cap,by rw[List.length_map],by rw[List.length_map]; omega,hm,fun hp=>?_⟩
  rw[List.length_map] at hp
  have hpos:0<ss.length:=by omega
  obtain⟨b,off,spot⟩:=a
  have hspot:spot=none:=by simpa [Addr.add] using World.cell?_spot (hcell 0 hpos)
  subst hspot
  refine⟨b,off,rfl,hlt (.cell b off) (MemPlace.mem_row.2 ⟨0,by omega,by simp⟩),fun j x hx i y hy=>?_⟩
  rw[List.getElem?_map,Option.map_eq_some_iff] at hx
  obtain⟨n,hn,rfl⟩:=hx
  rw[List.getElem?_take] at hn
  split at hn
  ·have hj:=(List.getElem?_eq_some_iff.1 hn).1
   have hi:i=0:=by have:=(List.getElem?_eq_some_iff.1 hy).1; simpa using this
   subst hi
   have hv:Value.int .i64 n=y:=by simpa using hy
   rw[←hv]
   have:=hcell j hj
   rw[add_plain] at this
   rw[Nat.mul_one,Nat.add_zero,this]
   simp[List.getD,hn]
  ·cases hn
end
/-- A write or a cut: which file, where, its bytes, its picks. -/
structure Do4 where
 second:Bool
 off:Int
 data:ByteArray
 picks:Value
instance:Inhabited Do4:=⟨⟨false,0,⟨#[]⟩,.slice none 0 0⟩⟩
def doC (x:Do4):List Value:=[.bool x.second,.int .i64 x.off,.string x.data,x.picks]
structure Do4.In (W:World) (x:Do4):Prop where
 off:(Lit.int .i64 x.off).wf=true
 data:x.data.size≤maxLen
 picks:∃P,Ints W x.picks P
def DosAt (w:World) (v:Value) (l:List Do4):Prop:=RowAt w v 4 (l.map doC)∧∀x∈l,x.In w
section
variable {H:Type} {enc:TypeId×Value→H} {W:World}
theorem do_read {fuel:Nat} {cs:List Value} {d:DataW H} {ps:List MemPlace} (h:DataW.trod enc Tryz.prog W 0 (fun _=>true) true fuel 60 cs=some (d,ps)) (hlt:∀x∈ps,x.block<W.heap.size) :
 ∃x:Do4,cs=doC x∧x.In W:=by
 obtain⟨xs,n,rfl,hx,hcl,hxl,hf⟩:=DataW.trod_struct Tryz.underlying60 h
 rw[show Tryz.prog.cellsOf 60=4 by kernel_rfl] at hcl
 match xs,hxl,cs,hcl with
 | [x0,x1,x2,x3],_,[c0,c1,c2,c3],_=>
   have e0:Tryz.prog.cellsOf 4=1:=by kernel_rfl
   have e1:Tryz.prog.cellsOf 3=1:=by kernel_rfl
   have e2:Tryz.prog.cellsOf 9=1:=by kernel_rfl
   have e3:Tryz.prog.cellsOf 58=1:=by kernel_rfl
   have t0:DataW.trod enc Tryz.prog W 0 (fun _=>true) true n 4 (List.take (Tryz.prog.cellsOf 4) (List.drop 0 [c0,c1,c2,c3]))=some x0:=hf 0 _ rfl
   have t1:DataW.trod enc Tryz.prog W 0 (fun _=>true) true n 3 (List.take (Tryz.prog.cellsOf 3) (List.drop 1 [c0,c1,c2,c3]))=some x1:=hf 1 _ rfl
   have t2:DataW.trod enc Tryz.prog W 0 (fun _=>true) true n 9 (List.take (Tryz.prog.cellsOf 9) (List.drop 2 [c0,c1,c2,c3]))=some x2:=hf 2 _ rfl
   have t3:DataW.trod enc Tryz.prog W 0 (fun _=>true) true n 58 (List.take (Tryz.prog.cellsOf 58) (List.drop 3 [c0,c1,c2,c3]))=some x3:=hf 3 _ rfl
   rw[e0] at t0
   rw[e1] at t1
   rw[e2] at t2
   rw[e3] at t3
   obtain⟨b0,h0,rfl⟩:=DataW.trod_bool Tryz.underlying4 t0
   obtain⟨n1,h1,rfl,f1⟩:=DataW.trod_int Tryz.underlying3 t1
   obtain⟨s2,h2,rfl,f2⟩:=DataW.trod_string Tryz.underlying9 t2
   obtain⟨d3,p3⟩:=x3
   simp only[Prod.mk.injEq] at hx
   obtain⟨rfl,rfl⟩:=hx
   obtain⟨P,v3,h3,hP⟩:=ints_read t3 (fun x hx=>hlt x (by simp[hx]))
   cases h0; cases h1; cases h2; cases h3
   exact⟨⟨b0,n1,s2,c3⟩,rfl,f1,f2,P,hP⟩
theorem open_dos {base:Nat} {v:Value} {d:DataW H} {ps:List MemPlace} (hval:Value.okWide Tryz.prog W .any base 51 v)
 (h:DataW.Trod enc Tryz.prog W 0 (fun _=>true) true 51 v d ps) (hlt:∀x∈ps,x.block<W.heap.size):∃l,DosAt W v l:=by
 obtain⟨a0,len,cap,rfl⟩:=okWide_slice Tryz.underlying51 hval
 obtain⟨fuel,hf⟩:=h
 rcases open_slice Tryz.underlying51 hf with ⟨hcs,hx⟩ | ⟨a,len',cap',m,n,D,Pl,hcs,_,hl,hm,hmm,hx,hi⟩
 ·simp[Value.cells] at hcs
  obtain⟨rfl,rfl,rfl⟩:=hcs
  exact⟨[],RowAt.void W 4,by simp⟩
 ·simp[Value.cells] at hcs
  obtain⟨rfl,rfl,rfl⟩:=hcs
  simp only[Prod.mk.injEq] at hx
  obtain⟨rfl,rfl⟩:=hx
  simp only[if_true] at hmm
  have e4:Tryz.prog.cellsOf 60=4:=by kernel_rfl
  rw[e4] at hi hlt
  have hspot:0<m→a.spot=none:=fun h0=>by
   obtain⟨cs',hc,_⟩:=hi 0 h0
   obtain⟨_,hcl,hat⟩:=World.cells?_some hc
   have h1:=hat 0 (by omega)
   simpa [Addr.add] using World.cell?_spot (h1.trans (List.getElem?_eq_getElem (by rw[hcl]; omega)))
  obtain⟨b,off,spot⟩:=a
  obtain⟨X,hX⟩:=choose_lt (α:=Do4) (n:=len) (p:=fun i x=>spot=none∧(∀(k:Nat) (y:Value),(doC x)[k]? = some y→W.cell? ⟨b,off+i*4+k,none⟩=some y)∧x.In W) (fun i hil=>by
   obtain⟨cs',hc,ht⟩:=hi i (by omega)
   obtain⟨x,rfl,hG⟩:=do_read ht (fun p hp=>hlt p (List.mem_append_right _ (List.mem_flatMap.2 ⟨i,List.mem_range.2 (by omega),hp⟩)))
   obtain⟨_,hcl,hat⟩:=World.cells?_some hc
   have hspot:spot=none:=hspot (by omega)
   subst hspot
   refine⟨x,rfl,fun k y hy=>?_,hG⟩
   have hk:k<4:=(List.getElem?_eq_some_iff.1 hy).1
   have h2:=hat k hk
   rw[add_plain,add_plain] at h2
   rw[h2]
   exact hy)
  refine⟨(List.range len).map X,⟨some ⟨b,off,spot⟩,cap,by simp,by simpa using hl,hm,fun hp=>?_⟩,fun x hx=>?_⟩
  ·have hpos:0<len:=by simpa using hp
   obtain⟨rfl,_⟩:=hX 0 hpos
   refine⟨b,off,rfl,hlt (.cell b off) (List.mem_append_left _ (MemPlace.mem_row.2 ⟨0,by show 0<m*4; omega,by simp⟩)),fun k x hx i y hy=>?_⟩
   rw[List.getElem?_map,Option.map_eq_some_iff] at hx
   obtain⟨z,hz,rfl⟩:=hx
   rw[List.getElem?_map,Option.map_eq_some_iff] at hz
   obtain⟨j,hj,rfl⟩:=hz
   have hjj:=List.getElem?_eq_some_iff.1 hj
   have hkl:k<len:=by simpa using hjj.1
   have:j=k:=by simpa using hjj.2.symm
   subst this
   exact(hX j hkl).2.1 i y hy
  ·obtain⟨i,hi',rfl⟩:=List.mem_map.1 hx
   exact(hX i (List.mem_range.1 hi')).2.2
end
