/-
 AllC: AmongDet,AllocLaid.
-/
import Derived.Test.YtaphcmcimoloiaaGreatDoorDirCalls
set_option maxRecDepth 20000
set_option maxHeartbeats 4000000
namespace Go.Proofs.YtaphcmcimoloiaaGreatDoor
open Go Go.RowKit
def q172z (x:Int) (n:Nat):Int:=(x.tmod (n:Int)+n).tmod n
theorem amongJ_bd (x:Int) (n:Nat) (h0:0<n):0≤q172z x n∧q172z x n<n:=by
 have h2:-(n:Int)<x.tmod (n:Int):=Int.lt_tmod_of_pos x (by omega)
 exact⟨Int.tmod_nonneg _ (by omega),Int.tmod_lt_of_pos _ (by omega)⟩
theorem amongJ_any (w:World) (x:Int) (n:Nat) (h0:0<n) (hn:n≤4000000000) :
 Calls Tryz.prog 27 #[.int .i64 x,.int .i64 n] w fun e w'=>e = .returned (.int .i64 (q172z x n))∧w' = w:=by
 have h1:x.tmod (n:Int)<n:=Int.tmod_lt_of_pos x (by omega)
 have h2:-(n:Int)<x.tmod (n:Int):=Int.lt_tmod_of_pos x (by omega)
 have hw:wrap64 (x.tmod (n:Int)+n)=x.tmod (n:Int)+n:=IntWalk.wrap64_in _ ⟨by omega,by omega⟩
 have HY:Hid ((wrap64 (x.tmod (n:Int)+n)).tmod n=q172z x n):=by show(wrap64 (x.tmod (n:Int)+n)).tmod n=_; rw[hw]; rfl
 clear h1 h2 hw
 go_enter Tryz.func27,Tryz.ntmps27
 go_wp2
 go_ret
 rw[HY.out]
 exact⟨rfl,rfl⟩
end Go.Proofs.YtaphcmcimoloiaaGreatDoor
namespace Go.Proofs.YtaphcmcimoloiaaGreatDoor
open Go Go.RowKit Txt Sp
section
end
section
theorem laid17_any (w:World) {g:Sp.Geom} (hg:g.ok):Calls Tryz.prog 33 #[gV g] w fun e w'=>
 ∃base B Bd D,e = .returned (.tuple #[pt Bd,pt B])∧SideAt w' base B Bd (q9z g 0 0) D∧Below w.heap.size w w'∧∀j,D j→w.heap.size≤j∧j<w'.heap.size:=by
 have hsz:=fun W:World=>gsize_any W g
 have hz:=Geom.size_bd hg
 obtain⟨N,hN⟩:∃N:Nat,g.size=(N:Int):=⟨g.size.toNat,by omega⟩
 rw[hN] at hsz hz
 have hnew:=fun W:World=>diskNew_any W N (by omega) (by omega)
 have hlay:=fun(W:World) (base Bd:Nat) (D:Nat→Prop) (h:DiskAt W base Bd (q71z N) D) (hD:∀j,D j→j<W.heap.size)=>alay_any h hD hg (by rw[hN]; simp[q71z])
 have hsoft:=fun(W:World) (base Bd:Nat) (D:Nat→Prop) (h:DiskAt W base Bd { q71z N with l:=q26z g } D) (hb:base≤W.heap.size) (hdl:∀j,D j→j<W.heap.size)=>softNew_any h hb hdl 0 0 ⟨by decide,by decide⟩ ⟨by decide,by decide⟩
 have heq:=q88z
 have hfr:(⟨{ q71z N with l:=q26z g },⟨[],0⟩,0,0,[]⟩:Sp.Side)=q9z g 0 0:=rfl
 rw[hfr] at hsoft
 obtain⟨S,hS⟩:∃S,q9z g 0 0=S:=⟨_,rfl⟩
 rw[hS] at hsoft ⊢
 obtain⟨dN,hdN⟩:∃d,q71z N=d:=⟨_,rfl⟩
 rw[hdN] at hnew hlay hsoft
 obtain⟨dF,hdF⟩:∃d:Sp.Disk,{ dN with l:=q26z g } = d:=⟨_,rfl⟩
 rw[hdF] at hlay hsoft
 obtain⟨ga,gb,gc⟩:=g
 unfold gV at hsz hlay ⊢
 unfold pt at *
 obtain⟨W0,hW0⟩:∃W,w.alloc (.cells #[.int .i64 ga,.int .i64 gb,.int .i64 gc] 27)=W:=⟨_,rfl⟩
 have hk:=q34z hW0
 have HB0:=Lib.hid hk.1
 have HK:=Lib.hid hk.2
 clear hk
 have HSZ:=Lib.hid hsz
 have HNEW:=Lib.hid hnew
 have HLAY:=Lib.hid hlay
 have HSOFT:=Lib.hid hsoft
 clear hsz hnew hlay hsoft
 clear hg hz hN hfr hS hdN hdF
 obtain⟨z0,z1,z2⟩:=HK.out W0 (Below.refl _ _)
 go_enter Tryz.func33,Tryz.ntmps33
 go_wp2_with fail
 clear z0 z1 z2
 refine(HSZ.out _).mono ?_
 rintro e w1 ⟨rfl,hb1⟩
 have HB1:=Lib.hid hb1
 clear hb1
 go_wp2_with fail
 refine(HNEW.out _).mono ?_
 rintro e w2 ⟨Bd,D,rfl,hd2,hb2,hD2⟩
 have HB2:=Lib.hid (blN HB1.out hb2)
 have HX2:=Lib.hid hb2.size
 have HDA:=Lib.hid hd2
 have HDB:=Lib.hid hD2
 have hl2:=HLAY.out w2 _ Bd D hd2 (fun j hj=>(hD2 j hj).2)
 have HL2:=Lib.hid hl2
 clear hl2
 clear hb2 hd2 hD2
 obtain⟨z0,z1,z2⟩:=HK.out w2 HB2.out
 go_wp2_with fail
 clear z0 z1 z2
 refine HL2.out.mono ?_
 rintro e w3 ⟨rfl,hd3,K3,hK3,hT3⟩
 have hs2:=HB2.out.size
 have hs0:=HB0.out.size
 have hs1:=HB1.out.size
 have HB3:Hid (Below w.heap.size w w3):=(blN HB0.out HB2.out).trans (hT3.below (fun j hj=>by have:=(HDB.out j (hK3 j hj)).1; omega) (by omega))
 have HS3:Hid (w2.heap.size≤w3.heap.size):=hT3.size
 have hs3:=HS3.out
 have hso:=HSOFT.out w3 _ Bd D hd3 (by have:=HX2.out; omega) (fun j hj=>by have:=HDB.out j hj; omega)
 have HSO:=Lib.hid hso
 clear hso
 clear hd3 hK3 hT3 hs2 hs0 hs1 hs3
 go_wp2_with fail
 refine HSO.out.mono ?_
 rintro e w4 ⟨B,D',rfl,hsa,hb4,hD4⟩
 have HF:Hid (∃base B' Bd' D,Ending.returned (.tuple #[.pointer (some ⟨Bd,0,none⟩),.pointer (some ⟨B,0,none⟩)])=Ending.returned (.tuple #[.pointer (some ⟨Bd',0,none⟩),.pointer (some ⟨B',0,none⟩)])∧SideAt w4 base B' Bd' S D∧Below w.heap.size w w4∧∀j,D j→w.heap.size≤j∧j<w4.heap.size):=by
  have h3:=HB3.out.size
  have h4:=hb4.size
  have h0:=HB0.out.size
  have h1:=HB1.out.size
  have h23:=HS3.out
  refine⟨_,B,Bd,D',rfl,hsa,blN HB3.out hb4,fun j hj=>?_⟩
  rcases hD4 j hj with h | h
  ·have:=HDB.out j h
   omega
  ·omega
 clear hsa hb4 hD4
 go_wp2
 go_ret2
 exact HF.out
end
/-- What a law's round finds in memory: since w nothing turned but the box of a geometry and a side. -/
structure DMem (w:World) (base B Bd:Nat) (g:Sp.Geom) (S:Sp.Side) (D:Nat→Prop) (wr:World):Prop where
 side:SideAt wr base B Bd S D
 lt:∀j,D j→j<wr.heap.size
 low:∀j,D j→w.heap.size<j
 box:wr.heap[w.heap.size]? = some (.cells #[.int .i64 g.groups,.int .i64 g.inodes,.int .i64 g.blocks] 27 (0,0))
 bel:Below w.heap.size w wr
section
variable {w wr wr':World} {g:Sp.Geom} {base B Bd:Nat} {S S':Sp.Side} {D:Nat→Prop}
theorem DMem.lo (h:DMem w base B Bd g S D wr):w.heap.size<wr.heap.size:=(Array.getElem?_eq_some_iff.1 h.box).1
theorem DMem.below (h:DMem w base B Bd g S D wr) (hb:Below wr.heap.size wr wr'):DMem w base B Bd g S D wr':=
 ⟨h.side.below hb,fun j hj=>Nat.lt_of_lt_of_le (h.lt j hj) hb.size,h.low,q1z hb h.box,blN h.bel hb⟩
theorem DMem.belowT (h:DMem w base B Bd g S D wr) (hT:Turn D wr wr'):Below w.heap.size w wr':=
 h.bel.trans (hT.below (fun j hj=>Nat.le_of_lt (h.low j hj)) (Nat.le_of_lt h.lo))
theorem DMem.to (h:DMem w base B Bd g S D wr) (hs:q15z wr base B Bd S' D wr'):DMem w base B Bd g S' (fun j=>D j∨(wr.heap.size≤j∧j<wr'.heap.size)) wr':=by
 obtain⟨hs1,K,hK,hT⟩:=hs
 have hsz:=hT.size
 have hlo:=h.lo
 refine⟨hs1,fun j hj=>?_,fun j hj=>?_,hT.heap h.box (fun hk=>by have:=h.low _ (hK _ hk); omega),h.belowT (hT.mono (fun j _ hj=>hK j hj))⟩
 ·rcases hj with hj | hj
  ·have:=h.lt j hj; omega
  ·exact hj.2
 ·rcases hj with hj | hj
  ·exact h.low j hj
  ·omega
theorem DMem.max (h:DMem w base B Bd g S D wr) (hm:MaxOk w):MaxOk wr:=hm.below h.bel
theorem DMem.maxT (h:DMem w base B Bd g S D wr) (hm:MaxOk w):∀W',Turn D wr W'→MaxOk W':=fun _ hT=>hm.below (h.belowT hT)
end
theorem ints_lone {W:World} {b:Nat} {k:Int} (h:W.heap[b]? = some (.cells #[.int .i64 k] 3 (0,0))):Ints W (.slice (some ⟨b,0,none⟩) 1 1) [k]:=
 ints_block (o:=0) h (fun j n hj=>by
  match j,hj with
  | 0,hj=>have e:k=n:=by simpa using hj
          rw[←e]; rfl
  | q+1,hj=>simp at hj) (by unfold maxLen; simp) rfl
theorem works17_add {w wr:World} {base B Bd:Nat} {D:Nat→Prop} (hM:DMem w base B Bd ⟨1,4,4⟩ (q9z ⟨1,4,4⟩ 0 0) D wr) (hm:MaxOk w) (vk:Value) (hv:∀W,Turn D wr W→Ints W vk [0]) :
 Calls Tryz.prog 36 #[pt B,gV ⟨1,4,4⟩,.int .i64 1,eV ⟨2,⟨#[102]⟩⟩,vk,.slice none 0 0] wr fun e w'=>∃v L S' D',e = .returned (.tuple #[v,.int .i64 0])∧OwnR 3 1 intC wr.heap.size w' v L∧L.length=5∧DMem w base B Bd ⟨1,4,4⟩ S' D' w'∧wr.heap.size≤w'.heap.size ∧
  ∀W,DMem w base B Bd ⟨1,4,4⟩ S' D' W→Calls Tryz.prog 38 #[pt B,gV ⟨1,4,4⟩,.int .i64 1,.string ⟨#[102]⟩] W fun e w'=>∃y:Ent,y.inode=2∧y.slot=0∧e = .returned (.tuple #[q52z (some y),.int .i64 0])∧Below W.heap.size W w':=by
 have hg:(⟨1,4,4⟩:Sp.Geom).ok:=by decide
 have hd:=q152z (g:=⟨1,4,4⟩) (node:=0) (epoch:=0) hg
 have hp0:q6z (ents (q9z ⟨1,4,4⟩ 0 0).read rootF)=[]:=rfl
 refine(add_law hM.side hM.lt hd hg (by decide) (by decide) (by decide) (hM.max hm) (hM.maxT hm) ⟨2,⟨#[102]⟩⟩ (by decide) vk [0] hv (by decide) (by decide) (fun _=>⟨by decide,by decide⟩)).mono ?_
 rintro e w' ⟨v,c,rfl,S',F',Y',r',q',hs,hd',hr',h⟩
 rcases h with ⟨-,hno,-⟩ | ⟨-,-,-,hin,-⟩ | ⟨rfl,-,-,-,hpm,L,hL,h⟩
 ·exact absurd (by decide) hno
 ·rw[hp0] at hin
  exact absurd hin (by simp)
 ·rw[hp0] at hpm h
  rcases h with ⟨-,-,-,hlt⟩ | ⟨-,-,hL5,-,hsl⟩
  ·exact absurd hlt (by decide)
  ·refine⟨v,L,S',_,rfl,hL,hL5,hM.to hs,hs.2.elim (fun K hK=>hK.2.size),fun W hW=>?_⟩
   have hnb:nameB ⟨#[102]⟩=true:=by decide
   refine(find_law hW.side hd' hg (by decide) (by decide) (hW.max hm) ⟨#[102]⟩ (by decide)).mono ?_
   rintro e W' ⟨c,p,rfl,hb,hc,rfl⟩
   rcases hd'.find hnb with ⟨y,hf,hy,hyn,_,hyp⟩ | ⟨_,hno⟩
   ·have hy2:=hpm.mem_iff.1 hyp
    rw[List.mem_singleton] at hy2
    have hc0:c=0:=by
     rcases hc with hc | hc
     ·exact hc.1
     ·exact absurd (List.mem_map.2 ⟨_,hyp,rfl⟩) hc.2
    refine⟨y,congrArg Prod.snd hy2,hsl y hy hyn,?_,hb⟩
    unfold findR
    rw[if_pos hnb,hf,hc0]
   ·exact absurd (List.mem_map.2 ⟨_,hpm.mem_iff.2 (List.mem_singleton.2 rfl),rfl⟩) hno
section
theorem works17_any (w:World) (hm:MaxOk w):Calls Tryz.prog 34 #[] w fun e w'=>e = .returned (.bool true)∧Below w.heap.size w w':=by
 have hld:=fun W:World=>laid17_any W (g:=⟨1,4,4⟩) (by decide)
 have hadd:=fun(wr:World) (base B Bd:Nat) (D:Nat→Prop) (hM:DMem w base B Bd ⟨1,4,4⟩ (q9z ⟨1,4,4⟩ 0 0) D wr) (vk:Value) (hv:∀W,Turn D wr W→Ints W vk [0])=>works17_add hM hm vk hv
 obtain⟨S0,hS0⟩:∃S,q9z ⟨1,4,4⟩ 0 0=S:=⟨_,rfl⟩
 rw[hS0] at hld hadd
 clear hS0
 have heq:=q88z
 have heq2:=eql_soft_nil
 unfold gV at hld hadd
 unfold pt eV at *
 dsimp only at hld hadd
 have HLD:=Lib.hid hld
 have HADD:=Lib.hid hadd
 clear hld hadd
 go_enter Tryz.func34,Tryz.ntmps34
 obtain⟨W1,hW1⟩:∃W,w.alloc (.cells #[.int .i64 1,.int .i64 4,.int .i64 4] 27)=W:=⟨_,rfl⟩
 have HB1:Hid (Below w.heap.size w W1):=by rw[←hW1]; exact bl2 _
 have HG1:Hid (W1.heap[w.heap.size]? = some (.cells #[.int .i64 1,.int .i64 4,.int .i64 4] 27 (0,0))):=by rw[←hW1]; exact q2z w _
 have HZ1:Hid (w.heap.size<W1.heap.size):=by rw[←hW1]; show _<_; simp
 have z0:=cellOf (k:=0) HG1.out rfl
 have z1:=cellOf (k:=1) HG1.out rfl
 have z2:=cellOf (k:=2) HG1.out rfl
 go_wp2_with fail
 clear z0 z1 z2 hW1
 refine(HLD.out _).mono ?_
 rintro e w2 ⟨base,B,Bd,D,rfl,hs2,hb2,hD2⟩
 have hM2:DMem w base B Bd ⟨1,4,4⟩ S0 D w2:=by
  have hz:=HZ1.out
  exact⟨hs2,fun j hj=>(hD2 j hj).2,fun j hj=>by have:=(hD2 j hj).1; omega,q1z hb2 HG1.out,blN HB1.out hb2⟩
 have HM2:=Lib.hid hM2
 clear hs2 hb2 hD2 HG1 HB1 HZ1
 obtain⟨W3,hW3⟩:∃W,w2.alloc (.cells #[.int .i64 0] 3)=W:=⟨_,rfl⟩
 have hb3:Below w2.heap.size w2 W3:=by rw[←hW3]; exact bl2 _
 have hz3:W3.heap[w2.heap.size]? = some (.cells #[.int .i64 0] 3 (0,0)):=by rw[←hW3]; exact q2z w2 _
 have hM3:=hM2.below hb3
 have hw3:=HADD.out W3 base B Bd D hM3 _ (fun W' hT=>ints_lone (hT.heap hz3 (fun hd=>by have:=hM2.lt _ hd; omega)))
 have HW3:=Lib.hid hw3
 clear hw3
 clear hM2 hb3 hz3 hM3
 have z0:=cellOf (k:=0) HM2.out.box rfl
 have z1:=cellOf (k:=1) HM2.out.box rfl
 have z2:=cellOf (k:=2) HM2.out.box rfl
 go_wp2_with fail
 clear z0 z1 z2 hW3
 refine HW3.out.mono ?_
 rintro e w4 ⟨v,L,S',D',rfl,hL,hL5,hM4,-,hfi⟩
 obtain⟨ad,len,cap,rfl,hlen,hn2,-⟩:=RowAt.facts (OwnR.row (f:=intC) (fun _ _=>rfl) hL)
 have hl5:len=5:=by rw[hlen.out]; exact hL5
 subst hl5
 have HM4:=Lib.hid hM4
 have HFI:=Lib.hid hfi
 clear hfi
 clear hL hL5 hM4 hlen hn2
 have z0:=cellOf (k:=0) HM4.out.box rfl
 have z1:=cellOf (k:=1) HM4.out.box rfl
 have z2:=cellOf (k:=2) HM4.out.box rfl
 go_wp2_with fail
 clear z0 z1 z2
 refine(HFI.out _ HM4.out).mono ?_
 rintro e w5 ⟨y,hy1,hy2,rfl,hb5⟩
 obtain⟨yi,ys,yk,yn⟩:=y
 dsimp only at hy1 hy2
 subst hy1 hy2
 have HF:Hid (Below w.heap.size w w5):=blN HM4.out.bel hb5
 clear hb5
 unfold q52z
 dsimp only
 go_wp2
 go_ret
 exact⟨rfl,bl1 HF.out _⟩
end
end Go.Proofs.YtaphcmcimoloiaaGreatDoor
