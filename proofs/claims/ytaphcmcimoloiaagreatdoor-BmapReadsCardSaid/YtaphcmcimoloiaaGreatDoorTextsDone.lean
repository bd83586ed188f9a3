/-
 Layer 16's laws: one write or cut of two texts.
-/
import Derived.Test.YtaphcmcimoloiaaGreatDoorTextsMem
namespace Go.Proofs.YtaphcmcimoloiaaGreatDoor
open Go Go.RowKit Txt Sp
def DonePost (w:World) (g:Sp.Geom) (S:Sp.Side) (B Bd tb m:Nat) (D:Nat→Prop) (wr:World) (e:Ending) (w':World):Prop:=
 e = .returned (.bool true)∧∃S' D' t0 t1,TMem w B Bd tb S' D' t0 t1 w'∧Texts2 g S' t0 t1 (m+1)∧(∃K,(∀j,K j→D j∨j=tb)∧Turn K wr w')∧(∀j,D' j→D j∨wr.heap.size≤j)∧S'.disk=S.disk
def doV (k:Bool) (off:Int) (x:ByteArray) (p:Value):Value:=.agg #[.bool k,.int .i64 off,.string x,p]
theorem setRow_turn {w:World} {g:Nat} {cs:Array Value}:Turn (fun j=>j=g) w (w.setRow g cs):=
 ⟨rfl,rfl,rfl,by unfold World.setRow; simp,fun j hj hne=>by unfold World.setRow; simp [Array.getElem?_modify,Ne.symm hne]⟩
theorem done_end {w wr w2 w3 W5:World} {g:Sp.Geom} {B Bd tb m b:Nat} {S S':Sp.Side} {D:Nat→Prop} {t0 t1 T:List UInt8} {k:Bool} (h:TMem w B Bd tb S D t0 t1 wr) (hb2:Below wr.heap.size wr w2) (hs:SideTo w2 0 B Bd S' D w3)
 (ht:Texts2 g S' (if k then t0 else T) (if k then T else t1) (m+1)) (hdk:S'.disk=S.disk) (hb5:Below w3.heap.size w3 W5) (hz:W5.heap[b]? = some (bytesO T 5 (0,0))) (hbw:w3.heap.size≤b) :
 (∃y,W5.cell? ⟨tb,if k then 1 else 0,none⟩=some y)∧W5.frozen? ⟨tb,if k then 1 else 0,none⟩=false∧DonePost w g S B Bd tb m D wr (.returned (.bool true)) (W5.setCell ⟨tb,if k then 1 else 0,none⟩ (.slice (some ⟨b,0,none⟩) T.length T.length)):=by
 have h2:=h.below hb2
 have h3:=h2.sideTo hs
 have h5:=h3.below hb5
 have hs23:w2.heap.size≤w3.heap.size:=hs.2.elim (fun K hK=>hK.2.size)
 have hlo:w.heap.size≤b:=by have:=h.tlt; have:=h.tlo; have:=hb2.size; omega
 obtain ⟨q1,q2,q3,q4⟩:=h5.put hz hlo (fun hd=>by
  rcases hd with hd | hd
  ·have:=h2.lt b hd; omega
  ·omega) k
 obtain ⟨-,K,hK,hT⟩:=hs
 refine ⟨q1,q2,rfl,S',_,_,_,q3,ht,⟨fun j=>D j∨j=tb,fun j hj=>hj,?_⟩,fun j hj=>hj.imp_right (fun hh=>by have:=hb2.size; omega),hdk⟩
 have ta:Turn (fun j=>D j∨j=tb) wr w3:=(Turn.of_below (K:=fun _=>False) hb2).trans hT (fun _ _ h=>h.elim) (fun j _ h=>Or.inl (hK j h))
 have tb':Turn (fun j=>D j∨j=tb) wr W5:=ta.trans (Turn.of_below (K:=fun _=>False) hb5) (fun _ _ h=>h) (fun _ _ h=>h.elim)
 exact tb'.trans q4 (fun _ _ h=>h) (fun _ _ h=>Or.inr h)
theorem TMem.read {w wr:World} {B Bd tb:Nat} {S:Sp.Side} {D:Nat→Prop} {t0 t1:List UInt8} (h:TMem w B Bd tb S D t0 t1 wr) (k:Bool):∃ad:Option Addr,wr.cell? ⟨tb,if k then 1 else 0,none⟩=some (.slice ad (if k then t1 else t0).length (if k then t1 else t0).length)∧TxtV wr w.heap.size D (.slice ad (if k then t1 else t0).length (if k then t1 else t0).length) (if k then t1 else t0):=by
 obtain ⟨v0,v1,h1,h2,h3⟩:=h.txt
 cases k with
 | false=>
   obtain ⟨ad,e⟩:=h2.form
   subst e
   exact ⟨ad,cellOf (k:=0) h1 rfl,h2⟩
 | true=>
   obtain ⟨ad,e⟩:=h3.form
   subst e
   exact ⟨ad,cellOf (k:=1) h1 rfl,h3⟩
section
set_option maxHeartbeats 8000000
set_option maxRecDepth 20000 in
theorem doneCut_any {w wr:World} {g:Sp.Geom} {B Bd tb m:Nat} {S:Sp.Side} {D:Nat→Prop} {t0 t1:List UInt8} (hg:g.ok) (h3:3≤g.inodes) (h:TMem w B Bd tb S D t0 t1 wr) (ht:Texts2 g S t0 t1 m) (hm:m<12) (k:Bool) (off:Int) (p:Value) :
 Calls Tryz.prog 40 #[.pointer (some ⟨tb,0,none⟩),pt B,gV g,doV k off ⟨#[]⟩ p] wr (DonePost w g S B Bd tb m D wr):=by
 have ham:=fun W:World=>amongJ_any W off 2400 (by decide) (by decide)
 obtain ⟨ha0,ha1⟩:=amongJ_bd off 2400 (by decide)
 obtain ⟨z,hz⟩:∃z:Nat,amongJ off 2400=(z:Int):=⟨(amongJ off 2400).toNat,by omega⟩
 rw [hz] at ham ha0 ha1
 simp only [show ((2400:Nat):Int)=2400 from rfl] at ham
 have hz2:z≤2400:=by omega
 obtain ⟨S',ht',hdk,hcut⟩:=texts_cutC hg h3 ht hm k z (by omega)
 have hll:=(texts_last ht (by omega)).2
 obtain ⟨ga,gb,gc⟩:=g
 obtain ⟨W0,hW0⟩:∃W,(wr.alloc (.cells #[.int .i64 ga,.int .i64 gb,.int .i64 gc] 27)).alloc (.cells #[.bool k,.int .i64 off,.string ⟨#[]⟩,p] 83)=W:=⟨_,rfl⟩
 have hb0:Below wr.heap.size wr W0:=by rw [←hW0]; exact bl1 (bl2 _) _
 have hgb:W0.heap[wr.heap.size]? = some (.cells #[.int .i64 ga,.int .i64 gb,.int .i64 gc] 27 (0,0)):=by
  rw [←hW0]
  exact heapOld (bl2 _) (heapNew wr _)
 have hxb:W0.heap[wr.heap.size+1]? = some (.cells #[.bool k,.int .i64 off,.string ⟨#[]⟩,p] 83 (0,0)):=by
  have:=heapNew (wr.alloc (.cells #[.int .i64 ga,.int .i64 gb,.int .i64 gc] 27)) (.cells #[.bool k,.int .i64 off,.string ⟨#[]⟩,p] 83)
  rw [hW0] at this
  simpa using this
 have h0:=h.below hb0
 have hfk:=softFork_any h0.side (by omega)
 have HB0:=Lib.hid hb0
 have HG:Hid (∀W,Below W0.heap.size W0 W→W.cell? ⟨wr.heap.size,0,none⟩=some (.int .i64 ga)∧W.cell? ⟨wr.heap.size,1,none⟩=some (.int .i64 gb)∧W.cell? ⟨wr.heap.size,2,none⟩=some (.int .i64 gc)):=fun W hW=>
  have hh:=heapOld hW hgb
  ⟨cellOf (k:=0) hh rfl,cellOf (k:=1) hh rfl,cellOf (k:=2) hh rfl⟩
 have x0:W0.cell? ⟨wr.heap.size+1,0,none⟩=some (.bool k):=cellOf (k:=0) hxb rfl
 have x1:W0.cell? ⟨wr.heap.size+1,1,none⟩=some (.int .i64 off):=cellOf (k:=1) hxb rfl
 have x2:W0.cell? ⟨wr.heap.size+1,2,none⟩=some (.string ⟨#[]⟩):=cellOf (k:=2) hxb rfl
 have hcutF:=fun (W:World) (B':Nat) (D':Nat→Prop) (hs:SideAt W W0.heap.size B' Bd S D') (hl:∀j,D' j→W0.heap.size≤j∧j<W.heap.size) (hb:Below W0.heap.size W0 W)=>
  (hcut W W0.heap.size B' Bd D' hs (fun j hj=>(hl j hj).2)).mono (fun e w' hp=>(by
    obtain ⟨v,he,hs2,K,hK,hT⟩:=hp
    exact ⟨v,he,hb.trans (hT.below (fun j hj=>(hl j (hK j hj)).1) hb.size)⟩:∃v,e = .returned (.tuple #[v,.int .i64 0])∧Below W0.heap.size W0 w'))
 have hcutS:=fun (W:World) (hb:Below W0.heap.size W0 W)=>hcut W 0 B Bd D (h0.below hb).side (h0.below hb).lt
 obtain ⟨Tk,hTk⟩:∃T,(if k then t1 else t0)=T:=⟨_,rfl⟩
 have ht2:Texts2 ⟨ga,gb,gc⟩ S' (if k then t0 else cutT Tk z) (if k then cutT Tk z else t1) (m+1):=by
  rw [←hTk]
  cases k with
  | false=>exact ht'
  | true=>exact ht'
 have HEnd:Hid (∀w2 w3,Below W0.heap.size W0 w2→SideTo w2 0 B Bd S' D w3→∃W4 W5 ad q,(Instr.makeSlice 53 (.int .i64 (z:Int)) (.int .i64 (z:Int))).run Tryz.prog w3 = .ok (.slice (some ⟨w3.heap.size,0,none⟩) z z) W4 ∧
  W4.cell? ⟨tb,if k then 1 else 0,none⟩=some (.slice ad Tk.length Tk.length)∧(Builtin.copy_ #[53,53] 3 #[.slice (some ⟨w3.heap.size,0,none⟩) z z,.slice ad Tk.length Tk.length]).run Tryz.prog W4 = .ok (goInt (q:Nat)) W5 ∧
  (∃y,W5.cell? ⟨tb,if k then 1 else 0,none⟩=some y)∧W5.frozen? ⟨tb,if k then 1 else 0,none⟩=false∧DonePost w ⟨ga,gb,gc⟩ S B Bd tb m D wr (.returned (.bool true)) (W5.setCell ⟨tb,if k then 1 else 0,none⟩ (.slice (some ⟨w3.heap.size,0,none⟩) z z))):=by
  intro w2 w3 hb hs
  have hbr:=blN hb0 hb
  obtain ⟨ia,ib,ic,id,ie⟩:=info_parts infoU8
  have hmk:=run_make_bytes (P:=Tryz.prog) w3 Tryz.underlying53 ib ic id ie z (by omega)
  have h4:=((h.below hbr).sideTo hs).below (bl2 (bytesO (zeros z) 5 (0,0)))
  obtain ⟨ad,hc,htx⟩:=h4.read k
  rw [hTk] at hc htx
  obtain ⟨q,hcp⟩:=htx.copy (heapNew w3 _) 3 z
  have hT5:Turn (fun j=>j=w3.heap.size) (w3.alloc (bytesO (zeros z) 5 (0,0))) ((w3.alloc (bytesO (zeros z) 5 (0,0))).setRow w3.heap.size (bytesV (cutT Tk z)).toArray):=setRow_turn
  have hb5:Below w3.heap.size w3 ((w3.alloc (bytesO (zeros z) 5 (0,0))).setRow w3.heap.size (bytesV (cutT Tk z)).toArray):=(bl2 _).trans (hT5.below (fun j e=>Nat.le_of_eq (by have e:j=w3.heap.size:=e; exact e.symm)) (by simp))
  have hz5:((w3.alloc (bytesO (zeros z) 5 (0,0))).setRow w3.heap.size (bytesV (cutT Tk z)).toArray).heap[w3.heap.size]? = some (bytesO (cutT Tk z) 5 (0,0)):=setRow_bytes (heapNew w3 _) _
  have hend:=done_end h hbr hs ht2 hdk hb5 hz5 (Nat.le_refl _)
  rw [cutT_length] at hend
  exact ⟨_,_,ad,q,hmk,hc,hcp,hend⟩
 obtain ⟨dp,hdp⟩:∃z,DonePost w ⟨ga,gb,gc⟩ S B Bd tb m D wr=z:=⟨_,rfl⟩
 rw [hdp] at HEnd ⊢
 unfold gV at hcutF hcutS ⊢
 unfold pt doV at *
 dsimp only at hcutF hcutS
 have HAM:=Lib.hid ham
 have HFK:=Lib.hid hfk
 have HCUTF:=Lib.hid hcutF
 have HCUTS:=Lib.hid hcutS
 clear ham hfk hcutF hcutS
 clear h hg h3 ht hm ht' hdk hcut hll hb0 hgb hxb h0 ha0 ha1 hz hTk ht2 hdp
 have k0:=(HG.out W0 (Below.refl _ _))
 cases k with
 | false=>
   simp only [noK,Bool.false_eq_true,if_false] at HEnd HCUTF HCUTS
   go_enter Tryz.func40,Tryz.ntmps40
   go_wp2_with fail
   refine (HAM.out _).mono ?_
   rintro e w1 ⟨rfl,hw1⟩
   replace hw1:=hw1.symm
   subst hw1
   go_wp2_with fail
   clear x0 x1 x2 hW0
   refine HFK.out.mono ?_
   rintro e w2 ⟨B',D',rfl,hs2,hb2,hl2⟩
   have hcf:=HCUTF.out w2 B' D' hs2 hl2 hb2
   obtain ⟨z0,z1,z2⟩:=HG.out w2 hb2
   have HCF:=Lib.hid hcf
   clear hcf hs2 hb2 hl2 HCUTF HFK
   go_wp2_with fail
   clear z0 z1 z2
   refine HCF.out.mono ?_
   rintro e w3 ⟨v3,rfl,hb3⟩
   obtain ⟨z0,z1,z2⟩:=HG.out w3 hb3
   have HCS:=Lib.hid (HCUTS.out w3 hb3)
   have HB3:=Lib.hid hb3
   clear hb3 HCF HCUTS
   go_wp2_with fail
   clear z0 z1 z2
   refine HCS.out.mono ?_
   rintro e w4 ⟨v4,rfl,hs4⟩
   obtain ⟨W4,W5,ad,q,hmk,hc,hcp,⟨y,hy⟩,hfz,hfin⟩:=HEnd.out w3 w4 HB3.out hs4
   have HFin:=Lib.hid hfin
   clear hs4 hfin HCS HEnd HB3 HG HAM HB0
   go_wp2_with fail
   exact HFin.out
 | true=>
   simp only [noK,if_true] at HEnd HCUTF HCUTS
   go_enter Tryz.func40,Tryz.ntmps40
   go_wp2_with fail
   refine (HAM.out _).mono ?_
   rintro e w1 ⟨rfl,hw1⟩
   replace hw1:=hw1.symm
   subst hw1
   go_wp2_with fail
   clear x0 x1 x2 hW0
   refine HFK.out.mono ?_
   rintro e w2 ⟨B',D',rfl,hs2,hb2,hl2⟩
   have hcf:=HCUTF.out w2 B' D' hs2 hl2 hb2
   obtain ⟨z0,z1,z2⟩:=HG.out w2 hb2
   have HCF:=Lib.hid hcf
   clear hcf hs2 hb2 hl2 HCUTF HFK
   go_wp2_with fail
   clear z0 z1 z2
   refine HCF.out.mono ?_
   rintro e w3 ⟨v3,rfl,hb3⟩
   obtain ⟨z0,z1,z2⟩:=HG.out w3 hb3
   have HCS:=Lib.hid (HCUTS.out w3 hb3)
   have HB3:=Lib.hid hb3
   clear hb3 HCF HCUTS
   go_wp2_with fail
   clear z0 z1 z2
   refine HCS.out.mono ?_
   rintro e w4 ⟨v4,rfl,hs4⟩
   obtain ⟨W4,W5,ad,q,hmk,hc,hcp,⟨y,hy⟩,hfz,hfin⟩:=HEnd.out w3 w4 HB3.out hs4
   have HFin:=Lib.hid hfin
   clear hs4 hfin HCS HEnd HB3 HG HAM HB0
   go_wp2_with fail
   exact HFin.out
end
end Go.Proofs.YtaphcmcimoloiaaGreatDoor
