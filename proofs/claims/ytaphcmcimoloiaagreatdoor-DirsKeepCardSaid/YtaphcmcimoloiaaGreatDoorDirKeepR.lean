/-
 Layer 17's laws: names: has a directory just these?
-/
import Derived.Test.YtaphcmcimoloiaaGreatDoorDirKeepC
import Derived.Test.YtaphcmcimoloiaaGreatDoorFlush17
set_option maxRecDepth 20000
set_option maxHeartbeats 8000000
namespace Go.Proofs.YtaphcmcimoloiaaGreatDoor
open Go Go.RowKit Txt Sp
def entC (x:Sp.Entry):List Value:=[.int .i64 x.inode,.string x.name]
section
variable {w:World} {base B Bd:Nat} {S:Sp.Side} {D:Nat→Prop} {g:Sp.Geom} {F:File} {X Y:List Int} {r q:Nat} {H:List Sp.Entry}
theorem names17_facts (hs:SideAt w base B Bd S D) (h:Dir g 1 S F X Y r q) (hg:g.ok) (h2:(1:Int)≤g.groups*g.inodes) (hm:MaxOk w) (hp:(q6z (ents S.read F)).Perm (H.map prE)) (hnm:∀x∈H,nameB x.name=true) :
 ∃N:List ByteArray,N.length=H.length∧(∀(i:Nat) (x y:ByteArray),N[i]? = some x→N[i+1]? = some y→(Op.bytesLess y.toList x.toList||y.toList == x.toList)=false) ∧
  (∀W,Below w.heap.size w W→Calls Tryz.prog 37 #[pt B,gV g,.int .i64 1] W fun e w'=>∃v,e = .returned (.tuple #[v,.int .i64 0])∧OwnR 9 1 strC W.heap.size w' v N∧Below W.heap.size W w') ∧
  ∀W,Below w.heap.size w W→∀x∈H,Calls Tryz.prog 38 #[pt B,gV g,.int .i64 1,.string x.name] W fun e w'=>∃a1 a2,e = .returned (.tuple #[.agg #[.int .i64 x.inode,.int .i64 a1,.int .i64 a2],.int .i64 0])∧Below W.heap.size W w':=by
 have hne:q62z (ents S.read F)=(q6z (ents S.read F)).map Prod.fst:=by
  unfold q62z q6z
  rw[List.map_map]
  rfl
 refine⟨sortL (q62z (ents S.read F)),?_,?_,fun W hW=>dirNames_any (hs.below hW) (h.stands hg (by decide) h2) h.ok (h.blkPos hg) (h.hasB hg) (hm.below hW),fun W hW x hx=>?_⟩
 ·rw[(sortL_perm _).length_eq,hne,List.length_map,hp.length_eq,List.length_map]
 ·intro i x y hx hy
  have hnd:((q62z (ents S.read F)).map (·.data.toList)).Nodup:=by
   rw[hne]
   exact List.Pairwise.map _ (fun a b hab e=>hab (Txt.ext e)) h.once
  unfold sortL at hx hy
  rw[List.getElem?_map,Option.map_eq_some_iff] at hx hy
  obtain⟨a,ha,rfl⟩:=hx
  obtain⟨b,hb,rfl⟩:=hy
  have hi:=(List.getElem?_eq_some_iff.1 hb).1
  have:=rises hnd hi
  rw[List.getElem?_eq_getElem (by omega)] at ha
  rw[List.getElem?_eq_getElem hi] at hb
  rw[Option.some.inj ha,Option.some.inj hb] at this
  exact rises_le this
 ·have hxn:=hnm x hx
  have hz:=q85z hxn
  refine(find_law (hs.below hW) h hg (by decide) h2 (hm.below hW) x.name (by unfold maxLen; omega)).mono ?_
  rintro e w' ⟨c,p,rfl,hb,hc,rfl⟩
  have hxm:(x.name,x.inode)∈q6z (ents S.read F):=hp.mem_iff.2 (List.mem_map_of_mem hx)
  have hin:x.name∈(q6z (ents S.read F)).map Prod.fst:=List.mem_map.2 ⟨_,hxm,rfl⟩
  obtain⟨rfl,-⟩:=hc.resolve_right (fun hh=>hh.2 hin)
  rcases h.find hxn with ⟨y,hfy,hy,hyn,hy1,hym⟩ | ⟨_,hno⟩
  ·have hyi:y.inode=x.inode:=by
    have hpw:=List.pairwise_iff_getElem.1 h.once
    obtain⟨a,ha,ea⟩:=List.getElem_of_mem hxm
    obtain⟨b,hb',eb⟩:=List.getElem_of_mem hym
    rcases Nat.lt_trichotomy a b with hlt | rfl | hlt
    ·exact absurd (by rw[List.getElem_map,List.getElem_map,ea,eb]) (hpw a b (by simpa using ha) (by simpa using hb') hlt)
    ·rw[ea] at eb
     exact(congrArg Prod.snd eb).symm
    ·exact absurd (by rw[List.getElem_map,List.getElem_map,ea,eb]) (hpw b a (by simpa using hb') (by simpa using ha) hlt)
   refine⟨y.sec,y.slot,?_,hb⟩
   unfold findR
   rw[if_pos hxn,hfy]
   show Ending.returned (.tuple #[.agg #[.int .i64 y.inode,.int .i64 y.sec,.int .i64 (y.slot:Int)],.int .i64 0])=_
   rw[hyi]
  ·exact absurd hin hno
theorem names17_any (hs:SideAt w base B Bd S D) (h:Dir g 1 S F X Y r q) (hg:g.ok) (h2:(1:Int)≤g.groups*g.inodes) (hm:MaxOk w) (hp:(q6z (ents S.read F)).Perm (H.map prE)) (hnm:∀x∈H,nameB x.name=true) (v:Value) (hv:RowAt w v 2 (H.map entC)) :
 Calls Tryz.prog 52 #[pt B,gV g,v] w fun e w'=>e = .returned (.bool true)∧Below w.heap.size w w':=by
 obtain⟨N,hlen,hris,hna,hfi⟩:=names17_facts hs h hg h2 hm hp hnm
 obtain⟨ad,n,cap,rfl,HN,hn2,HFa⟩:=RowAt.facts hv
 have hlenN:N.length=n:=by rw[hlen]; exact HN.out.symm
 have HLN:=Lib.hid hlenN
 clear hs h hg h2 hm hp hnm hv hlenN
 obtain⟨ga,gb,gc⟩:=g
 unfold gV pt at *
 dsimp only at hna hfi
 obtain⟨W0,hW0⟩:∃W,w.alloc (.cells #[.int .i64 ga,.int .i64 gb,.int .i64 gc] 27)=W:=⟨_,rfl⟩
 have hk:=q34z hW0
 have HB0:=Lib.hid hk.1
 have HK:=Lib.hid hk.2
 clear hk
 have HLEN:=Lib.hid hlen
 have HRIS:=Lib.hid hris
 have HNA:=Lib.hid hna
 have HFI:=Lib.hid hfi
 clear hlen hris hna hfi
 obtain⟨z0,z1,z2⟩:=HK.out W0 (Below.refl _ _)
 have HNA0:=Lib.hid (HNA.out W0 HB0.out)
 clear HNA
 go_enter Tryz.func52,Tryz.ntmps52
 go_wp2_with fail
 clear z0 z1 z2
 refine HNA0.out.mono ?_
 rintro e w1 ⟨v,rfl,hv1,hb1⟩
 obtain⟨ad2,n2,cap2,rfl,HN2,hn22,HF2⟩:=RowAt.facts (OwnR.row (f:=strC) (fun _ _=>rfl) hv1)
 obtain rfl:n2=n:=by rw[HN2.out,HLN.out]
 have HB1:=Lib.hid hb1
 have HBw:=Lib.hid (blN HB0.out hb1)
 clear hv1 hb1 HNA0 HLEN
 go_wp2
 go_loopw [31] (fun q wr=>∃j:Nat,j≤n2∧q = .int .i64 (j:Int)∧Hid (Below w1.heap.size w1 wr)) (fun q _=>n2-(intOf q).toNat)
 case atStart=>exact⟨0,Nat.zero_le _,rfl,Below.refl _ _⟩
 case round=>
  obtain⟨j,hj,rfl,HBj⟩:=hrel
  by_cases hlt:j<n2
  ·obtain⟨b,o,x,rfl,hb,hx,hc⟩:=HFa.out j hlt
   have HXm:Hid (x∈H):=List.mem_of_getElem? hx
   obtain⟨xi,xn⟩:=x
   have hbel:Below w.heap.size w wr:=blN HBw.out HBj.out
   have c0:wr.cell? ⟨b,o+j*2,none⟩=some (.int .i64 xi):=(hbel.cell (p:=⟨b,o+j*2,none⟩) hb).trans (hc 0 _ rfl)
   have c1:wr.cell? ⟨b,o+j*2+1,none⟩=some (.string xn):=(hbel.cell (p:=⟨b,o+j*2+1,none⟩) hb).trans (hc 1 _ rfl)
   obtain⟨W2,hW2⟩:∃W,wr.alloc (.cells #[.int .i64 xi,.string xn] 69)=W:=⟨_,rfl⟩
   have hb2:Below wr.heap.size wr W2:=by rw[←hW2]; exact bl2 _
   have hz2:W2.heap[wr.heap.size]? = some (.cells #[.int .i64 xi,.string xn] 69 (0,0)):=by rw[←hW2]; exact q2z wr _
   have x0:=cellOf (k:=0) hz2 rfl
   have x1:=cellOf (k:=1) hz2 rfl
   have HFx:=Lib.hid (HFI.out W2 (blN hbel hb2) ⟨xi,xn⟩ HXm.out)
   have HZ2:=Lib.hid hz2
   have HB2:=Lib.hid (blN HBj.out hb2)
   obtain⟨z0,z1,z2⟩:=HK.out W2 (blN HB1.out HB2.out)
   clear hx hc hb hbel hb2 hz2
   go_wp2_with fail
   clear z0 z1 z2 c0 c1 x0 x1 hW2
   refine HFx.out.mono ?_
   rintro e w3 ⟨a1,a2,rfl,hb3⟩
   obtain⟨W4,hW4⟩:∃W,w3.alloc (.cells #[.int .i64 xi,.int .i64 a1,.int .i64 a2] 72)=W:=⟨_,rfl⟩
   have hb4:Below w3.heap.size w3 W4:=by rw[←hW4]; exact bl2 _
   have hz4:W4.heap[w3.heap.size]? = some (.cells #[.int .i64 xi,.int .i64 a1,.int .i64 a2] 72 (0,0)):=by rw[←hW4]; exact q2z w3 _
   have y0:=cellOf (k:=0) hz4 rfl
   have x0:=cellOf (k:=0) (q1z (blN hb3 hb4) HZ2.out) rfl
   have HB4:=Lib.hid (blN HB2.out (blN hb3 hb4))
   clear hb3 hb4 hz4 HFx HZ2
   go_wp2
   go_roundw
   case rel=>exact⟨j+1,by omega,by go_num,HB4⟩
   case measure=>simp[intOf]; omega
  ·obtain rfl:j=n2:=by omega
   have HBe:=Lib.hid HBj.out
   clear HFa HFI HBj
   go_wp2
   go_loopw [13] (fun q wr2=>∃i:Nat,1≤i∧i≤j+1∧q = .int .i64 (i:Int)∧Hid (Below w1.heap.size w1 wr2)) (fun q _=>j+1-(intOf q).toNat)
   case atStart=>exact⟨1,by omega,by omega,rfl,HBe⟩
   case round=>
    clear HBe
    obtain⟨i,hi1,hi2,rfl,HBe⟩:=hrel
    by_cases hlt2:i<j
    ·obtain⟨i',rfl⟩:∃i',i=i' + 1:=⟨i-1,by omega⟩
     obtain⟨b,o,x,rfl,hb,hx,hc⟩:=HF2.out (i' + 1) hlt2
     obtain⟨b',o',y,e',hb',hy,hc'⟩:=HF2.out i' (by omega)
     cases e'
     have c0:wr.cell? ⟨b,o+(i' + 1),none⟩=some (.string x):=by
      have:=(HBe.out.cell (p:=⟨b,o+(i' + 1)*1+0,none⟩) hb).trans (hc 0 _ rfl)
      simpa using this
     have c1:wr.cell? ⟨b,o+i',none⟩=some (.string y):=by
      have:=(HBe.out.cell (p:=⟨b,o+i' * 1+0,none⟩) hb').trans (hc' 0 _ rfl)
      simpa using this
     have hle:=HRIS.out i' y x hy hx
     rw[Bool.or_eq_false_iff] at hle
     obtain⟨l1,l2⟩:=hle
     have e1:IntKind.i64.wrap (((i' + 1:Nat):Int)-1)=(i':Int):=by rw[IntWalk.i64_in _ (by omega)]; omega
     have HBf:Hid (∀n,Below w1.heap.size w1 (wr.drewN n)):=fun n=>below_drewN HBe.out n
     clear hc' hx hb' hc hy hb
     go_upto_region 14 with fail
     go_quiet (fail)
     go_wp2
     go_roundw
     case rel=>exact⟨i' + 1+1,by omega,by omega,by go_num,HBf.out _⟩
     case measure=>simp[intOf]; omega
    ·have hge:¬((i:Int)<(j:Int)):=by omega
     have HF:Hid (Below w.heap.size w wr):=blN HBw.out HBe.out
     go_wp2
     go_ret
     exact⟨rfl,HF.out⟩
end
section
theorem laid17z_any (w:World) {g:Sp.Geom} (hg:g.ok):Calls Tryz.prog 33 #[gV g] w fun e w'=>
 ∃B Bd D,e = .returned (.tuple #[pt Bd,pt B])∧SideAt w' 0 B Bd (q9z g 0 0) D∧Below w.heap.size w w'∧∀j,D j→w.heap.size≤j∧j<w'.heap.size:=by
 have hsz:=fun W:World=>gsize_any W g
 have hz:=Geom.size_bd hg
 obtain⟨N,hN⟩:∃N:Nat,g.size=(N:Int):=⟨g.size.toNat,by omega⟩
 rw[hN] at hsz hz
 have hnew:=fun W:World=>diskNew_any W N (by omega) (by omega)
 have hlay:=fun(W:World) (base Bd:Nat) (D:Nat→Prop) (h:DiskAt W base Bd (q71z N) D) (hD:∀j,D j→j<W.heap.size)=>alay_any h hD hg (by rw[hN]; simp[q71z])
 have hsoft:=fun(W:World) (base Bd:Nat) (D:Nat→Prop) (h:DiskAt W base Bd { q71z N with l:=q26z g } D) (hb:base≤W.heap.size) (hdl:∀j,D j→j<W.heap.size)=>softNew_any h.lower (Nat.zero_le _) hdl 0 0 ⟨by decide,by decide⟩ ⟨by decide,by decide⟩
 have heq:=q88z
 have hfr:(⟨{ q71z N with l:=q26z g },⟨[],0⟩,0,0,[]⟩:Sp.Side)=q9z g 0 0:=rfl
 rw[hfr] at hsoft
 obtain⟨S,hS⟩:∃S,q9z g 0 0=S:=⟨_,rfl⟩
 rw[hS] at hsoft ⊢
 obtain⟨dN,hdN⟩:∃d,q71z N=d:=⟨_,rfl⟩
 rw[hdN] at hnew hlay hsoft
 obtain⟨dF,hdF⟩:∃d:Sp.Disk,{ dN with l:=q26z g } = d:=⟨_,rfl⟩
 rw[hdF] at hlay hsoft
 obtain⟨ga,gb,gc⟩:=g
 unfold gV at hsz hlay ⊢
 unfold pt at *
 obtain⟨W0,hW0⟩:∃W,w.alloc (.cells #[.int .i64 ga,.int .i64 gb,.int .i64 gc] 27)=W:=⟨_,rfl⟩
 have hk:=q34z hW0
 have HB0:=Lib.hid hk.1
 have HK:=Lib.hid hk.2
 clear hk
 have HSZ:=Lib.hid hsz
 have HNEW:=Lib.hid hnew
 have HLAY:=Lib.hid hlay
 have HSOFT:=Lib.hid hsoft
 clear hsz hnew hlay hsoft
 clear hg hz hN hfr hS hdN hdF
 obtain⟨z0,z1,z2⟩:=HK.out W0 (Below.refl _ _)
 go_enter Tryz.func33,Tryz.ntmps33
 go_wp2_with fail
 clear z0 z1 z2
 refine(HSZ.out _).mono ?_
 rintro e w1 ⟨rfl,hb1⟩
 have HB1:=Lib.hid hb1
 clear hb1
 go_wp2_with fail
 refine(HNEW.out _).mono ?_
 rintro e w2 ⟨Bd,D,rfl,hd2,hb2,hD2⟩
 have HB2:=Lib.hid (blN HB1.out hb2)
 have HX2:=Lib.hid hb2.size
 have HDA:=Lib.hid hd2
 have HDB:=Lib.hid hD2
 have hl2:=HLAY.out w2 _ Bd D hd2 (fun j hj=>(hD2 j hj).2)
 have HL2:=Lib.hid hl2
 clear hl2
 clear hb2 hd2 hD2
 obtain⟨z0,z1,z2⟩:=HK.out w2 HB2.out
 go_wp2_with fail
 clear z0 z1 z2
 refine HL2.out.mono ?_
 rintro e w3 ⟨rfl,hd3,K3,hK3,hT3⟩
 have hs2:=HB2.out.size
 have hs0:=HB0.out.size
 have hs1:=HB1.out.size
 have HB3:Hid (Below w.heap.size w w3):=(blN HB0.out HB2.out).trans (hT3.below (fun j hj=>by have:=(HDB.out j (hK3 j hj)).1; omega) (by omega))
 have HS3:Hid (w2.heap.size≤w3.heap.size):=hT3.size
 have hs3:=HS3.out
 have hso:=HSOFT.out w3 _ Bd D hd3 (by have:=HX2.out; omega) (fun j hj=>by have:=HDB.out j hj; omega)
 have HSO:=Lib.hid hso
 clear hso
 clear hd3 hK3 hT3 hs2 hs0 hs1 hs3
 go_wp2_with fail
 refine HSO.out.mono ?_
 rintro e w4 ⟨B,D',rfl,hsa,hb4,hD4⟩
 have HF:Hid (∃B' Bd' D,Ending.returned (.tuple #[.pointer (some ⟨Bd,0,none⟩),.pointer (some ⟨B,0,none⟩)])=Ending.returned (.tuple #[.pointer (some ⟨Bd',0,none⟩),.pointer (some ⟨B',0,none⟩)])∧SideAt w4 0 B' Bd' S D∧Below w.heap.size w w4∧∀j,D j→w.heap.size≤j∧j<w4.heap.size):=by
  have h3:=HB3.out.size
  have h4:=hb4.size
  have h0:=HB0.out.size
  have h1:=HB1.out.size
  have h23:=HS3.out
  refine⟨B,Bd,D',rfl,hsa,blN HB3.out hb4,fun j hj=>?_⟩
  rcases hD4 j hj with h | h
  ·have:=HDB.out j h
   omega
  ·omega
 clear hsa hb4 hD4
 go_wp2
 go_ret2
 exact HF.out
end
def rawD (S:Sp.Side):Sp.Side:=⟨S.disk,⟨[],0⟩,1,0,[]⟩
section
variable {w wr wr':World} {g:Sp.Geom} {B Bd:Nat} {S S':Sp.Side} {D:Nat→Prop} {k:Nat} {H:List Sp.Entry}
theorem rawD_ok (hf:S.Fl):(rawD S).Ok:=⟨⟨Nat.zero_le _,fun c hc=>absurd hc (by simp[rawD]),fun c hc=>absurd hc (by simp[rawD]),fun c hc=>absurd hc (by simp[rawD]),List.Pairwise.nil,Nat.zero_le _⟩,hf.sect,by have:=hf.size; show S.disk.l.length≤_; omega⟩
theorem rawD_read (hf:S.Fl):(rawD S).read=S.disk.read:=by
 funext j
 unfold Side.read Disk.read rawD
 by_cases hj:S.disk.has j
 ·rw[if_pos hj,if_pos hj]
  unfold Deps.view Deps.patches Deps.of
  rw[if_pos (q130z hf hj)]
  exact q108z _
 ·rw[if_neg hj,if_neg hj]
theorem Sp.Dir.alike {i:Int} {F:File} {X Y:List Int} {r q:Nat} (h:Dir g i S F X Y r q) (hr:S'.read=S.read) (hd:S'.disk.l.length=S.disk.l.length) (hok:S'.Ok) (hf:S'.deps.l.length≤r) (hl:S'.deps.last≤r):Dir g i S' F X Y r q:=by
 have hhas:∀k,S'.disk.has k↔S.disk.has k:=fun k=>by unfold Disk.has; rw[hd]
 have hlook:∀k b,S'.look g k b=S.look g k b:=fun k b=>by
  unfold Side.look
  rw[hr]
  by_cases hc:S.disk.has (q12z g k b)∧mapC (S.read (q12z g k b)) (manyG g b)=0
  ·rw[if_pos hc,if_pos ⟨(hhas _).2 hc.1,hc.2⟩]
  ·rw[if_neg hc,if_neg (fun hh=>hc ⟨(hhas _).1 hh.1,hh.2⟩)]
 have ht:∀{b:Bool} {no:Int→Int→Int} {X:List Int},Taken S g b no X→Taken S' g b no X:=fun h=>⟨fun k h0 h1=>by rw[hlook]; exact h.look k h0 h1,h.sub,h.nodup⟩
 exact⟨⟨⟨hok,ht h.bm.held.ti,ht h.bm.held.tb,hf,hl⟩,by rw[hr]; exact h.bm.file,h.bm.own,by rw[hd]; exact h.bm.dlen⟩,h.kind,h.links,h.par,h.gen,h.q40,h.size,h.full,by rw[hr]; exact h.sect,by rw[hr]; exact h.once⟩
theorem KeepI.rawDir (h:KeepI S k H) (h0:S.deps.l=[]):∃F Y r q,Dir gKeep 1 (rawD S) F [1] Y r q∧(q6z (ents (rawD S).read F)).Perm (H.map prE):=by
 obtain⟨F,Y,r,q,⟨d,hy,hp,hf,hev⟩,hr,hl⟩:=h
 have hrd:(rawD S).read=S.read:=(rawD_read hf).trans (funext fun j=>(drained_read hf h0 j).symm)
 exact⟨F,Y,r,q,d.alike hrd rfl (rawD_ok hf) (Nat.zero_le _) (Nat.zero_le _),by rw[hrd]; exact hp⟩
theorem DMem.own (h:DMem w 0 B Bd g S D wr) (hs:SideAt wr' 0 B Bd S' D) (hT:q14z wr D wr'):DMem w 0 B Bd g S' D wr':=by
 obtain⟨K,hK,hT⟩:=hT
 exact⟨hs,fun j hj=>Nat.lt_of_lt_of_le (h.lt j hj) hT.size,h.low,hT.heap h.box (fun hk=>by have:=h.low _ (hK _ hk); omega),h.belowT (hT.mono (fun j _ hj=>hK j hj))⟩
theorem DMem.flush (h:DMem w 0 B Bd g S D wr) (hf:S.Fl) (hl:S.disk.last+1024<1000000000) (v:Value) (P:List Int) (hp:Ints w v P) :
 Calls Tryz.prog 51 #[pt Bd,pt B,v] wr fun e w'=>e = .returned (.bool true)∧DMem w 0 B Bd g (S.flush (q63z P)) D w'∧q14z wr D w':=by
 obtain⟨Bc,fm,Dd,hs⟩:=h.side.parts
 refine(flush17_any hs h.lt hf hl v P (fun W hW=>?_)).mono ?_
 ·obtain⟨K,hK,hT⟩:=hW
  exact RowAt.below hp (h.belowT (hT.mono (fun j _ hj=>hK j hj)))
 ·rintro e w' ⟨rfl,hp',hT⟩
  exact⟨rfl,h.own hp'.side hT,hT⟩
theorem DMem.raw (h:DMem w 0 B Bd g S D wr) :
 Calls Tryz.prog 43 #[pt Bd,.int .i64 1,.int .i64 0] wr fun e w'=>∃B' D',e = .returned (.tuple #[pt B',.int .i64 0])∧DMem w 0 B' Bd g (rawD S) D' w'∧Below wr.heap.size wr w':=by
 obtain⟨Bc,fm,Dd,hs⟩:=h.side.parts
 refine(softNew_any hs.disk (Nat.zero_le _) (fun j hj=>h.lt j (hs.sub j hj)) 1 0 ⟨by decide,by decide⟩ ⟨by decide,by decide⟩).mono ?_
 rintro e w' ⟨B',D',rfl,hs',hb,hD'⟩
 have hlo:=h.lo
 refine⟨B',D',rfl,⟨hs',fun j hj=>?_,fun j hj=>?_,q1z hb h.box,blN h.bel hb⟩,hb⟩
 ·rcases hD' j hj with hh | hh
  ·have:=h.lt j (hs.sub j hh); have:=hb.size; omega
  ·exact hh.2
 ·rcases hD' j hj with hh | hh
  ·exact h.low j (hs.sub j hh)
  ·omega
theorem keep_rawNames {W:World} {base B':Nat} {D':Nat→Prop} (hs:SideAt W base B' Bd (rawD S) D') (hm:MaxOk W) (hI:KeepI S k H) :
 Calls Tryz.prog 37 #[pt B',gV gKeep,.int .i64 1] W fun e w'=>∃v,e = .returned (.tuple #[v,.int .i64 0])∧Below W.heap.size W w':=by
 obtain⟨F,Y,r,q,⟨d,hy,hp,hf,hev⟩,hr,hl⟩:=hI
 have hg:gKeep.ok:=by decide
 obtain⟨FK,hv⟩:=hev.2.now
 have hrd:=rawD_read hf
 have hY:∀b∈FK.blocks,b≠0→∃k p:Int,(0≤k∧k<gKeep.groups)∧(0≤p∧p<gKeep.blocks)∧b=q22z gKeep k p:=fun b hb h0=>d.bm.held.blk (d.bm.own b (hv.sub hb h0))
 have hblk:∀b∈FK.blocks,q23z gKeep b:=fun b hb=>by
  by_cases h0:b=0
  ·exact Or.inl h0
  ·obtain⟨k,p,hk,hpp,e⟩:=hY b hb h0
   rw[e]
   exact block_ok hg hk hpp
 have hpos:∀b∈FK.blocks,0≤b:=fun b hb=>by
  by_cases h0:b=0
  ·omega
  ·obtain⟨k,p,hk,hpp,e⟩:=hY b hb h0
   have:=q93z hg hk hpp
   omega
 obtain⟨q',hq40,hsz⟩:=hv.size
 have hhas:∀b∈FK.blocks,b≠0→(rawD S).disk.has b:=fun b hb h0=>d.bm.hasB hg (d.bm.own b (hv.sub hb h0))
 have hst:Stands (rawD S) gKeep 1 FK:=by
  refine⟨hg,rawD_ok hf,by decide,by decide,d.bm.inode_in hg (by decide) (by decide),by rw[hrd]; exact hv.file,⟨?_,?_,?_,?_,(by show 0≤FK.size; omega),(by show FK.size≤2560; omega),Or.inr (Or.inr ⟨hv.kind.trans d.kind,(by show FK.size % 64=0; omega),?_,?_,fun b hb=>hblk b (List.mem_of_mem_take hb),Or.inl hv.more⟩)⟩,fun hm=>absurd hv.more hm,hblk⟩
  ·rw[show FK.node.gen=FK.gen from rfl,hv.gen]; exact d.gen.1
  ·rw[show FK.node.gen=FK.gen from rfl,hv.gen]; exact d.gen.2
  ·rw[show FK.node.links=FK.links from rfl,hv.links]; exact d.links.1
  ·rw[show FK.node.links=FK.links from rfl,hv.links]; exact d.links.2
  ·rw[show FK.node.parent=FK.parent from rfl,hv.parent]; exact d.par.1
  ·rw[show FK.node.parent=FK.parent from rfl,hv.parent]; exact d.par.2
 have hdb:∀b∈q19z FK,b∈FK.blocks∧b≠0:=fun b hb=>by
  unfold q19z at hb
  rw[List.mem_filter,decide_eq_true_iff] at hb
  exact⟨List.mem_of_mem_take hb.1,hb.2⟩
 have hok:DirOk (rawD S).read FK:=⟨hv.kind.trans d.kind,⟨q',hq40,hsz⟩,fun b hb=>by
  rw[hrd]
  obtain⟨h1,h2⟩:=hdb b hb
  exact hv.sect b h1 h2⟩
 refine(dirNames_any hs hst hok hpos (fun b hb=>hhas b (hdb b hb).1 (hdb b hb).2) hm).mono ?_
 rintro e w' ⟨v,rfl,-,hb⟩
 exact⟨v,rfl,hb⟩
end
end Go.Proofs.YtaphcmcimoloiaaGreatDoor
