import Derived.Test.YtgofmnhfajmbfaaGreatDoorTextsYes
import Derived.Test.YtgofmnhfajmbfaaGreatDoorOpenDos
set_option maxRecDepth 20000
set_option maxHeartbeats 8000000
namespace Go.Proofs.YtgofmnhfajmbfaaGreatDoor
open Go Go.RowKit Txt Sp
section
theorem flush16_any {w:World} {base B Bc Bd fm:Nat} {S:Sp.Side} {D Dd:Nat→Prop} (h:SideP w base B Bc Bd fm S D Dd) (hD:∀j,D j→j<w.heap.size) (hf:S.Fl) (hlast:S.disk.last+1024<1000000000) (v:Value) (picks:List Int) (hp:∀W,q12z w D W→Ints W v picks) :
 Calls Tryz.prog 24 #[pt Bd,pt B,v] w fun e w'=>e = .returned (.bool true)∧SideP w' base B Bc Bd fm (S.flush (q49z picks)) D Dd∧q12z w D w':=by
 have hwa:=softWriteAll_any h hD hf hlast
 have hf1:=(q82z hf).fl
 have hat:=ends_at (q49z picks) hf1 (unders_nodup hf1) unders_fly
 have hlw:S.writeAll.disk.last≤1000000000:=by
  have h1:=writes_at S.deps.sectors S hf (q80z _) hf.may_of S.deps.sectors.length (Nat.le_refl _)
  rw[List.take_length] at h1
  have h2:=h1.2.2
  have h3:=sectors_len hf
  show(S.deps.sectors.foldl Side.write S).disk.last≤_
  rw[h2]
  omega
 have hun:=fun(W:World) (hW:SideP W base B Bc Bd fm S.writeAll D Dd)=>softUnder_any hW hf1 hlw (fly_most hf1)
 obtain⟨pd,pn,pc,rfl,HPN,-,-⟩:=RowAt.facts (f:=fun n:Int=>[Value.int .i64 n]) (hp w (q12z.of_below (Below.refl _ _)))
 have hfl:S.flush (q49z picks)=Side.ends (q49z picks) S.writeAll 0 S.writeAll.unders:=rfl
 rw[hfl]
 obtain⟨S1,hS1⟩:=zx (S.writeAll)
 rw[hS1] at hwa hf1 hat hun ⊢
 obtain⟨L,hL⟩:=zx (S1.unders)
 rw[hL] at hat hun ⊢
 obtain⟨E,hE⟩:∃E:Nat→Sp.Side,(fun k=>Side.ends (q49z picks) S1 0 (L.take k))=E:=⟨_,rfl⟩
 have hEk:∀k,Side.ends (q49z picks) S1 0 (L.take k)=E k:=fun k=>congrFun hE k
 have hE0:S1=E 0:=by rw[←hEk]; rfl
 have hEe:Side.ends (q49z picks) S1 0 L=E L.length:=by rw[←hEk,List.take_length]
 have hst:∀k n,L[k]? = some n→E (k+1)=(E k).endK (q49z picks k) n:=fun k n hn=>by
  have hk:=(List.getElem?_eq_some_iff.1 hn).1
  rw[←hEk,←hEk,q31z hn,ends_snoc,List.length_take,Nat.min_eq_left (Nat.le_of_lt hk),Nat.zero_add]
 simp only[hEk] at hat
 rw[hEe]
 have HFly:Hid (∀k n,L[k]? = some n→(E k).Fl∧∃i,(n,i)∈(E k).fly):=fun k n hn=>by
  have hk:=(List.getElem?_eq_some_iff.1 hn).1
  obtain⟨a1,a2,a3⟩:=hat k (Nat.le_of_lt hk)
  exact⟨a1,a2 n (by rw[List.drop_eq_getElem_cons hk,(List.getElem?_eq_some_iff.1 hn).2]; exact List.mem_cons_self ..)⟩
 have HSt:=zh hst
 have HU:Hid (∀W,SideP W base B Bc Bd fm S1 D Dd→Calls Tryz.prog 88 #[pt B] W fun e w'=>∃v,e = .returned v∧OwnR 3 1 intC W.heap.size w' v L∧SideP w' base B Bc Bd fm (E 0) D Dd∧Below W.heap.size W w'):=by
  intro W hW
  refine(hun W hW).mono ?_
  rintro e w' ⟨v,rfl,h1,h2⟩
  exact⟨v,rfl,h1,hE0 ▸ hW.below h2,h2⟩
 have HD:=zh hD
 have HP:=zh hp
 unfold pt at hwa HU ⊢
 have HWA:=zh hwa
 clear h hD hf hlast hwa hf1 hat hlw hun hS1 hL hE hEk hE0 hEe hst hfl hp
 go_enter Tryz.func24,Tryz.ntmps24
 go_wp2_with fail
 refine HWA.out.mono ?_
 rintro e w1 ⟨⟨v1,rfl⟩,hp1,ht1⟩
 have hu1:=HU.out w1 hp1
 have HT1:=zh ht1
 have HU1:=zh hu1
 clear hp1 ht1 hu1 HWA HU
 go_wp2_with fail
 refine HU1.out.mono ?_
 rintro e w2 ⟨v2,rfl,hv2,hp2,hb2⟩
 obtain⟨ad,n,cap,rfl,HN,hn2,HF⟩:=RowAt.facts (OwnR.row (f:=intC) (fun _ _=>rfl) hv2)
 have hDv:∀b o,ad=some ⟨b,o,none⟩→¬D b:=fun b o e hd=>by
  subst e
  obtain⟨_,⟨e,_⟩ | ⟨g,cp,cur,e,hg,_⟩⟩:=hv2
  ·cases e
  ·cases e
   have:=HD.out b hd
   have:=HT1.out.size
   omega
 have HDV:=zh hDv
 have HSP2:=zh hp2
 have HT2:Hid (q12z w D w2):=HT1.out.trans (q12z.of_below hb2)
 clear hv2 hp2 hb2 hDv HU1 HT1
 go_wp2
 go_loopw [21] (fun q wr=>∃k:Nat,k≤n∧q = .int .i64 (k:Int)∧Hid (SideP wr base B Bc Bd fm (E k) D Dd)∧Hid (q12z w2 D wr)) (fun q _=>n-(intOf q).toNat)
 case atStart=>exact⟨0,Nat.zero_le _,rfl,HSP2,q12z.of_below (Below.refl _ _)⟩
 case round=>
  clear HSP2
  obtain⟨k,hk,rfl,HS,HT⟩:=hrel
  by_cases hlt:k<n
  ·obtain⟨b,o,nm,rfl,hb,hx,hc⟩:=HF.out k hlt
   have hnd:=HDV.out b o rfl
   have c0:wr.cell? ⟨b,o+k,none⟩=some (.int .i64 nm):=by
    obtain⟨K,k1,hT⟩:=HT.out
    have:=hc 0 _ rfl
    simp only[Nat.mul_one,Nat.add_zero] at this
    rw[←this]
    unfold World.cell?
    have hbb:b<w2.heap.size:=hb
    rw[hT.block b hbb (fun hK=>hnd (k1 b hK))]
   obtain⟨hfk,i,hm⟩:=HFly.out k nm hx
   have HOT:Hid (q12z w D wr):=HT2.out.trans HT.out
   have hsz:=HOT.out.size
   have hDr:∀j,D j→j<wr.heap.size:=fun j hj=>Nat.lt_of_lt_of_le (HD.out j hj) hsz
   have hnext:=HSt.out k nm hx
   have k1:(k:Int)<(n:Int):=by omega
   have hTo:∀W,q12z wr D W→q12z w2 D W:=fun W hW=>HT.out.trans hW
   have HTo:=zh hTo
   -- the three ways
   have HZero:Hid (q49z picks k=0→(Calls Tryz.prog 89 #[.pointer (some ⟨Bd,0,none⟩),.int .i64 nm] wr fun e w'=>e = .returned (.tuple #[.bool true,.int .i64 0])∧SideP w' base B Bc Bd fm (landS (E k) nm i) D Dd∧q12z wr D w') ∧
    ∀W,SideP W base B Bc Bd fm (landS (E k) nm i) D Dd→q12z wr D W→Calls Tryz.prog 90 #[.pointer (some ⟨B,0,none⟩),.int .i64 nm,.bool true] W fun e w'=>e = .returned (.tuple #[.int .i64 i,.int .i64 0])∧SideP w' base B Bc Bd fm (E (k+1)) D Dd∧q12z W D w'):=by
    intro hpk
    refine⟨apply_fly HS.out hDr hfk hm,fun W hW hTW=>?_⟩
    rw[hnext,hpk,endK_zero hfk hm]
    exact end_landed hW (fun j hj=>Nat.lt_of_lt_of_le (hDr j hj) hTW.size) hfk hm
   have HOne:Hid (q49z picks k=1→(Calls Tryz.prog 90 #[.pointer (some ⟨B,0,none⟩),.int .i64 nm,.bool false] wr fun e w'=>e = .returned (.tuple #[.int .i64 i,.int .i64 0])∧SideP w' base B Bc Bd fm (endS (E k) nm i false) D Dd∧q12z wr D w') ∧
    ∀W,SideP W base B Bc Bd fm (endS (E k) nm i false) D Dd→q12z wr D W→Calls Tryz.prog 91 #[.pointer (some ⟨Bd,0,none⟩),.int .i64 nm] W fun e w'=>e = .returned (.int .i64 0)∧SideP w' base B Bc Bd fm (E (k+1)) D Dd∧q12z W D w'):=by
    intro hpk
    refine⟨end_strayed HS.out hDr hfk hm,fun W hW hTW=>?_⟩
    rw[hnext,hpk,endK_one hfk hm]
    exact drop_fly hW (fun j hj=>Nat.lt_of_lt_of_le (hDr j hj) hTW.size) hfk hm
   have HTwo:Hid (q49z picks k=2→E (k+1)=E k):=fun hpk=>by rw[hnext,hpk,endK_two]
   clear hx hc hb hnd hfk hm hnext hDr hTo hsz
   by_cases hpn:k<pn
   ·obtain⟨pb,po,px,rfl,hpx,cp⟩:=picks_cell (HP.out wr HOT.out) hpn
    have hpk0:q49z picks k=q94z px 3:=by unfold q49z; rw[hpx]
    have ham:=fun W:World=>q147z W px 3 (by decide) (by decide)
    have hab:=amongJ_bd px 3 (by decide)
    rw[←hpk0] at ham hab
    simp only[show((3:Nat):Int)=3 from rfl] at ham hab
    have k2:(k:Int)<(pn:Int):=by omega
    obtain⟨pv,hpv⟩:=zx (q49z picks k)
    rw[hpv] at ham hab
    have HAM:=zh ham
    clear ham hpx hpk0
    go_wp2_with fail
    clear cp
    refine(HAM.out _).mono ?_
    rintro e w3 ⟨rfl,hw3⟩
    replace hw3:=hw3.symm
    subst hw3
    clear HAM
    rcases(show pv=0∨pv=1∨pv=2 by omega) with rfl | rfl | rfl
    ·have hpk:=hpv
     clear hpv hab
     obtain⟨ha,he⟩:=HZero.out hpk
     have HA:=zh ha
     have HE:=zh he
     clear ha he
     clear HZero HOne HTwo
     go_wp2_with fail
     clear c0
     refine HA.out.mono ?_
     rintro e w4 ⟨rfl,hp4,ht4⟩
     have he4:=HE.out w4 hp4 ht4
     have HE4:=zh he4
     have HT4:=zh ht4
     clear hp4 ht4 he4
     go_wp2_with fail
     refine HE4.out.mono ?_
     rintro e w5 ⟨rfl,hp5,ht5⟩
     have HP5:=zh hp5
     have HT5:=zh (HTo.out w5 (HT4.out.trans ht5))
     clear hp5 ht5
     go_wp2
     go_roundw
     case rel=>exact⟨k+1,by omega,by go_num,HP5,HT5⟩
     case measure=>simp[intOf]; omega
    ·have hpk:=hpv
     clear hpv hab
     obtain⟨ha,he⟩:=HOne.out hpk
     have HA:=zh ha
     have HE:=zh he
     clear ha he
     clear HZero HOne HTwo
     go_wp2_with fail
     clear c0
     refine HA.out.mono ?_
     rintro e w4 ⟨rfl,hp4,ht4⟩
     have he4:=HE.out w4 hp4 ht4
     have HE4:=zh he4
     have HT4:=zh ht4
     clear hp4 ht4 he4
     go_wp2_with fail
     refine HE4.out.mono ?_
     rintro e w5 ⟨rfl,hp5,ht5⟩
     have HP5:=zh hp5
     have HT5:=zh (HTo.out w5 (HT4.out.trans ht5))
     clear hp5 ht5
     go_wp2
     go_roundw
     case rel=>exact⟨k+1,by omega,by go_num,HP5,HT5⟩
     case measure=>simp[intOf]; omega
    ·have hpk:=hpv
     clear hpv hab
     have htw:=HTwo.out hpk
     have HP5:Hid (SideP wr base B Bc Bd fm (E (k+1)) D Dd):=by rw[htw]; exact HS.out
     clear htw HZero HOne HTwo
     go_wp2
     go_roundw
     case rel=>exact⟨k+1,by omega,by go_num,HP5,HT⟩
     case measure=>simp[intOf]; omega
   ·have hpk:q49z picks k=0:=by
     unfold q49z
     rw[List.getElem?_eq_none (by have:=HPN.out; omega)]
    have k2:¬((k:Int)<(pn:Int)):=by omega
    obtain⟨ha,he⟩:=HZero.out hpk
    have HA:=zh ha
    have HE:=zh he
    clear ha he
    clear HZero HOne HTwo
    go_wp2_with fail
    clear c0
    refine HA.out.mono ?_
    rintro e w4 ⟨rfl,hp4,ht4⟩
    have he4:=HE.out w4 hp4 ht4
    have HE4:=zh he4
    have HT4:=zh ht4
    clear hp4 ht4 he4
    go_wp2_with fail
    refine HE4.out.mono ?_
    rintro e w5 ⟨rfl,hp5,ht5⟩
    have HP5:=zh hp5
    have HT5:=zh (HTo.out w5 (HT4.out.trans ht5))
    clear hp5 ht5
    go_wp2
    go_roundw
    case rel=>exact⟨k+1,by omega,by go_num,HP5,HT5⟩
    case measure=>simp[intOf]; omega
  ·have hkn:k=L.length:=by have:=HN.out; omega
   have hp:=HS.out
   rw[hkn] at hp
   have HE:Hid (SideP wr base B Bc Bd fm (E L.length) D Dd∧q12z w D wr):=⟨hp,HT2.out.trans HT.out⟩
   have k1:¬((k:Int)<(n:Int)):=by omega
   clear hp
   go_wp2
   go_ret
   exact⟨rfl,HE.out.1,HE.out.2⟩
end
section
theorem drained16_any {w:World} {base B Bc Bd fm:Nat} {S:Sp.Side} {D Dd:Nat→Prop} (h:SideP w base B Bc Bd fm S D Dd) (hD:∀j,D j→j<w.heap.size) (hf:S.Fl) (hfew:S.deps.l.length≤400) (hlast:S.disk.last≤900000000) :
 Calls Tryz.prog 26 #[pt Bd,pt B] w fun e w'=>e = .returned (.bool true)∧∃S',SideP w' base B Bc Bd fm S' D Dd∧q12z w D w'∧S.Stay S'∧S'.deps.l=[]∧S'.disk.last≤S.disk.last+409600:=by
 have HD:=zh hD
 have HL:=zh hlast
 have HStart:Hid (∃S',SideP w base B Bc Bd fm S' D Dd∧q12z w D w∧S.Stay S'∧S'.deps.l.length+0≤400∧S'.disk.last≤S.disk.last+1024*0):=⟨S,h,q12z.of_below (Below.refl _ _),Side.Stay.refl hf,hfew,Nat.le_refl _⟩
 have hleft:=fun(W:World) (S':Sp.Side) (hW:SideP W base B Bc Bd fm S' D Dd)=>depsLeft_nil hW.deps none 0
 have hfl:=fun(W:World) (S':Sp.Side) (hW:SideP W base B Bc Bd fm S' D Dd) (hT:q12z w D W) (hs:S.Stay S') (hl:S'.disk.last≤S.disk.last+409600)=>
  flush16_any hW (fun j hj=>Nat.lt_of_lt_of_le (hD j hj) hT.size) hs.fl (by omega) (.slice none 0 0) [] (fun W _=>RowAt.void W 1)
 have HC:Hid (∀W S',SideP W base B Bc Bd fm S' D Dd→W.cell? ⟨B,0,none⟩=some (.pointer (some ⟨Bc,0,none⟩))):=fun W S' hW=>zc 0 hW.obj
 unfold pt at hleft hfl ⊢
 have HLEFT:=zh hleft
 have HFL:=zh hfl
 clear hleft hfl
 clear h hD hf hfew hlast
 go_enter Tryz.func26,Tryz.ntmps26
 go_wp2
 go_loopw [5] (fun q wr=>∃k:Nat,k≤400∧q = .int .i64 (k:Int)∧Hid (∃S',SideP wr base B Bc Bd fm S' D Dd∧q12z w D wr∧S.Stay S'∧S'.deps.l.length+k≤400∧S'.disk.last≤S.disk.last+1024*k)) (fun q _=>400-(intOf q).toNat)
 case atStart=>exact⟨0,Nat.zero_le _,rfl,HStart⟩
 case round=>
  clear HStart
  obtain⟨k,hk,rfl,HR⟩:=hrel
  obtain⟨S',hp,ht,hs,hl,hll⟩:=HR.out
  have c0:=HC.out wr S' hp
  have hle:=HLEFT.out wr S' hp
  obtain⟨m,hm⟩:=zx (S'.deps.l.length)
  rw[hm] at hle
  have HLe:=zh hle
  have HEnd:Hid (m=0→∃S',SideP wr base B Bc Bd fm S' D Dd∧q12z w D wr∧S.Stay S'∧S'.deps.l=[]∧S'.disk.last≤S.disk.last+409600):=fun h0=>
   ⟨S',hp,ht,hs,List.eq_nil_of_length_eq_zero (hm.trans h0),by omega⟩
  by_cases hlt:k<400
  ·have k1:decide ((k:Int)<400)=true:=decide_eq_true (by omega)
   have hfx:=HFL.out wr S' hp ht hs (by omega)
   have HNext:Hid (m≠0→∀w',SideP w' base B Bc Bd fm (S'.flush (q49z [])) D Dd→q12z wr D w'→∃S',SideP w' base B Bc Bd fm S' D Dd∧q12z w D w'∧S.Stay S'∧S'.deps.l.length+(k+1)≤400∧S'.disk.last≤S.disk.last+1024*(k+1)):=by
    intro hm0 w' h1 h2
    have hpk:q49z []=fun _=>0:=rfl
    have hst:=flush_stay hs.fl (q49z [])
    have hls:=flush_last hs.fl (q49z [])
    have hlt:=flush_less hs.fl (fun e=>hm0 (by rw[←hm,e]; rfl))
    rw[←hpk] at hlt
    exact⟨_,h1,ht.trans h2,hs.trans hst,by omega,by omega⟩
   have HF:=zh hfx
   clear hp ht hs hl hll hle hfx hm HR
   go_wp2_with fail
   clear c0
   refine HLe.out.mono ?_
   rintro e w2 ⟨rfl,hw2⟩
   replace hw2:=hw2.symm
   subst hw2
   by_cases hm0:m=0
   ·have HE:=zh (HEnd.out hm0)
    have q1:((m:Int) == 0)=true:=beq_iff_eq.2 (by omega)
    clear HNext HF HEnd
    go_wp2
    go_ret
    exact⟨rfl,HE.out⟩
   ·have q1:((m:Int) == 0)=false:=beq_eq_false_iff_ne.2 (by omega)
    have HN:=zh (HNext.out hm0)
    clear HNext HEnd
    go_wp2_with fail
    refine HF.out.mono ?_
    rintro e w3 ⟨rfl,h1,h2⟩
    have HR3:=zh (HN.out w3 h1 h2)
    clear h1 h2 HN HF
    go_wp2
    go_roundw
    case rel=>exact⟨k+1,by omega,by go_num,HR3⟩
    case measure=>simp[intOf]; omega
  ·obtain rfl:k=400:=by omega
   have hm0:m=0:=by omega
   have HE:=zh (HEnd.out hm0)
   have q1:((m:Int) == 0)=true:=beq_iff_eq.2 (by omega)
   clear hp ht hs hl hll hle hm HR HEnd
   go_wp2_with fail
   clear c0
   refine HLe.out.mono ?_
   rintro e w2 ⟨rfl,hw2⟩
   replace hw2:=hw2.symm
   subst hw2
   go_wp2
   go_ret
   exact⟨rfl,HE.out⟩
end
theorem done_any {w wr:World} {g:Sp.Geom} {B Bd tb m:Nat} {S:Sp.Side} {D:Nat→Prop} {t0 t1:List UInt8} (hg:g.ok) (h3:3≤g.inodes) (h:TMem w B Bd tb S D t0 t1 wr) (ht:Texts2 g S t0 t1 m) (hm:m<12) (k:Bool) (off:Int) (x:ByteArray) (p:Value) (n:Nat) (hgn:g.groups=(n:Int)) (hn1:n≤1000) :
 Calls Tryz.prog 23 #[.pointer (some ⟨tb,0,none⟩),pt B,gV g,doV k off x p] wr (q56z w g S B Bd tb m D wr):=by
 by_cases hx0:x.data.toList=[]
 ·have e:x=⟨#[]⟩:=Txt.ext hx0
  rw[e]
  exact doneCut_any hg h3 h ht hm k off p
 by_cases hx:160<x.size
 ·exact doneLong_any h ht k off x hx p
 obtain⟨a0,a1⟩:=amongJ_bd off 2400 (by decide)
 obtain⟨z,hz⟩:∃z:Nat,q94z off 2400=(z:Int):=⟨(q94z off 2400).toNat,by omega⟩
 rcases texts_writeC hg h3 ht hm k z (by omega) x hx0 (by have:x.data.toList.length=x.size:=Array.length_toList; omega) (grpL n) (fun q hq=>by have:=grpL_mem hq; omega) with hno | ⟨S',ht',hdk,hyes⟩
 ·exact doneNo_any h ht hm k off z hz x (by omega) hx0 p n hgn hn1 hno
 ·exact doneYes_any h ht hm k off z hz x (by omega) hx0 p n hgn hn1 S' ht' hdk hyes
theorem Sp.Texts2.fl {g:Sp.Geom} {S:Sp.Side} {t0 t1:List UInt8} {m:Nat} (h:Texts2 g S t0 t1 m):S.Fl:=by
 obtain⟨F,G,Y,r,hb,-⟩:=h
 exact hb.fl
structure RM (w:World) (B Bd tb gb:Nat) (g:Sp.Geom) (S:Sp.Side) (D:Nat→Prop) (t0 t1:List UInt8) (wr:World):Prop where
 tm:TMem w B Bd tb S D t0 t1 wr
 box:wr.heap[gb]? = some (.cells #[.int .i64 g.groups,.int .i64 g.inodes,.int .i64 g.blocks] 23 (0,0))
 gD:¬D gb
 bel:Below w.heap.size w wr
section
variable {w wr wr':World} {B Bd tb gb:Nat} {g:Sp.Geom} {S S':Sp.Side} {D D':Nat→Prop} {t0 t1:List UInt8}
theorem RM.glt (h:RM w B Bd tb gb g S D t0 t1 wr):gb<wr.heap.size:=(Array.getElem?_eq_some_iff.1 h.box).1
theorem RM.gt (h:RM w B Bd tb gb g S D t0 t1 wr):gb≠tb:=fun e=>by
 obtain⟨v0,v1,h1,_⟩:=h.tm.txt
 have h2:=h.box
 rw[e,h1] at h2
 cases h2
theorem RM.below (h:RM w B Bd tb gb g S D t0 t1 wr) (hb:Below wr.heap.size wr wr'):RM w B Bd tb gb g S D t0 t1 wr':=
 ⟨h.tm.below hb,heapOld hb h.box,h.gD,blN h.bel hb⟩
theorem TMem.own (h:TMem w B Bd tb S D t0 t1 wr) (hs:SideAt wr' 0 B Bd S' D) (hT:q12z wr D wr'):TMem w B Bd tb S' D t0 t1 wr':=by
 obtain⟨K,hK,hT⟩:=hT
 obtain⟨v0,v1,h1,h2,h3⟩:=h.txt
 have hk:∀b,¬D b→b<wr.heap.size→w.heap.size≤b→(∃cs,wr.heap[b]? = some (.cells cs 5 (0,0)))→¬K b:=fun b hb _ _ _ hk=>hb (hK b hk)
 exact⟨hs,fun j hj=>Nat.lt_of_lt_of_le (h.lt j hj) hT.size,h.low,h.tlo,h.tD,v0,v1,hT.heap h1 (fun hk=>h.tD (hK _ hk)),h2.turn hT hk (fun _ _ h=>h),h3.turn hT hk (fun _ _ h=>h)⟩
theorem RM.own (h:RM w B Bd tb gb g S D t0 t1 wr) (hs:SideAt wr' 0 B Bd S' D) (hT:q12z wr D wr'):RM w B Bd tb gb g S' D t0 t1 wr':=by
 have ht:=h.tm.own hs hT
 obtain⟨K,hK,hT⟩:=hT
 exact⟨ht,hT.heap h.box (fun hk=>h.gD (hK _ hk)),h.gD,h.bel.trans (hT.below (fun k hk=>h.tm.low k (hK k hk)) h.bel.size)⟩
theorem RM.done (h:RM w B Bd tb gb g S D t0 t1 wr) {m:Nat} (hg:g.ok) (h3:3≤g.inodes) (ht:Texts2 g S t0 t1 m) (hm:m<12) (k:Bool) (off:Int) (x:ByteArray) (p:Value) (n:Nat) (hgn:g.groups=(n:Int)) (hn1:n≤1000) :
 Calls Tryz.prog 23 #[.pointer (some ⟨tb,0,none⟩),pt B,gV g,doV k off x p] wr fun e w'=>e = .returned (.bool true)∧∃S' D' t0 t1,RM w B Bd tb gb g S' D' t0 t1 w'∧Texts2 g S' t0 t1 (m+1)∧S'.disk=S.disk:=by
 refine(done_any hg h3 h.tm ht hm k off x p n hgn hn1).mono ?_
 rintro e w' ⟨rfl,S',D',a0,a1,hm',ht',⟨K,hK,hT⟩,hD',hdk⟩
 refine⟨rfl,S',D',a0,a1,⟨hm',hT.heap h.box (fun hk=>(hK _ hk).elim h.gD h.gt),fun hd=>(hD' _ hd).elim h.gD (fun hh=>by have:=h.glt; omega),h.bel.trans (hT.below (fun k hk=>(hK k hk).elim (h.tm.low k) (fun e=>by have:=h.tm.tlo; omega)) h.bel.size)⟩,ht',hdk⟩
theorem RM.flush (h:RM w B Bd tb gb g S D t0 t1 wr) (hf:S.Fl) (hl:S.disk.last+1024<1000000000) (v:Value) (P:List Int) (hp:Ints w v P) :
 Calls Tryz.prog 24 #[pt Bd,pt B,v] wr fun e w'=>e = .returned (.bool true)∧RM w B Bd tb gb g (S.flush (q49z P)) D t0 t1 w':=by
 obtain⟨Bc,fm,Dd,hs⟩:=h.tm.side.parts
 refine(flush16_any hs h.tm.lt hf hl v P (fun W hW=>?_)).mono ?_
 ·obtain⟨K,hK,hT⟩:=hW
  exact RowAt.below hp (h.bel.trans (hT.below (fun k hk=>h.tm.low k (hK k hk)) h.bel.size))
 ·rintro e w' ⟨rfl,hp',hT⟩
  exact⟨rfl,h.own hp'.side hT⟩
theorem RM.drained (h:RM w B Bd tb gb g S D t0 t1 wr) (hf:S.Fl) (hfew:S.deps.l.length≤400) (hl:S.disk.last≤900000000) :
 Calls Tryz.prog 26 #[pt Bd,pt B] wr fun e w'=>e = .returned (.bool true)∧∃S',RM w B Bd tb gb g S' D t0 t1 w'∧S.Stay S'∧S'.deps.l=[]∧S'.disk.last≤S.disk.last+409600:=by
 obtain⟨Bc,fm,Dd,hs⟩:=h.tm.side.parts
 refine(drained16_any hs h.tm.lt hf hfew hl).mono ?_
 rintro e w' ⟨rfl,S',hp',hT,h1,h2,h3⟩
 exact⟨rfl,S',h.own hp'.side hT,h1,h2,h3⟩
def rawS (S:Sp.Side):Sp.Side:=⟨S.disk,⟨[],0⟩,1,0,[]⟩
theorem raw_ok (hf:S.Fl):(rawS S).Ok:=⟨⟨Nat.zero_le _,fun c hc=>absurd hc (by simp[rawS]),fun c hc=>absurd hc (by simp[rawS]),fun c hc=>absurd hc (by simp[rawS]),List.Pairwise.nil,Nat.zero_le _⟩,hf.sect,by have:=hf.size; show S.disk.l.length≤_; omega⟩
theorem raw_read (hf:S.Fl):(rawS S).read=S.disk.read:=by
 funext j
 unfold Side.read Disk.read rawS
 by_cases hj:S.disk.has j
 ·rw[if_pos hj,if_pos hj]
  unfold Deps.view Deps.patches Deps.of
  rw[if_pos (q138z hf hj)]
  exact q133z _
 ·rw[if_neg hj,if_neg hj]
theorem RM.flushT (h:RM w B Bd tb gb g S D t0 t1 wr) {m:Nat} (ht:Texts2 g S t0 t1 m) (hl:S.disk.last≤1024*100) (v:Value) (P:List Int) (hp:Ints w v P) :
 Calls Tryz.prog 24 #[pt Bd,pt B,v] wr fun e w'=>e = .returned (.bool true)∧∃S',RM w B Bd tb gb g S' D t0 t1 w'∧Texts2 g S' t0 t1 m∧S'.disk.last≤S.disk.last+1024:=by
 refine(h.flush ht.fl (by omega) v P hp).mono ?_
 rintro e w' ⟨rfl,h2⟩
 exact⟨rfl,_,h2,ht.flush _,flush_last ht.fl _⟩
end
