/-
 Walks of layer 13: what is under way,and its end.
-/
import Derived.Test.YtaphcmcimoloiaaGreatDoorSoftFlush
import Derived.Test.YtaphcmcimoloiaaGreatDoorDirWorks
set_option maxRecDepth 20000
set_option maxHeartbeats 8000000
namespace Go.Proofs.YtaphcmcimoloiaaGreatDoor
open Go Go.RowKit Txt Sp
section
theorem softUnder_any {w:World} {base B Bc Bd fm:Nat} {S:Sp.Side} {D Dd:Nat→Prop} (h:SideP w base B Bc Bd fm S D Dd) (hf:S.Fl) (hlast:S.disk.last≤1000000000) (hfew:S.fly.length≤1024) :
 Calls Tryz.prog 118 #[pt B] w fun e w'=>∃v,e = .returned v∧OwnR 3 1 intC w.heap.size w' v S.unders∧Below w.heap.size w w':=by
 have hwf:∀x∈S.fly,(Lit.int .i64 x.1).wf=true:=fun x hx=>by
  have:=(hf.flyB x hx).1
  show(decide (IntKind.i64.min≤x.1) && decide (x.1≤IntKind.i64.max))=true
  rw[Bool.and_eq_true,decide_eq_true_iff,decide_eq_true_iff]
  have e1:IntKind.i64.min = -9223372036854775808:=by decide
  have e2:IntKind.i64.max=9223372036854775807:=by decide
  omega
 have hso:=isorted2_any h.fly hwf (by omega)
 have hk:=fun W:World=>ikeys2_any (some fm) W
 have c4:w.cell? ⟨B,4,none⟩=some (.map (some fm)):=cellOf (k:=4) h.obj rfl
 have HU:Hid (S.unders=(S.fly.map (·.1)).mergeSort (fun x y=>decide (x≤y))):=rfl
 rw[HU.out]
 unfold pt
 have HSO:=Lib.hid hso
 have HK:=Lib.hid hk
 clear hso hk
 clear h hf hlast hfew hwf
 go_enter Tryz.func118,Tryz.ntmps118
 go_wp2_with fail
 clear c4
 refine(HK.out _).mono ?_
 rintro e w8 ⟨rfl,rfl⟩
 go_wp2_with fail
 refine HSO.out.mono ?_
 rintro e w9 ⟨v,rfl,hv9,hb9⟩
 have HE:Hid (OwnR 3 1 intC w.heap.size w9 v ((S.fly.map (·.1)).mergeSort (fun x y=>decide (x≤y)))∧Below w.heap.size w w9):=⟨OwnR.mono (f:=intC) hv9 (Nat.le_succ _),blN (bl2 _) hb9⟩
 clear hv9 hb9 HSO HK
 go_wp2
 go_ret
 exact⟨_,rfl,HE.out.1,HE.out.2⟩
def endS (S:Sp.Side) (n i:Int) (b:Bool):Sp.Side:={ S with fly:=without S.fly n,deps:=if b=true then S.deps.done i else S.deps.lost i }
theorem softEnd_any {w:World} {base B Bc Bd fm:Nat} {S:Sp.Side} {D Dd:Nat→Prop} (h:SideP w base B Bc Bd fm S D Dd) (hD:∀j,D j→j<w.heap.size) (hfew:S.deps.l.length≤1024) (n i:Int) (hn:IM.getM S.fly n=some i) (hu:S.deps.under i) (b:Bool) :
 Calls Tryz.prog 120 #[pt B,.int .i64 n,.bool b] w fun e w'=>e = .returned (.tuple #[.int .i64 i,.int .i64 0])∧SideP w' base B Bc Bd fm (endS S n i b) D Dd∧q14z w D w':=by
 have hlk:=IM.run_lookup2 (P:=Tryz.prog) (T:=101) Tryz.underlying101 Tryz.underlying3 (z:=.int .i64 0) (by kernel_rfl) h.fly n
 rw[hn] at hlk
 obtain⟨o',hdl,ho'⟩:=IM.run_delete (P:=Tryz.prog) (T:=101) (ty:=0) Tryz.underlying101 Tryz.underlying3 h.fly n
 have ho2:IM.IsMap intV o' (without S.fly n):=ho'
 obtain⟨h2,t2⟩:=h.setFly ho2
 obtain⟨W,hW⟩:∃W,ChangeMaps.setBlock w fm o' = W:=⟨_,rfl⟩
 rw[hW] at hdl h2 t2
 have c4:w.cell? ⟨B,4,none⟩=some (.map (some fm)):=cellOf (k:=4) h.obj rfl
 have c0:W.cell? ⟨B,0,none⟩=some (.pointer (some ⟨Bc,0,none⟩)):=cellOf (k:=0) h2.obj rfl
 have hD2:∀j,D j→j<W.heap.size:=fun j hj=>Nat.lt_of_lt_of_le (hD j hj) t2.size
 have hdo:=depsDone_any h2.deps hD2 hfew i hu
 have hlo:=depsLost_any h2.deps hD2 hfew i
 have hlc:lostC S.deps i=0:=if_neg (fun e=>places_under.1 e hu)
 have hle:=lostD_eq S.deps i
 rw[show lostC ({ S with fly:=without S.fly n }:Sp.Side).deps i=0 from hlc,show lostD ({ S with fly:=without S.fly n }:Sp.Side).deps i=S.deps.lost i from hle] at hlo
 have HEnd:Hid (∀W' d,DepsAt W' base Bc d D→q17z W D W'→SideP W' base B Bc Bd fm { S with fly:=without S.fly n,deps:=d } D Dd∧q14z w D W'):=fun W' d hd hT=>⟨h2.chg hd hT,t2.trans hT.ownT⟩
 unfold pt at hdo hlo ⊢
 unfold endS
 have HDO:=Lib.hid hdo
 have HLO:=Lib.hid hlo
 clear hdo hlo
 clear h hD hfew hn hu ho' ho2 h2 t2 hW hD2 hlc hle
 cases b with
 | true=>
   go_enter Tryz.func120,Tryz.ntmps120
   go_wp2_with fail
   clear c0 c4 hdl hlk
   refine HDO.out.mono ?_
   rintro e w2 ⟨a2,n2,c2,rfl,hd,hT⟩
   have HE:=Lib.hid (HEnd.out w2 _ hd hT)
   clear hd hT
   go_wp2
   go_ret2
   exact⟨rfl,HE.out.1,HE.out.2⟩
 | false=>
   go_enter Tryz.func120,Tryz.ntmps120
   go_wp2_with fail
   clear c0 c4 hdl hlk
   refine HLO.out.mono ?_
   rintro e w2 ⟨rfl,hd,hT⟩
   have HE:=Lib.hid (HEnd.out w2 _ hd hT)
   clear hd hT
   go_wp2
   go_ret2
   exact⟨rfl,HE.out.1,HE.out.2⟩
end
section
variable {w:World} {base B Bc Bd fm:Nat} {S:Sp.Side} {D Dd:Nat→Prop} {n i:Int}
def landS (S:Sp.Side) (n i:Int):Sp.Side:={ S with disk:=landD S.disk n i.toNat (S.deps.sent i (S.disk.get i)) }
theorem apply_fly (h:SideP w base B Bc Bd fm S D Dd) (hD:∀j,D j→j<w.heap.size) (hf:S.Fl) (hm:(n,i)∈S.fly) :
 Calls Tryz.prog 119 #[pt Bd,.int .i64 n] w fun e w'=>e = .returned (.tuple #[.bool true,.int .i64 0])∧SideP w' base B Bc Bd fm (landS S n i) D Dd∧q14z w D w':=by
 obtain⟨⟨h0,h1⟩,hu,hw⟩:=q156z hf hm
 have hx:=waits_get hf hm
 have hi:((i.toNat:Nat):Int)=i:=Int.toNat_of_nonneg h0
 refine(diskApply_any h.disk (fun j hj=>hD j (h.sub j hj)) hf.fence n i.toNat (S.deps.sent i (S.disk.get i)) (by rw[hi]; exact hx) (by omega)).mono ?_
 rintro e w' ⟨rfl,hd,hT⟩
 exact⟨rfl,h.dsk hd hT,hT.ownT h.sub⟩
theorem end_landed (h:SideP w base B Bc Bd fm (landS S n i) D Dd) (hD:∀j,D j→j<w.heap.size) (hf:S.Fl) (hm:(n,i)∈S.fly) :
 Calls Tryz.prog 120 #[pt B,.int .i64 n,.bool true] w fun e w'=>e = .returned (.tuple #[.int .i64 i,.int .i64 0])∧SideP w' base B Bc Bd fm (S.landed n i) D Dd∧q14z w D w':=by
 obtain⟨-,hu,hw⟩:=q156z hf hm
 exact softEnd_any h hD hf.tied.ok.few n i hw hu true
theorem end_strayed (h:SideP w base B Bc Bd fm S D Dd) (hD:∀j,D j→j<w.heap.size) (hf:S.Fl) (hm:(n,i)∈S.fly) :
 Calls Tryz.prog 120 #[pt B,.int .i64 n,.bool false] w fun e w'=>e = .returned (.tuple #[.int .i64 i,.int .i64 0])∧SideP w' base B Bc Bd fm (endS S n i false) D Dd∧q14z w D w':=by
 obtain⟨-,hu,hw⟩:=q156z hf hm
 exact softEnd_any h hD hf.tied.ok.few n i hw hu false
theorem drop_fly (h:SideP w base B Bc Bd fm (endS S n i false) D Dd) (hD:∀j,D j→j<w.heap.size) (hf:S.Fl) (hm:(n,i)∈S.fly) :
 Calls Tryz.prog 121 #[pt Bd,.int .i64 n] w fun e w'=>e = .returned (.int .i64 0)∧SideP w' base B Bc Bd fm (S.strayed n i) D Dd∧q14z w D w':=by
 have hx:=waits_get hf hm
 refine(diskDrop_any h.disk (fun j hj=>hD j (h.sub j hj)) n _ hx).mono ?_
 rintro e w' ⟨rfl,hd,hT⟩
 exact⟨rfl,h.dsk hd hT,hT.ownT h.sub⟩
end
def q63z (l:List Int) (k:Nat):Int:=match l[k]? with
 | some x=>q172z x 3
 | none=>0
theorem endK_zero {S:Sp.Side} (hf:S.Fl) {n i:Int} (hm:(n,i)∈S.fly):S.endK 0 n=S.landed n i:=by
 unfold Sp.Side.endK
 rw[(q156z hf hm).2.2]
 rfl
theorem endK_one {S:Sp.Side} (hf:S.Fl) {n i:Int} (hm:(n,i)∈S.fly):S.endK 1 n=S.strayed n i:=by
 unfold Sp.Side.endK
 rw[(q156z hf hm).2.2]
 rfl
theorem endK_two {S:Sp.Side} (n:Int):S.endK 2 n=S:=by
 unfold Sp.Side.endK
 split
 ·rfl
 ·rfl
theorem picks_cell {W:World} {pd:Option Addr} {pn pc:Nat} {l:List Int} (h:Ints W (.slice pd pn pc) l) {k:Nat} (hk:k<pn):∃b o x,pd=some ⟨b,o,none⟩∧l[k]? = some x∧W.cell? ⟨b,o+k,none⟩=some (.int .i64 x):=by
 obtain⟨ad,n,cap,e,HN,hn2,HF⟩:=RowAt.facts (f:=fun n:Int=>[Value.int .i64 n]) h
 cases e
 obtain⟨b,o,x,rfl,hb,hx,hc⟩:=HF.out k hk
 refine⟨b,o,x,rfl,hx,?_⟩
 have:=hc 0 _ rfl
 simpa using this
section
theorem flush17_any {w:World} {base B Bc Bd fm:Nat} {S:Sp.Side} {D Dd:Nat→Prop} (h:SideP w base B Bc Bd fm S D Dd) (hD:∀j,D j→j<w.heap.size) (hf:S.Fl) (hlast:S.disk.last+1024<1000000000) (v:Value) (picks:List Int) (hp:∀W,q14z w D W→Ints W v picks) :
 Calls Tryz.prog 51 #[pt Bd,pt B,v] w fun e w'=>e = .returned (.bool true)∧SideP w' base B Bc Bd fm (S.flush (q63z picks)) D Dd∧q14z w D w':=by
 have hwa:=softWriteAll_any h hD hf hlast
 have hf1:=(q79z hf).fl
 have hat:=ends_at (q63z picks) hf1 (unders_nodup hf1) unders_fly
 have hlw:S.writeAll.disk.last≤1000000000:=by
  have h1:=writes_at S.deps.sectors S hf (q78z _) hf.may_of S.deps.sectors.length (Nat.le_refl _)
  rw[List.take_length] at h1
  have h2:=h1.2.2
  have h3:=sectors_len hf
  show(S.deps.sectors.foldl Side.write S).disk.last≤_
  rw[h2]
  omega
 have hun:=fun(W:World) (hW:SideP W base B Bc Bd fm S.writeAll D Dd)=>softUnder_any hW hf1 hlw (fly_most hf1)
 obtain⟨pd,pn,pc,rfl,HPN,-,-⟩:=RowAt.facts (f:=fun n:Int=>[Value.int .i64 n]) (hp w (q14z.of_below (Below.refl _ _)))
 have hfl:S.flush (q63z picks)=Side.ends (q63z picks) S.writeAll 0 S.writeAll.unders:=rfl
 rw[hfl]
 obtain⟨S1,hS1⟩:∃T,S.writeAll=T:=⟨_,rfl⟩
 rw[hS1] at hwa hf1 hat hun ⊢
 obtain⟨L,hL⟩:∃L,S1.unders=L:=⟨_,rfl⟩
 rw[hL] at hat hun ⊢
 obtain⟨E,hE⟩:∃E:Nat→Sp.Side,(fun k=>Side.ends (q63z picks) S1 0 (L.take k))=E:=⟨_,rfl⟩
 have hEk:∀k,Side.ends (q63z picks) S1 0 (L.take k)=E k:=fun k=>congrFun hE k
 have hE0:S1=E 0:=by rw[←hEk]; rfl
 have hEe:Side.ends (q63z picks) S1 0 L=E L.length:=by rw[←hEk,List.take_length]
 have hst:∀k n,L[k]? = some n→E (k+1)=(E k).endK (q63z picks k) n:=fun k n hn=>by
  have hk:=(List.getElem?_eq_some_iff.1 hn).1
  rw[←hEk,←hEk,q30z hn,ends_snoc,List.length_take,Nat.min_eq_left (Nat.le_of_lt hk),Nat.zero_add]
 simp only[hEk] at hat
 rw[hEe]
 have HFly:Hid (∀k n,L[k]? = some n→(E k).Fl∧∃i,(n,i)∈(E k).fly):=fun k n hn=>by
  have hk:=(List.getElem?_eq_some_iff.1 hn).1
  obtain⟨a1,a2,a3⟩:=hat k (Nat.le_of_lt hk)
  exact⟨a1,a2 n (by rw[List.drop_eq_getElem_cons hk,(List.getElem?_eq_some_iff.1 hn).2]; exact List.mem_cons_self ..)⟩
 have HSt:=Lib.hid hst
 have HU:Hid (∀W,SideP W base B Bc Bd fm S1 D Dd→Calls Tryz.prog 118 #[pt B] W fun e w'=>∃v,e = .returned v∧OwnR 3 1 intC W.heap.size w' v L∧SideP w' base B Bc Bd fm (E 0) D Dd∧Below W.heap.size W w'):=by
  intro W hW
  refine(hun W hW).mono ?_
  rintro e w' ⟨v,rfl,h1,h2⟩
  exact⟨v,rfl,h1,hE0 ▸ hW.below h2,h2⟩
 have HD:=Lib.hid hD
 have HP:=Lib.hid hp
 unfold pt at hwa HU ⊢
 have HWA:=Lib.hid hwa
 clear h hD hf hlast hwa hf1 hat hlw hun hS1 hL hE hEk hE0 hEe hst hfl hp
 go_enter Tryz.func51,Tryz.ntmps51
 go_wp2_with fail
 refine HWA.out.mono ?_
 rintro e w1 ⟨⟨v1,rfl⟩,hp1,ht1⟩
 have hu1:=HU.out w1 hp1
 have HT1:=Lib.hid ht1
 have HU1:=Lib.hid hu1
 clear hp1 ht1 hu1 HWA HU
 go_wp2_with fail
 refine HU1.out.mono ?_
 rintro e w2 ⟨v2,rfl,hv2,hp2,hb2⟩
 obtain⟨ad,n,cap,rfl,HN,hn2,HF⟩:=RowAt.facts (OwnR.row (f:=intC) (fun _ _=>rfl) hv2)
 have hDv:∀b o,ad=some ⟨b,o,none⟩→¬D b:=fun b o e hd=>by
  subst e
  obtain⟨_,⟨e,_⟩ | ⟨g,cp,cur,e,hg,_⟩⟩:=hv2
  ·cases e
  ·cases e
   have:=HD.out b hd
   have:=HT1.out.size
   omega
 have HDV:=Lib.hid hDv
 have HSP2:=Lib.hid hp2
 have HT2:Hid (q14z w D w2):=HT1.out.trans (q14z.of_below hb2)
 clear hv2 hp2 hb2 hDv HU1 HT1
 go_wp2
 go_loopw [21] (fun q wr=>∃k:Nat,k≤n∧q = .int .i64 (k:Int)∧Hid (SideP wr base B Bc Bd fm (E k) D Dd)∧Hid (q14z w2 D wr)) (fun q _=>n-(intOf q).toNat)
 case atStart=>exact⟨0,Nat.zero_le _,rfl,HSP2,q14z.of_below (Below.refl _ _)⟩
 case round=>
  clear HSP2
  obtain⟨k,hk,rfl,HS,HT⟩:=hrel
  by_cases hlt:k<n
  ·obtain⟨b,o,nm,rfl,hb,hx,hc⟩:=HF.out k hlt
   have hnd:=HDV.out b o rfl
   have c0:wr.cell? ⟨b,o+k,none⟩=some (.int .i64 nm):=by
    obtain⟨K,k1,hT⟩:=HT.out
    have:=hc 0 _ rfl
    simp only[Nat.mul_one,Nat.add_zero] at this
    rw[←this]
    unfold World.cell?
    have hbb:b<w2.heap.size:=hb
    rw[hT.block b hbb (fun hK=>hnd (k1 b hK))]
   obtain⟨hfk,i,hm⟩:=HFly.out k nm hx
   have HOT:Hid (q14z w D wr):=HT2.out.trans HT.out
   have hsz:=HOT.out.size
   have hDr:∀j,D j→j<wr.heap.size:=fun j hj=>Nat.lt_of_lt_of_le (HD.out j hj) hsz
   have hnext:=HSt.out k nm hx
   have k1:(k:Int)<(n:Int):=by omega
   have hTo:∀W,q14z wr D W→q14z w2 D W:=fun W hW=>HT.out.trans hW
   have HTo:=Lib.hid hTo
   -- the three ways
   have HZero:Hid (q63z picks k=0→(Calls Tryz.prog 119 #[.pointer (some ⟨Bd,0,none⟩),.int .i64 nm] wr fun e w'=>e = .returned (.tuple #[.bool true,.int .i64 0])∧SideP w' base B Bc Bd fm (landS (E k) nm i) D Dd∧q14z wr D w') ∧
    ∀W,SideP W base B Bc Bd fm (landS (E k) nm i) D Dd→q14z wr D W→Calls Tryz.prog 120 #[.pointer (some ⟨B,0,none⟩),.int .i64 nm,.bool true] W fun e w'=>e = .returned (.tuple #[.int .i64 i,.int .i64 0])∧SideP w' base B Bc Bd fm (E (k+1)) D Dd∧q14z W D w'):=by
    intro hpk
    refine⟨apply_fly HS.out hDr hfk hm,fun W hW hTW=>?_⟩
    rw[hnext,hpk,endK_zero hfk hm]
    exact end_landed hW (fun j hj=>Nat.lt_of_lt_of_le (hDr j hj) hTW.size) hfk hm
   have HOne:Hid (q63z picks k=1→(Calls Tryz.prog 120 #[.pointer (some ⟨B,0,none⟩),.int .i64 nm,.bool false] wr fun e w'=>e = .returned (.tuple #[.int .i64 i,.int .i64 0])∧SideP w' base B Bc Bd fm (endS (E k) nm i false) D Dd∧q14z wr D w') ∧
    ∀W,SideP W base B Bc Bd fm (endS (E k) nm i false) D Dd→q14z wr D W→Calls Tryz.prog 121 #[.pointer (some ⟨Bd,0,none⟩),.int .i64 nm] W fun e w'=>e = .returned (.int .i64 0)∧SideP w' base B Bc Bd fm (E (k+1)) D Dd∧q14z W D w'):=by
    intro hpk
    refine⟨end_strayed HS.out hDr hfk hm,fun W hW hTW=>?_⟩
    rw[hnext,hpk,endK_one hfk hm]
    exact drop_fly hW (fun j hj=>Nat.lt_of_lt_of_le (hDr j hj) hTW.size) hfk hm
   have HTwo:Hid (q63z picks k=2→E (k+1)=E k):=fun hpk=>by rw[hnext,hpk,endK_two]
   clear hx hc hb hnd hfk hm hnext hDr hTo hsz
   by_cases hpn:k<pn
   ·obtain⟨pb,po,px,rfl,hpx,cp⟩:=picks_cell (HP.out wr HOT.out) hpn
    have hpk0:q63z picks k=q172z px 3:=by unfold q63z; rw[hpx]
    have ham:=fun W:World=>amongJ_any W px 3 (by decide) (by decide)
    have hab:=amongJ_bd px 3 (by decide)
    rw[←hpk0] at ham hab
    simp only[show((3:Nat):Int)=3 from rfl] at ham hab
    have k2:(k:Int)<(pn:Int):=by omega
    obtain⟨pv,hpv⟩:∃z,q63z picks k=z:=⟨_,rfl⟩
    rw[hpv] at ham hab
    have HAM:=Lib.hid ham
    clear ham hpx hpk0
    go_wp2_with fail
    clear cp
    refine(HAM.out _).mono ?_
    rintro e w3 ⟨rfl,hw3⟩
    replace hw3:=hw3.symm
    subst hw3
    clear HAM
    rcases(show pv=0∨pv=1∨pv=2 by omega) with rfl | rfl | rfl
    ·have hpk:=hpv
     clear hpv hab
     obtain⟨ha,he⟩:=HZero.out hpk
     have HA:=Lib.hid ha
     have HE:=Lib.hid he
     clear ha he
     clear HZero HOne HTwo
     go_wp2_with fail
     clear c0
     refine HA.out.mono ?_
     rintro e w4 ⟨rfl,hp4,ht4⟩
     have he4:=HE.out w4 hp4 ht4
     have HE4:=Lib.hid he4
     have HT4:=Lib.hid ht4
     clear hp4 ht4 he4
     go_wp2_with fail
     refine HE4.out.mono ?_
     rintro e w5 ⟨rfl,hp5,ht5⟩
     have HP5:=Lib.hid hp5
     have HT5:=Lib.hid (HTo.out w5 (HT4.out.trans ht5))
     clear hp5 ht5
     go_wp2
     go_roundw
     case rel=>exact⟨k+1,by omega,by go_num,HP5,HT5⟩
     case measure=>simp[intOf]; omega
    ·have hpk:=hpv
     clear hpv hab
     obtain⟨ha,he⟩:=HOne.out hpk
     have HA:=Lib.hid ha
     have HE:=Lib.hid he
     clear ha he
     clear HZero HOne HTwo
     go_wp2_with fail
     clear c0
     refine HA.out.mono ?_
     rintro e w4 ⟨rfl,hp4,ht4⟩
     have he4:=HE.out w4 hp4 ht4
     have HE4:=Lib.hid he4
     have HT4:=Lib.hid ht4
     clear hp4 ht4 he4
     go_wp2_with fail
     refine HE4.out.mono ?_
     rintro e w5 ⟨rfl,hp5,ht5⟩
     have HP5:=Lib.hid hp5
     have HT5:=Lib.hid (HTo.out w5 (HT4.out.trans ht5))
     clear hp5 ht5
     go_wp2
     go_roundw
     case rel=>exact⟨k+1,by omega,by go_num,HP5,HT5⟩
     case measure=>simp[intOf]; omega
    ·have hpk:=hpv
     clear hpv hab
     have htw:=HTwo.out hpk
     have HP5:Hid (SideP wr base B Bc Bd fm (E (k+1)) D Dd):=by rw[htw]; exact HS.out
     clear htw HZero HOne HTwo
     go_wp2
     go_roundw
     case rel=>exact⟨k+1,by omega,by go_num,HP5,HT⟩
     case measure=>simp[intOf]; omega
   ·have hpk:q63z picks k=0:=by
     unfold q63z
     rw[List.getElem?_eq_none (by have:=HPN.out; omega)]
    have k2:¬((k:Int)<(pn:Int)):=by omega
    obtain⟨ha,he⟩:=HZero.out hpk
    have HA:=Lib.hid ha
    have HE:=Lib.hid he
    clear ha he
    clear HZero HOne HTwo
    go_wp2_with fail
    clear c0
    refine HA.out.mono ?_
    rintro e w4 ⟨rfl,hp4,ht4⟩
    have he4:=HE.out w4 hp4 ht4
    have HE4:=Lib.hid he4
    have HT4:=Lib.hid ht4
    clear hp4 ht4 he4
    go_wp2_with fail
    refine HE4.out.mono ?_
    rintro e w5 ⟨rfl,hp5,ht5⟩
    have HP5:=Lib.hid hp5
    have HT5:=Lib.hid (HTo.out w5 (HT4.out.trans ht5))
    clear hp5 ht5
    go_wp2
    go_roundw
    case rel=>exact⟨k+1,by omega,by go_num,HP5,HT5⟩
    case measure=>simp[intOf]; omega
  ·have hkn:k=L.length:=by have:=HN.out; omega
   have hp:=HS.out
   rw[hkn] at hp
   have HE:Hid (SideP wr base B Bc Bd fm (E L.length) D Dd∧q14z w D wr):=⟨hp,HT2.out.trans HT.out⟩
   have k1:¬((k:Int)<(n:Int)):=by omega
   clear hp
   go_wp2
   go_ret
   exact⟨rfl,HE.out.1,HE.out.2⟩
end
end Go.Proofs.YtaphcmcimoloiaaGreatDoor
