import Derived.Test.YtgofmnhfajmbfaaGreatDoorSideParts
import Derived.Test.YtgofmnhfajmbfaaGreatDoorDepsSectors
import Derived.Test.YtgofmnhfajmbfaaGreatDoorSpEnds
import Derived.Test.YtgofmnhfajmbfaaGreatDoorAllB
set_option maxRecDepth 20000
set_option maxHeartbeats 4000000
namespace Go.Proofs.YtgofmnhfajmbfaaGreatDoor
open Go Go.RowKit Txt Sp
theorem write_parts {S:Sp.Side} (hf:S.Fl) (i:Int):(⟨toldW S.disk i (S.deps.image i (S.disk.get i)),S.deps.send i,S.node,S.epoch,S.fly ++ [(((S.disk.last+1:Nat):Int),i)]⟩:Sp.Side)=S.write i:=by
 unfold Sp.Side.write toldW
 rw[hf.node.1,hf.node.2]
theorem image_size {d:Sp.Deps} {i:Int} {s:ByteArray} (h:d.Ok) (hs:s.size=64):(d.image i s).size=64:=by
 unfold Sp.Deps.image
 rw[Lib.size_eq,q8z,q88z _ _ hs]
 intro p hp
 obtain⟨c,hc,rfl⟩:=List.mem_map.1 hp
 exact h.fit c (List.mem_filter.1 hc).1
section
theorem softWrite_any {w:World} {base B Bc Bd fm:Nat} {S:Sp.Side} {D Dd:Nat→Prop} (h:SideP w base B Bc Bd fm S D Dd) (hD:∀j,D j→j<w.heap.size) (hf:S.Fl) (i:Int) (hi:S.disk.has i) (hn:¬S.deps.under i) (hr:S.deps.ready i≠[]) (hfew:S.fly.length<1024) (hlast:S.disk.last<1000000000) :
 Calls Tryz.prog 168 #[pt B,.int .i64 i] w fun e w'=>e = .returned (.tuple #[.int .i64 ((S.disk.last+1:Nat):Int),.int .i64 0])∧SideP w' base B Bc Bd fm (S.write i) D Dd∧q12z w D w':=by
 have hrd:=diskRead_any h.disk i
 unfold Sp.Disk.read Sp.Disk.readC at hrd
 rw[if_pos hi,if_pos hi] at hrd
 have hsz:=q138z hf hi
 have him:=fun(W:World) (hW:Below w.heap.size w W)=>depsImage_any (h.below hW).deps hf.tied i (S.disk.get i) hsz
 have hse:=fun(W:World) (hW:Below w.heap.size w W)=>depsSend_any (h.below hW).deps (fun j hj=>Nat.lt_of_lt_of_le (hD j hj) hW.size) hf.tied i hn hr
 have hiz:=image_size (i:=i) hf.tied.ok hsz
 have hwl:S.disk.waits.length=S.fly.length:=by rw[hf.waits,List.length_map]
 have hkeys:∀x∈S.disk.waits,x.1≤(S.disk.last:Int):=fun x hx=>by
  rw[hf.waits] at hx
  obtain⟨y,hy,rfl⟩:=List.mem_map.1 hx
  exact(hf.flyB y hy).1.2
 have hwp:=write_parts hf i
 obtain⟨s,hs⟩:=zx (S.deps.image i (S.disk.get i))
 rw[hs] at him hiz hwp
 have HNext:Hid (∀W W',Below w.heap.size w W→∀{d:Sp.Deps},d=S.deps.send i→DepsAt W' base Bc d D→q17z W D W'→SideP W' base B Bc Bd fm { S with deps:=S.deps.send i } D Dd∧q12z w D W'∧w.heap.size≤W'.heap.size):=by
  rintro W W' hW d rfl hd hT
  exact⟨(h.below hW).chg hd hT,(q12z.of_below hW).trans hT.ownT,Nat.le_trans hW.size hT.size⟩
 have HIss:Hid (∀W,SideP W base B Bc Bd fm { S with deps:=S.deps.send i } D Dd→w.heap.size≤W.heap.size→Calls Tryz.prog 235 #[pt Bd,.int .i64 0,.int .i64 0,.int .i64 i,.string s] W fun e w'=>e = .returned (.tuple #[.int .i64 ((S.disk.last+1:Nat):Int),.int .i64 0])∧DiskAt w' 0 Bd (toldW S.disk i s) Dd∧q20z W Dd w'):=
  fun W hW hs=>diskIssue_any hW.disk (fun j hj=>Nat.lt_of_lt_of_le (hD j (hW.sub j hj)) hs) hf.fence (by rw[hwl]; exact hfew) hlast hkeys i hi s hiz
 have hno:IM.getM S.fly ((S.disk.last+1:Nat):Int)=none:=by
  unfold IM.getM
  rw[List.find?_eq_none.2 (fun x hx=>by
   rw[decide_eq_true_iff]
   have:=(hf.flyB x hx).1.2
   omega)]
  rfl
 have hsm:IM.setM S.fly ((S.disk.last+1:Nat):Int) i=S.fly ++ [(((S.disk.last+1:Nat):Int),i)]:=by
  unfold IM.setM
  rw[hno]
  rfl
 have HEnd:Hid (∀W W',SideP W base B Bc Bd fm { S with deps:=S.deps.send i } D Dd→q12z w D W→DiskAt W' 0 Bd (toldW S.disk i s) Dd→q20z W Dd W' →
  W'.cell? ⟨B,4,none⟩=some (.map (some fm))∧∃o',(Instr.mapUpdate 115 (.map (some fm)) (.int .i64 ((S.disk.last+1:Nat):Int)) (.int .i64 i)).run Tryz.prog W' = .ok () (ChangeMaps.setBlock W' fm o')∧SideP (ChangeMaps.setBlock W' fm o') base B Bc Bd fm (S.write i) D Dd∧q12z w D (ChangeMaps.setBlock W' fm o')):=by
  intro W W' hW hT hd hT2
  have h2:=hW.dsk hd hT2
  obtain⟨o',hup,ho'⟩:=IM.run_update (P:=Tryz.prog) (T:=115) Tryz.underlying115 Tryz.underlying3 h2.fly ((S.disk.last+1:Nat):Int) i
  have ho2:IM.IsMap intV o' (S.fly ++ [(((S.disk.last+1:Nat):Int),i)]):=by
   rw[←hsm]
   exact ho'
  obtain⟨h3,h4⟩:=h2.setFly ho2
  refine⟨zc 4 h2.obj,o',hup,?_,hT.trans ((hT2.ownT h.sub).trans h4)⟩
  rw[←hwp]
  exact h3
 have hcell:∀W S',SideP W base B Bc Bd fm S' D Dd→W.cell? ⟨B,0,none⟩=some (.pointer (some ⟨Bc,0,none⟩))∧W.cell? ⟨B,1,none⟩=some (.pointer (some ⟨Bd,0,none⟩))∧W.cell? ⟨B,2,none⟩=some (.int .i64 S'.node)∧W.cell? ⟨B,3,none⟩=some (.int .i64 S'.epoch):=fun W S' hW=>
  ⟨zc 0 hW.obj,zc 1 hW.obj,zc 2 hW.obj,zc 3 hW.obj⟩
 have HC0:Hid (∀W,Below w.heap.size w W→W.cell? ⟨B,0,none⟩=some (.pointer (some ⟨Bc,0,none⟩))∧W.cell? ⟨B,1,none⟩=some (.pointer (some ⟨Bd,0,none⟩))):=fun W hW=>⟨(hcell W S (h.below hW)).1,(hcell W S (h.below hW)).2.1⟩
 have HC3:Hid (∀W,SideP W base B Bc Bd fm { S with deps:=S.deps.send i } D Dd→W.cell? ⟨B,1,none⟩=some (.pointer (some ⟨Bd,0,none⟩))∧W.cell? ⟨B,2,none⟩=some (.int .i64 0)∧W.cell? ⟨B,3,none⟩=some (.int .i64 0)):=fun W hW=>by
  have:=(hcell W _ hW).2
  rw[show({ S with deps:=S.deps.send i }:Sp.Side).node=0 from hf.node.1,show({ S with deps:=S.deps.send i }:Sp.Side).epoch=0 from hf.node.2] at this
  exact this
 have HDd:Hid (∀j,Dd j→j<w.heap.size):=fun j hj=>hD j (h.sub j hj)
 obtain⟨dS,hdS⟩:=zx (S.deps.send i)
 rw[hdS] at hse HNext HIss HEnd HC3
 obtain⟨S1,hS1⟩:=zx (({ S with deps:=dS }:Sp.Side))
 rw[hS1] at HNext HIss HEnd HC3
 obtain⟨dW,hdW⟩:=zx (toldW S.disk i s)
 rw[hdW] at HIss HEnd
 obtain⟨S2,hS2⟩:=zx (S.write i)
 rw[hS2] at HEnd ⊢
 obtain⟨N,hN⟩:∃n:Int,((S.disk.last+1:Nat):Int)=n:=⟨_,rfl⟩
 rw[hN] at HIss HEnd ⊢
 obtain⟨t,ht⟩:=zx (S.disk.get i)
 rw[ht] at hrd him
 unfold pt at hrd him hse HIss ⊢
 obtain⟨c0,c1⟩:=HC0.out w (Below.refl _ _)
 have HRD:=zh hrd
 have HIM:=zh him
 have HSE:=zh hse
 clear hrd him hse
 clear h hD hf hi hn hr hfew hlast hsz hiz hwl hkeys hwp hs hno hsm hcell hdS hS1 hdW hS2 hN ht
 go_enter Tryz.func168,Tryz.ntmps168
 go_wp2_with fail
 clear c0 c1
 refine HRD.out.mono ?_
 rintro e w1 ⟨rfl,hw1⟩
 replace hw1:=hw1.symm
 subst hw1
 obtain⟨c0,c1⟩:=HC0.out w (Below.refl _ _)
 go_wp2_with fail
 clear c0 c1
 refine(HIM.out w (Below.refl _ _)).mono ?_
 rintro e w2 ⟨rfl,hb2⟩
 have HB2:=zh hb2
 obtain⟨c0,c1⟩:=HC0.out w2 hb2
 clear hb2 HIM HRD
 go_wp2_with fail
 clear c0 c1
 refine(HSE.out w2 HB2.out).mono ?_
 rintro e w3 ⟨a3,n3,c3,rfl,hd3,hT3⟩
 obtain⟨hp3,ht3,hs3⟩:=HNext.out w2 w3 HB2.out rfl hd3 hT3
 have hbd:Below w3.heap.size w3 w3.drew:=blD (Below.refl _ _)
 have hiss:=(HIss.out w3.drew (hp3.below hbd) hs3).mono (fun e w' h=>(⟨h.1,h.2.1,q20z.trans (fun j hj=>Nat.lt_of_lt_of_le (HDd.out j hj) hs3) (q20z.of_below hbd) h.2.2⟩:e = .returned (.tuple #[.int .i64 N,.int .i64 0])∧DiskAt w' 0 Bd dW Dd∧q20z w3 Dd w'))
 have HI:=zh hiss
 have HFin:=zh (fun W'=>HEnd.out w3 W' hp3 ht3)
 have hS:∀W,Below w3.heap.size w3 W→W.cell? ⟨B,1,none⟩=some (.pointer (some ⟨Bd,0,none⟩))∧W.cell? ⟨B,2,none⟩=some (.int .i64 0)∧W.cell? ⟨B,3,none⟩=some (.int .i64 0):=fun W hW=>HC3.out W (hp3.below hW)
 have hSd:=hS w3.drew hbd
 clear hd3 hT3 hp3 ht3 hs3 hS hiss hbd HNext HIss HEnd HSE HC0 HC3 HDd
 go_upto_region 8 with fail
 refine wp_region_last (fun W=>W.cell? ⟨B,1,none⟩=some (.pointer (some ⟨Bd,0,none⟩))∧W.cell? ⟨B,2,none⟩=some (.int .i64 0)∧W.cell? ⟨B,3,none⟩=some (.int .i64 0)) 14 (by kernel_rfl) (by first | trivial | assumption) (fun hHeld hX0=>?_)
 refine tkU 0 ?_; clear hX0; intro hX0; simp only[Act.put,ps0]
 refine tkU 1 ?_; clear hX0; intro hX0; simp only[Act.put,ps0]
 refine tkU 2 ?_; clear hX0; intro hX0; simp only[Act.put,ps0]
 refine tkU 3 ?_; clear hX0; intro hX0; simp only[Act.put,ps0]
 refine tkU 4 ?_; clear hX0; intro hX0; simp only[Act.put,ps0]
 refine tkU 5 ?_; clear hX0; intro hX0; simp only[Act.put,ps0]
 refine tkU 6 ?_; clear hX0; intro hX0; simp only[Act.put,ps0]
 refine tkU 7 ?_; clear hX0; intro hX0; simp only[Act.put,ps0]
 refine tkU 8 ?_; clear hX0; intro hX0; simp only[Act.put,ps0]
 refine tkU 9 ?_; clear hX0; intro hX0; simp only[Act.put,ps0]
 refine tkU 10 ?_; clear hX0; intro hX0; simp only[Act.put,ps0]
 refine tkU 11 ?_; clear hX0; intro hX0; simp only[Act.put,ps0]
 refine tkU 12 ?_; clear hX0; intro hX0; simp only[Act.put,ps0]
 refine tkU 13 ?_; clear hX0; intro hX0; simp only[Act.put,ps0]
 refine AnyU.each (is:=[14]) (by kernel_rfl) (by simp) (EachU.cons hX0 (by kernel_rfl) rfl (fun K hK=>?_) EachU.nil)
 try simp only[gg0]
 go_simp
 refine HI.out.mono ?_
 rintro e w4 ⟨rfl,hd4,hT4⟩
 try simp only
 refine hK.out _ _ (fun h=>absurd h (by decide)) (fun _ hX1=>?_)
 clear hK K hX0; have hX0:=hX1; clear hX1
 try simp only[Act.put,ps0]
 refine pkU 15 ?_; clear hX0; intro hX0; simp only[Act.put,ps0]
 refine pkU 16 ?_; clear hX0; intro hX0; simp only[Act.put,ps0]
 refine pkU 17 ?_; clear hX0; intro hX0; simp only[Act.put,ps0]
 refine pkU 18 ?_; clear hX0; intro hX0; simp only[Act.put,ps0]
 refine pkU 19 ?_; clear hX0; intro hX0; simp only[Act.put,ps0]
 refine AnyU.done (by kernel_rfl) ?_ _
 obtain⟨c4,o',hup,hp5,ht5⟩:=HFin.out w4 hd4 hT4
 have HP5:=zh hp5
 have HT5:=zh ht5
 clear hp5 ht5
 clear hSd hHeld hX0 hd4 hT4 HFin HI
 go_wp2
 go_ret2
 exact⟨rfl,HP5.out,HT5.out⟩
theorem softWriteAll_any {w:World} {base B Bc Bd fm:Nat} {S:Sp.Side} {D Dd:Nat→Prop} (h:SideP w base B Bc Bd fm S D Dd) (hD:∀j,D j→j<w.heap.size) (hf:S.Fl) (hlast:S.disk.last+1024<1000000000) :
 Calls Tryz.prog 87 #[pt B] w fun e w'=>(∃v,e = .returned v)∧SideP w' base B Bc Bd fm S.writeAll D Dd∧q12z w D w':=by
 have hsec:=depsSectors_any h.deps hf.tied (fun c hc=>by
  have h1:=(hf.at_ c hc).1
  have h2:=hf.size
  unfold Sp.Disk.has at h1
  omega)
 have hlen:=sectors_len hf
 have hat:=writes_at S.deps.sectors S hf (q80z _) hf.may_of
 have hwa:S.writeAll=S.deps.sectors.foldl Side.write S:=rfl
 rw[hwa]
 obtain⟨L,hL⟩:=zx (S.deps.sectors)
 rw[hL] at hsec hlen hat ⊢
 have hst:∀k i,L[k]? = some i→(L.take (k+1)).foldl Side.write S=((L.take k).foldl Side.write S).write i:=fun k i hi=>by
  rw[q31z hi,List.foldl_append]
  rfl
 have HW:Hid (∀(W:World) k i,w.heap.size≤W.heap.size→SideP W base B Bc Bd fm ((L.take k).foldl Side.write S) D Dd→L[k]? = some i→Calls Tryz.prog 168 #[pt B,.int .i64 i] W fun e w'=>∃N:Int,e = .returned (.tuple #[.int .i64 N,.int .i64 0])∧SideP w' base B Bc Bd fm ((L.take (k+1)).foldl Side.write S) D Dd∧q12z W D w'):=by
  intro W k i hs hW hi
  have hk:=(List.getElem?_eq_some_iff.1 hi).1
  obtain⟨a1,a2,a3⟩:=hat k (Nat.le_of_lt hk)
  have hm:=a2 i (by rw[List.drop_eq_getElem_cons hk,(List.getElem?_eq_some_iff.1 hi).2]; exact List.mem_cons_self ..)
  rw[hst k i hi]
  refine(softWrite_any hW (fun j hj=>Nat.lt_of_lt_of_le (hD j hj) hs) a1 i hm.1 hm.2.2.1 hm.2.2.2 (a1.fly_few hm) (by rw[a3]; omega)).mono ?_
  rintro e w' ⟨rfl,h1,h2⟩
  exact⟨_,rfl,h1,h2⟩
 have c0:=zc 0 h.obj
 have HEnd:Hid (L.take L.length=L):=List.take_length
 obtain⟨T,hT⟩:∃T:Nat→Sp.Side,(fun k=>(L.take k).foldl Side.write S)=T:=⟨_,rfl⟩
 have hTk:∀k,(L.take k).foldl Side.write S=T k:=fun k=>congrFun hT k
 have hTe:L.foldl Side.write S=T L.length:=by rw[←hTk,List.take_length]
 have hT0:S=T 0:=by rw[←hTk]; rfl
 simp only[hTk] at HW
 rw[hTe]
 have hS0:SideP w base B Bc Bd fm (T 0) D Dd:=hT0 ▸ h
 have HD:=zh hD
 unfold pt at c0 hsec HW ⊢
 have HSEC:=zh hsec
 have HS0:=zh hS0
 have HLEN:=zh hlen
 clear hsec hS0 hlen
 clear h hD hf hlast hat hwa hst hT hTk hTe hT0 hL
 go_enter Tryz.func87,Tryz.ntmps87
 go_wp2_with fail
 clear c0
 refine HSEC.out.mono ?_
 rintro e w1 ⟨v,rfl,hv1,hb1⟩
 obtain⟨ad,n,cap,rfl,HN,hn2,HF⟩:=RowAt.facts (OwnR.row (f:=intC) (fun _ _=>rfl) hv1)
 have hn1:n≤1024:=by have:=HN.out; have:=HLEN.out; omega
 have hDv:∀b o,ad=some ⟨b,o,none⟩→¬D b:=fun b o e hd=>by
  subst e
  obtain⟨_,⟨e,_⟩ | ⟨g,cp,cur,e,hg,_⟩⟩:=hv1
  ·cases e
  ·cases e
   have:=HD.out b hd
   omega
 have HDV:=zh hDv
 have HSP1:=zh (HS0.out.below hb1)
 have HBW:=zh hb1
 have hw1:w.heap.size≤w1.heap.size:=hb1.size
 clear hv1 hb1 hDv HSEC HS0
 go_wp2
 go_loopw [3,14] (fun out q wr=>∃k:Nat,k≤n∧q = .int .i64 (k:Int)∧Hid (SideP wr base B Bc Bd fm (T k) D Dd)∧Hid (q12z w1 D wr)∧∃O:List Int,Hid (O.length=k)∧Hid (OwnR 3 1 intC w1.heap.size wr out O)) (fun _ q _=>n-(intOf q).toNat)
 case atStart=>exact⟨0,Nat.zero_le _,rfl,HSP1,q12z.of_below (Below.refl _ _),[],rfl,OwnR.void _ _⟩
 case round=>
  clear HSP1
  obtain⟨k,hk,rfl,HP,HT,O,HOL,HO⟩:=hrel
  by_cases hlt:k<n
  ·obtain⟨b,o,i,rfl,hb,hx,hc⟩:=HF.out k hlt
   have hnd:=HDV.out b o rfl
   have c0:wr.cell? ⟨b,o+k,none⟩=some (.int .i64 i):=by
    obtain⟨K,k1,hT⟩:=HT.out
    have:=hc 0 _ rfl
    simp only[Nat.mul_one,Nat.add_zero] at this
    rw[←this]
    unfold World.cell?
    have hbb:b<w1.heap.size:=hb
    rw[hT.block b hbb (fun hK=>hnd (k1 b hK))]
   have hsz:=HT.out.size
   have hwr:=HW.out wr k i (Nat.le_trans hw1 hsz) HP.out hx
   have HWr:=zh hwr
   have k1:(k:Int)<(n:Int):=by omega
   clear hwr hx hc hb hnd
   go_wp2_with fail
   clear c0
   refine HWr.out.mono ?_
   rintro e w4 ⟨N,rfl,hp4,ht4⟩
   have HP4:=zh hp4
   have HT4:=zh (HT.out.trans ht4)
   have HO4:=zh (HO.out.ownT ht4 (fun j hj=>Nat.lt_of_lt_of_le (HD.out j hj) hw1))
   have hs4:w1.heap.size≤w4.heap.size:=HT4.out.size
   have HB4:Hid (Below w1.heap.size w4 w4):=Below.refl _ _
   have hll:O.length≤1024:=by have:=HOL.out; omega
   clear hp4 ht4 HWr HP HT HO
   go_upto_region 7 with fail
   obtain⟨ia7,ib7,ic7,id7,ie7⟩:=info_parts q81z
   have hrow7:=HO4.out
   unfold OwnR at hrow7
   have HRow7:=zh hrow7
   clear hrow7
   have HIb7:=zh ib7
   have HIc7:=zh ic7
   have HId7:=zh id7
   have HIe7:=zh ie7
   clear ib7 ic7 id7 ie7
   go_wp2_with (at_builtin; refine wpList_append_lies _ rfl _ _ _ rfl w1.heap.size 3 ia7 _ 1 8 Tryz.underlying58 HIb7.out HIc7.out HId7.out HIe7.out rfl (by decide) _ _ _ rfl (HRow7.out.alloc _) ⟨w4.heap.size,0,none⟩ 1 1 [.int .i64 N] rfl rfl (World.news_of_block (cs:=#[.int .i64 N]) (t:=3) (fr:=(0,0)) (heapNew w4 _)) (by simp[Value.oneCell']) (by omega) ?c1 ?c2 ?c3 (w4.heap.size+1) (by simp) ?_)
   case c1=>unfold maxLen; omega
   case c2=>omega
   case c3=>have:=HB4.out.size; first | (simp; done) | (simp; omega)
   intro g7 cap7 w7 hown7 hgrow7 hat7 hlt7
   have HO7:=zh (OwnR.snoc (f:=intC) (x:=N) hown7 rfl rfl)
   have HB7:Hid (Below w1.heap.size w4 w7):=Below.grown ((bl2 (w:=w4) _).mono hs4) hgrow7 (Nat.le_trans hs4 (bl2 (w:=w4) _).size) (fun q hq=>(HRow7.out.lt q hq).1)
   clear hown7 hgrow7 hat7 hlt7 HRow7
   have HP7:=zh (HP4.out.lowB (fun j hj=>Nat.lt_of_lt_of_le (HD.out j hj) hw1) HB7.out)
   have HT7:=zh (HT4.out.lowB HB7.out)
   clear HP4 HT4 HO4 HB4 HB7
   go_wp2
   go_roundw
   case rel=>exact⟨k+1,by omega,by go_num,HP7,HT7,O ++ [N],by show(O ++ [N]).length=k+1; rw[List.length_append,HOL.out]; rfl,HO7⟩
   case measure=>simp[intOf]; omega
  ·have hkn:k=L.length:=by have:=HN.out; omega
   have hp:=HP.out
   rw[hkn] at hp
   have HE:Hid (SideP wr base B Bc Bd fm (T L.length) D Dd∧q12z w D wr):=⟨hp,(q12z.of_below HBW.out).trans HT.out⟩
   have k1:¬((k:Int)<(n:Int)):=by omega
   clear hp HW
   go_wp2
   go_ret
   exact⟨⟨_,rfl⟩,HE.out.1,HE.out.2⟩
end
end Go.Proofs.YtgofmnhfajmbfaaGreatDoor
namespace Go.Proofs.YtgofmnhfajmbfaaGreatDoor
open Go Go.RowKit
def q94z (x:Int) (n:Nat):Int:=(x.tmod (n:Int)+n).tmod n
theorem amongJ_bd (x:Int) (n:Nat) (h0:0<n):0≤q94z x n∧q94z x n<n:=by
 have h2:-(n:Int)<x.tmod (n:Int):=Int.lt_tmod_of_pos x (by omega)
 exact⟨Int.tmod_nonneg _ (by omega),Int.tmod_lt_of_pos _ (by omega)⟩
theorem q147z (w:World) (x:Int) (n:Nat) (h0:0<n) (hn:n≤4000000000) :
 Calls Tryz.prog 18 #[.int .i64 x,.int .i64 n] w fun e w'=>e = .returned (.int .i64 (q94z x n))∧w' = w:=by
 have h1:x.tmod (n:Int)<n:=Int.tmod_lt_of_pos x (by omega)
 have h2:-(n:Int)<x.tmod (n:Int):=Int.lt_tmod_of_pos x (by omega)
 have hw:wrap64 (x.tmod (n:Int)+n)=x.tmod (n:Int)+n:=IntWalk.wrap64_in _ ⟨by omega,by omega⟩
 have HY:Hid ((wrap64 (x.tmod (n:Int)+n)).tmod n=q94z x n):=by show(wrap64 (x.tmod (n:Int)+n)).tmod n=_; rw[hw]; rfl
 clear h1 h2 hw
 go_enter Tryz.func18,Tryz.ntmps18
 go_wp2
 go_ret
 rw[HY.out]
 exact⟨rfl,rfl⟩
end Go.Proofs.YtgofmnhfajmbfaaGreatDoor
namespace Go.Proofs.YtgofmnhfajmbfaaGreatDoor
open Go Go.RowKit Txt Sp
section
end
section
theorem softUnder_any {w:World} {base B Bc Bd fm:Nat} {S:Sp.Side} {D Dd:Nat→Prop} (h:SideP w base B Bc Bd fm S D Dd) (hf:S.Fl) (hlast:S.disk.last≤1000000000) (hfew:S.fly.length≤1024) :
 Calls Tryz.prog 88 #[pt B] w fun e w'=>∃v,e = .returned v∧OwnR 3 1 intC w.heap.size w' v S.unders∧Below w.heap.size w w':=by
 have hwf:∀x∈S.fly,(Lit.int .i64 x.1).wf=true:=fun x hx=>by
  have:=(hf.flyB x hx).1
  show(decide (IntKind.i64.min≤x.1) && decide (x.1≤IntKind.i64.max))=true
  rw[Bool.and_eq_true,decide_eq_true_iff,decide_eq_true_iff]
  have e1:IntKind.i64.min = -9223372036854775808:=by decide
  have e2:IntKind.i64.max=9223372036854775807:=by decide
  omega
 have hso:=isorted2_any h.fly hwf (by omega)
 have hk:=fun W:World=>ikeys2_any (some fm) W
 have c4:w.cell? ⟨B,4,none⟩=some (.map (some fm)):=zc 4 h.obj
 have HU:Hid (S.unders=(S.fly.map (·.1)).mergeSort (fun x y=>decide (x≤y))):=rfl
 rw[HU.out]
 unfold pt
 have HSO:=zh hso
 have HK:=zh hk
 clear hso hk
 clear h hf hlast hfew hwf
 go_enter Tryz.func88,Tryz.ntmps88
 go_wp2_with fail
 clear c4
 refine(HK.out _).mono ?_
 rintro e w8 ⟨rfl,rfl⟩
 go_wp2_with fail
 refine HSO.out.mono ?_
 rintro e w9 ⟨v,rfl,hv9,hb9⟩
 have HE:Hid (OwnR 3 1 intC w.heap.size w9 v ((S.fly.map (·.1)).mergeSort (fun x y=>decide (x≤y)))∧Below w.heap.size w w9):=⟨OwnR.mono (f:=intC) hv9 (Nat.le_succ _),blN (bl2 _) hb9⟩
 clear hv9 hb9 HSO HK
 go_wp2
 go_ret
 exact⟨_,rfl,HE.out.1,HE.out.2⟩
def endS (S:Sp.Side) (n i:Int) (b:Bool):Sp.Side:={ S with fly:=without S.fly n,deps:=if b=true then S.deps.done i else S.deps.lost i }
theorem softEnd_any {w:World} {base B Bc Bd fm:Nat} {S:Sp.Side} {D Dd:Nat→Prop} (h:SideP w base B Bc Bd fm S D Dd) (hD:∀j,D j→j<w.heap.size) (hfew:S.deps.l.length≤1024) (n i:Int) (hn:IM.getM S.fly n=some i) (hu:S.deps.under i) (b:Bool) :
 Calls Tryz.prog 90 #[pt B,.int .i64 n,.bool b] w fun e w'=>e = .returned (.tuple #[.int .i64 i,.int .i64 0])∧SideP w' base B Bc Bd fm (endS S n i b) D Dd∧q12z w D w':=by
 have hlk:=IM.run_lookup2 (P:=Tryz.prog) (T:=115) Tryz.underlying115 Tryz.underlying3 (z:=.int .i64 0) (by kernel_rfl) h.fly n
 rw[hn] at hlk
 obtain⟨o',hdl,ho'⟩:=IM.run_delete (P:=Tryz.prog) (T:=115) (ty:=0) Tryz.underlying115 Tryz.underlying3 h.fly n
 have ho2:IM.IsMap intV o' (without S.fly n):=ho'
 obtain⟨h2,t2⟩:=h.setFly ho2
 obtain⟨W,hW⟩:=zx (ChangeMaps.setBlock w fm o')
 rw[hW] at hdl h2 t2
 have c4:w.cell? ⟨B,4,none⟩=some (.map (some fm)):=zc 4 h.obj
 have c0:W.cell? ⟨B,0,none⟩=some (.pointer (some ⟨Bc,0,none⟩)):=zc 0 h2.obj
 have hD2:∀j,D j→j<W.heap.size:=fun j hj=>Nat.lt_of_lt_of_le (hD j hj) t2.size
 have hdo:=depsDone_any h2.deps hD2 hfew i hu
 have hlo:=depsLost_any h2.deps hD2 hfew i
 have hlc:lostC S.deps i=0:=if_neg (fun e=>places_under.1 e hu)
 have hle:=lostD_eq S.deps i
 rw[show lostC ({ S with fly:=without S.fly n }:Sp.Side).deps i=0 from hlc,show lostD ({ S with fly:=without S.fly n }:Sp.Side).deps i=S.deps.lost i from hle] at hlo
 have HEnd:Hid (∀W' d,DepsAt W' base Bc d D→q17z W D W'→SideP W' base B Bc Bd fm { S with fly:=without S.fly n,deps:=d } D Dd∧q12z w D W'):=fun W' d hd hT=>⟨h2.chg hd hT,t2.trans hT.ownT⟩
 unfold pt at hdo hlo ⊢
 unfold endS
 have HDO:=zh hdo
 have HLO:=zh hlo
 clear hdo hlo
 clear h hD hfew hn hu ho' ho2 h2 t2 hW hD2 hlc hle
 cases b with
 | true=>
   go_enter Tryz.func90,Tryz.ntmps90
   go_wp2_with fail
   clear c0 c4 hdl hlk
   refine HDO.out.mono ?_
   rintro e w2 ⟨a2,n2,c2,rfl,hd,hT⟩
   have HE:=zh (HEnd.out w2 _ hd hT)
   clear hd hT
   go_wp2
   go_ret2
   exact⟨rfl,HE.out.1,HE.out.2⟩
 | false=>
   go_enter Tryz.func90,Tryz.ntmps90
   go_wp2_with fail
   clear c0 c4 hdl hlk
   refine HLO.out.mono ?_
   rintro e w2 ⟨rfl,hd,hT⟩
   have HE:=zh (HEnd.out w2 _ hd hT)
   clear hd hT
   go_wp2
   go_ret2
   exact⟨rfl,HE.out.1,HE.out.2⟩
end
section
variable {w:World} {base B Bc Bd fm:Nat} {S:Sp.Side} {D Dd:Nat→Prop} {n i:Int}
def landS (S:Sp.Side) (n i:Int):Sp.Side:={ S with disk:=landD S.disk n i.toNat (S.deps.sent i (S.disk.get i)) }
theorem apply_fly (h:SideP w base B Bc Bd fm S D Dd) (hD:∀j,D j→j<w.heap.size) (hf:S.Fl) (hm:(n,i)∈S.fly) :
 Calls Tryz.prog 89 #[pt Bd,.int .i64 n] w fun e w'=>e = .returned (.tuple #[.bool true,.int .i64 0])∧SideP w' base B Bc Bd fm (landS S n i) D Dd∧q12z w D w':=by
 obtain⟨⟨h0,h1⟩,hu,hw⟩:=q160z hf hm
 have hx:=waits_get hf hm
 have hi:((i.toNat:Nat):Int)=i:=Int.toNat_of_nonneg h0
 refine(diskApply_any h.disk (fun j hj=>hD j (h.sub j hj)) hf.fence n i.toNat (S.deps.sent i (S.disk.get i)) (by rw[hi]; exact hx) (by omega)).mono ?_
 rintro e w' ⟨rfl,hd,hT⟩
 exact⟨rfl,h.dsk hd hT,hT.ownT h.sub⟩
theorem end_landed (h:SideP w base B Bc Bd fm (landS S n i) D Dd) (hD:∀j,D j→j<w.heap.size) (hf:S.Fl) (hm:(n,i)∈S.fly) :
 Calls Tryz.prog 90 #[pt B,.int .i64 n,.bool true] w fun e w'=>e = .returned (.tuple #[.int .i64 i,.int .i64 0])∧SideP w' base B Bc Bd fm (S.landed n i) D Dd∧q12z w D w':=by
 obtain⟨-,hu,hw⟩:=q160z hf hm
 exact softEnd_any h hD hf.tied.ok.few n i hw hu true
theorem end_strayed (h:SideP w base B Bc Bd fm S D Dd) (hD:∀j,D j→j<w.heap.size) (hf:S.Fl) (hm:(n,i)∈S.fly) :
 Calls Tryz.prog 90 #[pt B,.int .i64 n,.bool false] w fun e w'=>e = .returned (.tuple #[.int .i64 i,.int .i64 0])∧SideP w' base B Bc Bd fm (endS S n i false) D Dd∧q12z w D w':=by
 obtain⟨-,hu,hw⟩:=q160z hf hm
 exact softEnd_any h hD hf.tied.ok.few n i hw hu false
theorem drop_fly (h:SideP w base B Bc Bd fm (endS S n i false) D Dd) (hD:∀j,D j→j<w.heap.size) (hf:S.Fl) (hm:(n,i)∈S.fly) :
 Calls Tryz.prog 91 #[pt Bd,.int .i64 n] w fun e w'=>e = .returned (.int .i64 0)∧SideP w' base B Bc Bd fm (S.strayed n i) D Dd∧q12z w D w':=by
 have hx:=waits_get hf hm
 refine(diskDrop_any h.disk (fun j hj=>hD j (h.sub j hj)) n _ hx).mono ?_
 rintro e w' ⟨rfl,hd,hT⟩
 exact⟨rfl,h.dsk hd hT,hT.ownT h.sub⟩
end
def q49z (l:List Int) (k:Nat):Int:=match l[k]? with
 | some x=>q94z x 3
 | none=>0
theorem endK_zero {S:Sp.Side} (hf:S.Fl) {n i:Int} (hm:(n,i)∈S.fly):S.endK 0 n=S.landed n i:=by
 unfold Sp.Side.endK
 rw[(q160z hf hm).2.2]
 rfl
theorem endK_one {S:Sp.Side} (hf:S.Fl) {n i:Int} (hm:(n,i)∈S.fly):S.endK 1 n=S.strayed n i:=by
 unfold Sp.Side.endK
 rw[(q160z hf hm).2.2]
 rfl
theorem endK_two {S:Sp.Side} (n:Int):S.endK 2 n=S:=by
 unfold Sp.Side.endK
 split
 ·rfl
 ·rfl
theorem picks_cell {W:World} {pd:Option Addr} {pn pc:Nat} {l:List Int} (h:Ints W (.slice pd pn pc) l) {k:Nat} (hk:k<pn):∃b o x,pd=some ⟨b,o,none⟩∧l[k]? = some x∧W.cell? ⟨b,o+k,none⟩=some (.int .i64 x):=by
 obtain⟨ad,n,cap,e,HN,hn2,HF⟩:=RowAt.facts (f:=fun n:Int=>[Value.int .i64 n]) h
 cases e
 obtain⟨b,o,x,rfl,hb,hx,hc⟩:=HF.out k hk
 refine⟨b,o,x,rfl,hx,?_⟩
 have:=hc 0 _ rfl
 simpa using this
