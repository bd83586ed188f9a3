/-
 Walks of layer 17: Add where the directory grows.
-/
import Derived.Test.YtaphcmcimoloiaaGreatDoorDirAddIn
import Derived.Test.YtaphcmcimoloiaaGreatDoorDirNames
set_option maxRecDepth 20000
set_option maxHeartbeats 4000000
namespace Go.Proofs.YtaphcmcimoloiaaGreatDoor
open Go Go.RowKit Txt Sp
def AddOut (w:World) (base B Bd:Nat) (t':BSt) (D:Nat→Prop) (x:Sp.Entry) (b:Int) (e:Ending) (w':World):Prop:=
 ∃v,e = .returned (.tuple #[v,.int .i64 0])∧OwnR 3 1 intC w.heap.size w' v (t'.made ++ [t'.S.changeN b (((0:Nat):Int)*16) (ofL (slotL x)) []])∧q15z w base B Bd (t'.S.change b (((0:Nat):Int)*16) (ofL (slotL x)) []) D w'
theorem addOut_end {w W7 w8 w9 w10 w11:World} {base B Bd z:Nat} {t':BSt} {S':Sp.Side} {D D' K K':Nat→Prop} {v v':Value} {o:Obj} {N:Int} (hbs:base≤w.heap.size) (h7:Below w.heap.size w W7) (hK:∀j,K j→D j) (hT8:Turn K W7 w8) (hz:w.heap.size≤z∧z<W7.heap.size) (hT9:Turn (fun j=>j=z) w8 w9)
 (ho9:OwnR 3 1 intC W7.heap.size w9 v t'.made) (hsub:∀j,D' j→D j∨(W7.heap.size≤j∧j<w8.heap.size)) (hap:∀k,v.ownBlock=some k→¬D' k) (hs10:SideAt w10 base B Bd S' (fun j=>D' j∨(w9.heap.size≤j∧j<w10.heap.size))) (hK':∀j,K' j→D' j) (hT10:Turn K' w9 w10)
 (hg:(w10.alloc o).grownBy w11 v.ownBlock) (hown:OwnR 3 1 intC W7.heap.size w11 v' (t'.made ++ [N])):OwnR 3 1 intC w.heap.size w11 v' (t'.made ++ [N])∧q15z w base B Bd S' D w11:=by
 have e7:=h7.size
 have e8:=hT8.size
 have e9:=hT9.size
 have e10:=hT10.size
 have e11:w10.heap.size<w11.heap.size:=by have:=hg.size; simp at this; omega
 have hT11:Turn (fun j=>v.ownBlock=some j) (w10.alloc o) w11:=⟨hg.os,hg.tape,hg.output,hg.size,fun k hk hne=>hg.block k hk (fun e=>hne e.symm)⟩
 refine⟨hown.mono e7,((hs10.below (bl2 o)).turn hT11 (fun j hj hk=>?_) (fun j e=>by have:=(ho9.lt j e).1; omega)).mono (fun j hj=>?_),D,fun _ h=>h,?_⟩
 ·rcases hj with hj | hj
  ·exact hap j hk hj
  ·have:=(ho9.lt j hk).2
   omega
 ·rcases hj with hj | hj
  ·rcases hsub j hj with h | h
   ·exact Or.inl h
   ·exact Or.inr ⟨by omega,by omega⟩
  ·exact Or.inr ⟨by omega,by omega⟩
 ·have a1:Turn D w w8:=(Turn.of_below (K:=D) h7).trans hT8 (fun _ _ h=>h) (fun _ _ h=>hK _ h)
  have a2:Turn D w w9:=a1.trans hT9 (fun _ _ h=>h) (fun j hj e=>by omega)
  have a3:Turn D w w10:=a2.trans hT10 (fun _ _ h=>h) (fun j hj e=>(hsub j (hK' j e)).elim (fun h=>h) (fun h=>by omega))
  have a4:Turn D w (w10.alloc o):=a3.trans (Turn.of_below (K:=D) (bl2 o)) (fun _ _ h=>h) (fun _ _ h=>h)
  exact a4.trans hT11 (fun _ _ h=>h) (fun j hj e=>by have:=(ho9.lt j e).1; omega)
section
theorem dirAddOut_any {w:World} {base Bs Bd:Nat} {S:Sp.Side} {D:Nat→Prop} (h:SideAt w base Bs Bd S D) {g:Sp.Geom} {i:Int} {F:File} (hs:Stands S g i F) (hd:DirOk S.read F) (hb:∀b∈F.blocks,0≤b) (hh:∀b∈q19z F,S.disk.has b) (hm:MaxOk w) (hmt:∀W',Turn D w W'→MaxOk W') (x:Sp.Entry) (hxs:x.name.size≤maxLen) (hD:∀j,D j→j<w.heap.size) (hlast:S.deps.last≤900000000) (hmay:x.may) (hxi:x.inode≠0) (hno:findE (ents S.read F) x.name=none) (hno2:findE (ents S.read F) ⟨#[]⟩=none)
 (vk:Value) (ks:List Int) (hv:∀W,Turn D w W→Ints W vk ks) (hks:∀k∈ks,0≤k∧k<g.groups) (q:Nat) (hq40:q≤40) (hqs:F.size=((64*q:Nat):Int))
 (c:Int) (hc:((⟨S,F,[]⟩:BSt).writeC g i ks 1 (64*q) Sp.blank.data.toList)=c) (hq39:q<40) (hc0:c=0) (t':BSt) (ht:((⟨S,F,[]⟩:BSt).write g i ks 1 (64*q) Sp.blank.data.toList)=t') (b:Int) (hst:Stands t'.S g i t'.F∧t'.F.blocks[q]? = some b) (hlast2:t'.S.deps.last<1000000000) (hml:t'.made.length≤100000) (hcc:t'.S.changeC b (((0:Nat):Int)*16) (ofL (slotL x)) []=0) :
 Calls Tryz.prog 36 #[pt Bs,gV g,.int .i64 i,eV x,vk,.slice none 0 0] w (AddOut w base Bs Bd t' D x b):=by
 have hbs:=h.baseLe
 have hop:=fun(W:World) (hW:Below w.heap.size w W)=>q154z (h.below hW) hs hd hb hh (hm.below hW)
 have hpu:=fun(W:World) (hW:Below w.heap.size w W)=>eput_any W 0 x (hm.below hW) hxs
 have hfi:=fun(W W':World) (base B:Nat) (hd:DirAt W base B F.node S.read (q19z F)) (hb:Below W.heap.size W W') (nm:ByteArray)=>dfind_any (hd.below hb) nm
 have hgr:=fun(W W':World) (B:Nat) (base':Nat) (hW:Below w.heap.size w W') (hWW:Below W.heap.size W W') (hda:DirAt W base' B F.node S.read (q19z F)) (hb':w.heap.size≤base')=>show Calls Tryz.prog 112 #[pt Bs,gV g,.int .i64 i,pt B,vk] W' (fun e w'=>∃v,e = .returned (.tuple #[v,.int .i64 b,.int .i64 0])∧q15z W' base Bs Bd t'.S D w'∧q124z W' base Bs Bd D t' v w') from by
  obtain⟨hB,vs,us,hz,-,-⟩:=hda
  refine(dgrown_any (h.below hW) (fun j hj=>by have:=hD j hj; have:=hW.size; omega) hs hlast (by rw[hd.kind]; decide) hb vk ks (fun W2 hT=>hv W2 ((Turn.of_below (K:=D) hW).trans hT (fun _ _ h=>h) (fun _ _ h=>h))) hks (cs:=dirV F.node vs us) q hq40 (q1z hWW hz) (show(dirV F.node vs us)[2]? = some (Value.int .i64 ((64*q:Nat):Int)) by rw[←hqs]; rfl) (fun hk=>by have:=hD _ hk; omega) c t' hc ht b (fun h1 h2=>hst)).mono (fun e w' hp=>?_)
  rcases hp with ⟨h1,h2,h3⟩ | ⟨h1,h2,h3,h4⟩ | ⟨h1,h2,v,h3,_,h4,h5⟩
  ·omega
  ·exact absurd hc0 h2
  ·exact⟨v,h3,h4,h5⟩
 have hdp:=fun(W:World) (D':Nat→Prop) (h:SideAt W base Bs Bd t'.S D') (hm:MaxOk W)=>dput_any h hst.1.ok hlast2 hm b 0 (by decide) x hmay (.slice none 0 0) [] (show Ints W (.slice none 0 0) [] from RowAt.void W 1) (by simp)
 unfold q95z at hdp
 rw[hcc] at hdp
 obtain⟨es,hes⟩:∃es,ents S.read F=es:=⟨_,rfl⟩
 have hes2:(q19z F).flatMap (entsB S.read)=es:=hes
 rw[hes2] at hfi
 rw[hes] at hno hno2
 unfold q112z at hop
 unfold EPut at hpu
 simp only[if_neg (show ¬((0:Int)<0∨4≤(0:Int)) by omega)] at hpu
 simp only[if_pos hmay] at hpu
 obtain⟨V,hV⟩:∃V,S.read=V:=⟨_,rfl⟩
 obtain⟨bl,hbl⟩:∃bl,q19z F=bl:=⟨_,rfl⟩
 obtain⟨nd,hnd⟩:∃nd,F.node=nd:=⟨_,rfl⟩
 rw[hV,hbl,hnd] at hop hfi hgr
 obtain⟨N,hN⟩:∃N,t'.S.changeN b (((0:Nat):Int)*16) (ofL (slotL x)) []=N:=⟨_,rfl⟩
 obtain⟨S',hS'⟩:∃S',t'.S.change b (((0:Nat):Int)*16) (ofL (slotL x)) []=S':=⟨_,rfl⟩
 rw[hN,hS'] at hdp
 obtain⟨Q,hQ⟩:∃Q,AddOut w base Bs Bd t' D x b=Q:=⟨_,rfl⟩
 have HF:Hid (∀W' v,OwnR 3 1 intC w.heap.size W' v (t'.made ++ [N])→q15z w base Bs Bd S' D W'→Q (.returned (.tuple #[v,.int .i64 0])) W'):=fun W' v h1 h2=>by
  rw[←hQ]
  exact⟨v,rfl,by rw[hN]; exact h1,by rw[hS']; exact h2⟩
 have HD:=Lib.hid hD
 have HMax:=Lib.hid hmt
 rw[hQ]
 obtain⟨ga,gb,gc⟩:=g
 obtain⟨xi,xn⟩:=x
 unfold gV pt eV at *
 dsimp only at hop hpu hfi hno hgr hdp HF hxi ⊢
 obtain⟨W0,hW0⟩:∃W,(w.alloc (.cells #[.int .i64 ga,.int .i64 gb,.int .i64 gc] 27)).alloc (.cells #[.int .i64 xi,.string xn] 69)=W:=⟨_,rfl⟩
 have HB0:Hid (Below w.heap.size w W0):=by rw[←hW0]; exact(bl2 _).alloc (by simp) _
 have HG0:Hid (W0.heap[w.heap.size]? = some (.cells #[.int .i64 ga,.int .i64 gb,.int .i64 gc] 27 (0,0))):=by rw[←hW0]; exact q1z (bl2 _) (q2z w _)
 have HX0:Hid (W0.heap[w.heap.size+1]? = some (.cells #[.int .i64 xi,.string xn] 69 (0,0))):=by
  rw[←hW0]
  have a2:=q2z (w.alloc (.cells #[.int .i64 ga,.int .i64 gb,.int .i64 gc] 27)) (.cells #[.int .i64 xi,.string xn] 69)
  rw[World.size_alloc] at a2
  exact a2
 have z0:=cellOf (k:=0) HG0.out rfl
 have z1:=cellOf (k:=1) HG0.out rfl
 have z2:=cellOf (k:=2) HG0.out rfl
 obtain⟨tx,htx⟩:∃t,ofL (slotL ⟨xi,xn⟩)=t:=⟨_,rfl⟩
 rw[htx,show(0:Int)*16=0 from rfl] at hpu
 have HOP:=Lib.hid hop
 have HFI:=Lib.hid hfi
 have HGR:=Lib.hid hgr
 have HPU:=Lib.hid hpu
 have HDP:=Lib.hid hdp
 clear hop hfi hgr hpu hdp
 have HNo:=Lib.hid hno
 have HNo2:=Lib.hid hno2
 have hq:(xi == 0)=false:=by simp[hxi]
 clear h hs hd hb hh hm hmt hxs hno hno2 hes hes2 hV hbl hnd hQ hlast hmay hxi htx hD hv hks hq40 hqs hc ht hst hlast2 hcc hN hS' hc0
 go_enter Tryz.func36,Tryz.ntmps36
 go_wp2_with fail
 clear z0 z1 z2 hW0
 refine(HOP.out W0 HB0.out).mono ?_
 rintro e w1 ⟨B,rfl,hda,hb1⟩
 have HB1:=Lib.hid (blN HB0.out hb1)
 have HX1:=Lib.hid (q1z hb1 HX0.out)
 have HG1:=Lib.hid (q1z hb1 HG0.out)
 have HDA:=Lib.hid hda
 clear hda hb1
 have e0:=cellOf (k:=0) HX1.out rfl
 have e1:=cellOf (k:=1) HX1.out rfl
 go_wp2_with fail
 clear e0 e1
 refine(HPU.out w1 HB1.out).mono ?_
 rintro e w2 ⟨rfl,hb2⟩
 have HBw2:Hid (Below w1.heap.size w1 w2):=hb2
 obtain⟨W3,hW3⟩:∃W,w2.alloc (.cells #[.int .i64 0,.string tx] 163)=W:=⟨_,rfl⟩
 have HB13:Hid (Below w1.heap.size w1 W3):=blN hb2 (by rw[←hW3]; exact bl2 _)
 have HB3:=Lib.hid (blN HB1.out HB13.out)
 have HX3:=Lib.hid (q1z HB13.out HX1.out)
 have e0:=cellOf (k:=0) HX3.out rfl
 have e1:=cellOf (k:=1) HX3.out rfl
 clear hb2
 have HFI2:=Lib.hid (HFI.out w1 W3 _ B HDA.out HB13.out xn)
 rw[HNo.out] at HFI2
 unfold q113z q52z at HFI2
 dsimp only[Option.isSome] at HFI2
 go_wp2_with fail
 clear e0 e1 hW3
 refine HFI2.out.mono ?_
 rintro e w4 ⟨rfl,hb4⟩
 have HB14:Hid (Below w1.heap.size w1 (w4.alloc (.cells #[.int .i64 0,.int .i64 0,.int .i64 0] 72))):=blN HB13.out (blN hb4 (bl2 _))
 have HFI3:=Lib.hid (HFI.out w1 _ _ B HDA.out HB14.out ⟨#[]⟩)
 rw[HNo2.out] at HFI3
 unfold q113z q52z at HFI3
 dsimp only[Option.isSome] at HFI3
 clear hb4
 go_wp2_with fail
 refine HFI3.out.mono ?_
 rintro e w6 ⟨rfl,hb6⟩
 have HB17:Hid (Below w1.heap.size w1 (w6.alloc (.cells #[.int .i64 0,.int .i64 0,.int .i64 0] 72))):=blN HB14.out (blN hb6 (bl2 _))
 have HB7:=Lib.hid (blN HB1.out HB17.out)
 have hg7:=q1z HB17.out HG1.out
 have z0:=cellOf (k:=0) hg7 rfl
 have z1:=cellOf (k:=1) hg7 rfl
 have z2:=cellOf (k:=2) hg7 rfl
 have hz7:=q2z w6 (.cells #[.int .i64 0,.int .i64 0,.int .i64 0] 72)
 have HZ7:=Lib.hid hz7
 have HGR2:=Lib.hid (HGR.out w1 (w6.alloc (.cells #[.int .i64 0,.int .i64 0,.int .i64 0] 72)) B _ HB7.out HB17.out HDA.out HB0.out.size)
 have HSz:Hid (w.heap.size≤w6.heap.size):=by
  have h1:=HB1.out.size
  have h2:=(blN HB14.out hb6).size
  show _≤_
  omega
 have HX6:=Lib.hid (q1z (blN HB14.out hb6) HX1.out)
 have HX7:=Lib.hid (q1z HB17.out HX1.out)
 clear hb6 hg7 hz7
 go_wp2_with fail
 clear z0 z1 z2
 refine HGR2.out.mono ?_
 rintro e w8 ⟨v,rfl,hs8,hf8⟩
 obtain⟨-,K,hK,hT8⟩:=hs8
 obtain⟨ho8,D',hsd8,hsub8,hap8⟩:=hf8
 have hnd:¬D w6.heap.size:=fun hk=>by have h1:=HD.out _ hk; have h2:=HSz.out; omega
 have hx8:=hT8.heap HX7.out (fun hk=>by have h1:=HD.out _ (hK _ hk); omega)
 have hz8:=hT8.heap HZ7.out (fun hk=>hnd (hK _ hk))
 have hxlt:=(Array.getElem?_eq_some_iff.1 HX6.out).1
 have y1:=cellOf (k:=1) hz8 rfl
 have f1:w8.frozen? ⟨w6.heap.size,1,none⟩=false:=q3z hz8
 have hT9:Turn (fun j=>j=w6.heap.size) w8 (w8.setCell ⟨w6.heap.size,1,none⟩ (.int .i64 b)):=q10z (b:=w6.heap.size) (k:=1)
 have hz9:=q8z (k:=1) hz8 (.int .i64 b)
 have hx9:=hT9.heap hx8 (by omega)
 have hw7:(w6.alloc (.cells #[.int .i64 0,.int .i64 0,.int .i64 0] 72)).heap.size=w6.heap.size+1:=World.size_alloc _ _
 have ho9:=ho8.turn hT9 (fun k hk e=>by have:=(ho8.lt k hk).1; omega)
 have hsd9:=hsd8.turn hT9 (fun j hj e=>by
  rcases hsub8 j hj with h | h
  ·rw[e] at h; exact hnd h
  ·omega) (fun j e=>by have h2:=HSz.out; omega)
 have hTw9:Turn D w (w8.setCell ⟨w6.heap.size,1,none⟩ (.int .i64 b)):=((Turn.of_below (K:=D) HB7.out).trans hT8 (fun _ _ h=>h) (fun _ _ h=>hK _ h)).trans hT9 (fun _ _ h=>h) (fun j hj e=>by have h2:=HSz.out; omega)
 have hput:=HDP.out _ D' hsd9 (HMax.out _ hTw9)
 obtain⟨w9,hw9⟩:∃W,w8.setCell ⟨w6.heap.size,1,none⟩ (.int .i64 b)=W:=⟨_,rfl⟩
 rw[hw9] at hT9 hz9 hx9 ho9 hput
 have HEnd:=Lib.hid (fun(w10 w11:World) (K':Nat→Prop) (v':Value) (o:Obj)=>addOut_end (base:=base) (B:=Bs) (Bd:=Bd) (w10:=w10) (w11:=w11) (K':=K') (v':=v') (o:=o) (S':=S') (N:=N) (D':=D') hbs HB7.out hK hT8 ⟨HSz.out,by omega⟩ hT9 ho9 hsub8 hap8)
 have HPut:=Lib.hid hput
 have HO9:=Lib.hid ho9
 have HAp:=Lib.hid hap8
 have e0:=cellOf (k:=0) hx9 rfl
 have e1:=cellOf (k:=1) hx9 rfl
 have p0:=cellOf (k:=0) hz9 rfl
 have p1:=cellOf (k:=1) hz9 rfl
 have p2:=cellOf (k:=2) hz9 rfl
 have hw9b:w9.heap.size=w8.heap.size:=by rw[←hw9]; simp
 have HB79:Hid ((w6.alloc (.cells #[.int .i64 0,.int .i64 0,.int .i64 0] 72)).heap.size≤w9.heap.size):=by
  have:=hT8.size
  show _≤_
  omega
 clear hT8 hnd hx8 hz8 hxlt hT9 hz9 hx9 hw7 ho9 hsd9 hTw9 hput ho8 hsd8 hsub8 hap8 hw9b hK
 go_wp2_with fail
 clear e0 e1 p0 p1 p2 hw9
 refine HPut.out.mono ?_
 rintro e w10 ⟨rfl,hs10,K',hK',hT10⟩
 have ho10:=HO9.out.turn hT10 (fun k hk hk'=>HAp.out k hk (hK' _ hk'))
 have HE2:=Lib.hid (fun w11 v' o=>HEnd.out w10 w11 K' v' o hs10 hK' hT10)
 have HO10:=Lib.hid ho10
 obtain⟨B7,hB7⟩:∃B7,(w6.alloc (.cells #[.int .i64 0,.int .i64 0,.int .i64 0] 72)).heap.size=B7:=⟨_,rfl⟩
 rw[hB7] at HO10 HE2 HB79
 have HB7le:Hid (B7≤w10.heap.size):=by
  have e1:=hT10.size
  have e2:=HB79.out
  show _≤_
  omega
 clear hs10 hK' hT10 ho10 hB7
 obtain⟨ia,ib,ic,id,ie⟩:=info_parts q69z
 have HIb:=Lib.hid ib
 have HIc:=Lib.hid ic
 have HId:=Lib.hid id
 have HIe:=Lib.hid ie
 clear ib ic id ie
 have hrow:=HO10.out
 unfold OwnR at hrow
 have HRow:=Lib.hid hrow
 clear hrow
 go_wp2_with (at_builtin; refine wpList_append_lies _ rfl _ _ _ rfl B7 3 ia _ 1 8 Tryz.underlying48 HIb.out HIc.out HId.out HIe.out rfl (by decide) _ _ _ rfl (HRow.out.alloc _) ⟨w10.heap.size,0,none⟩ 1 1 [.int .i64 N] rfl rfl (World.news_of_block (cs:=#[.int .i64 N]) (t:=3) (fr:=(0,0)) (q2z w10 _)) (by simp[Value.oneCell']) (by omega) ?c1 ?c2 ?c3 (w10.heap.size+1) (by simp) ?_)
 case c1=>unfold maxLen; omega
 case c2=>omega
 case c3=>have:=HB7le.out; simp; omega
 intro g9 cap9 w11 hown hgrow hat hlt
 have hE:=HE2.out w11 _ _ hgrow (OwnR.snoc (f:=intC) (x:=N) hown rfl rfl)
 have HE:=Lib.hid (HF.out w11 _ hE.1 hE.2)
 clear hown hgrow hat hlt hE
 go_wp2
 first | exact HE.out | (go_ret2; exact HE.out)
end
def AddNo (w:World) (es:List Ent) (x:Sp.Entry) (e:Ending) (w':World):Prop:=
 (¬(x.may∧x.inode≠0)∧e = .returned (.tuple #[.slice none 0 0,.int .i64 70])∧Below w.heap.size w w') ∨
 (x.may∧x.inode≠0∧(findE es x.name).isSome=true∧e = .returned (.tuple #[.slice none 0 0,.int .i64 101])∧Below w.heap.size w w')
section
theorem dirAddNo_any {w:World} {base Bs Bd:Nat} {S:Sp.Side} {D:Nat→Prop} (h:SideAt w base Bs Bd S D) {g:Sp.Geom} {i:Int} {F:File} (hs:Stands S g i F) (hd:DirOk S.read F) (hb:∀b∈F.blocks,0≤b) (hh:∀b∈q19z F,S.disk.has b) (hm:MaxOk w) (x:Sp.Entry) (hxs:x.name.size≤maxLen) (vk va:Value)
 (hno:x.may∧x.inode≠0→(findE (ents S.read F) x.name).isSome=true) :
 Calls Tryz.prog 36 #[pt Bs,gV g,.int .i64 i,eV x,vk,va] w (AddNo w (ents S.read F) x):=by
 have hop:=fun(W:World) (hW:Below w.heap.size w W)=>q154z (h.below hW) hs hd hb hh (hm.below hW)
 have hpu:=fun(W:World) (hW:Below w.heap.size w W)=>eput_any W 0 x (hm.below hW) hxs
 have hfi:=fun(W W':World) (base B:Nat) (hd:DirAt W base B F.node S.read (q19z F)) (hb:Below W.heap.size W W')=>dfind_any (hd.below hb) x.name
 obtain⟨es,hes⟩:∃es,ents S.read F=es:=⟨_,rfl⟩
 have hes2:(q19z F).flatMap (entsB S.read)=es:=hes
 rw[hes2] at hfi
 rw[hes] at hno ⊢
 unfold q112z at hop
 unfold EPut at hpu
 simp only[if_neg (show ¬((0:Int)<0∨4≤(0:Int)) by omega)] at hpu
 obtain⟨V,hV⟩:∃V,S.read=V:=⟨_,rfl⟩
 obtain⟨bl,hbl⟩:∃bl,q19z F=bl:=⟨_,rfl⟩
 obtain⟨nd,hnd⟩:∃nd,F.node=nd:=⟨_,rfl⟩
 rw[hV,hbl,hnd] at hop hfi
 obtain⟨Q,hQ⟩:∃Q,AddNo w es x=Q:=⟨_,rfl⟩
 have HA:Hid (¬(x.may∧x.inode≠0)→∀W,Below w.heap.size w W→Q (.returned (.tuple #[.slice none 0 0,.int .i64 70])) W):=fun h0 W hW=>by rw[←hQ]; exact Or.inl ⟨h0,rfl,hW⟩
 have HBq:Hid (x.may→x.inode≠0→∀W,Below w.heap.size w W→Q (.returned (.tuple #[.slice none 0 0,.int .i64 101])) W):=fun h0 h1 W hW=>by rw[←hQ]; exact Or.inr ⟨h0,h1,hno ⟨h0,h1⟩,rfl,hW⟩
 rw[hQ]
 obtain⟨ga,gb,gc⟩:=g
 obtain⟨xi,xn⟩:=x
 unfold gV pt eV at *
 dsimp only at hop hpu hfi hno HA HBq ⊢
 obtain⟨W0,hW0⟩:∃W,(w.alloc (.cells #[.int .i64 ga,.int .i64 gb,.int .i64 gc] 27)).alloc (.cells #[.int .i64 xi,.string xn] 69)=W:=⟨_,rfl⟩
 have HB0:Hid (Below w.heap.size w W0):=by rw[←hW0]; exact(bl2 _).alloc (by simp) _
 have HG0:Hid (W0.heap[w.heap.size]? = some (.cells #[.int .i64 ga,.int .i64 gb,.int .i64 gc] 27 (0,0))):=by rw[←hW0]; exact q1z (bl2 _) (q2z w _)
 have HX0:Hid (W0.heap[w.heap.size+1]? = some (.cells #[.int .i64 xi,.string xn] 69 (0,0))):=by
  rw[←hW0]
  have a2:=q2z (w.alloc (.cells #[.int .i64 ga,.int .i64 gb,.int .i64 gc] 27)) (.cells #[.int .i64 xi,.string xn] 69)
  rw[World.size_alloc] at a2
  exact a2
 have z0:=cellOf (k:=0) HG0.out rfl
 have z1:=cellOf (k:=1) HG0.out rfl
 have z2:=cellOf (k:=2) HG0.out rfl
 have HOP:=Lib.hid hop
 have HFI:=Lib.hid hfi
 clear hop hfi
 have HNo:=Lib.hid hno
 clear h hs hd hb hh hm hxs hno hes hes2 hV hbl hnd hQ
 by_cases hmay:(⟨xi,xn⟩:Sp.Entry).may
 ·simp only[if_pos hmay] at hpu
  obtain⟨tx,htx⟩:∃t,ofL (slotL ⟨xi,xn⟩)=t:=⟨_,rfl⟩
  rw[htx,show(0:Int)*16=0 from rfl] at hpu
  have HPU:=Lib.hid hpu
  clear hpu
  clear htx
  go_enter Tryz.func36,Tryz.ntmps36
  go_wp2_with fail
  clear z0 z1 z2 hW0
  refine(HOP.out W0 HB0.out).mono ?_
  rintro e w1 ⟨B,rfl,hda,hb1⟩
  have HB1:=Lib.hid (blN HB0.out hb1)
  have HX1:=Lib.hid (q1z hb1 HX0.out)
  have HDA:=Lib.hid hda
  clear hda hb1
  have e0:=cellOf (k:=0) HX1.out rfl
  have e1:=cellOf (k:=1) HX1.out rfl
  go_wp2_with fail
  clear e0 e1
  refine(HPU.out w1 HB1.out).mono ?_
  rintro e w2 ⟨rfl,hb2⟩
  have HBw2:Hid (Below w1.heap.size w1 w2):=hb2
  obtain⟨W3,hW3⟩:∃W,w2.alloc (.cells #[.int .i64 0,.string tx] 163)=W:=⟨_,rfl⟩
  have HB13:Hid (Below w1.heap.size w1 W3):=blN hb2 (by rw[←hW3]; exact bl2 _)
  have HB3:=Lib.hid (blN HB1.out HB13.out)
  have HX3:=Lib.hid (q1z HB13.out HX1.out)
  have e0:=cellOf (k:=0) HX3.out rfl
  have e1:=cellOf (k:=1) HX3.out rfl
  clear hb2
  by_cases hxi:xi=0
  ·have HE:=Lib.hid (HA.out (fun h=>h.2 hxi) W3 HB3.out)
   have hq:(xi == 0)=true:=by simp[hxi]
   clear HA HBq HNo
   go_wp2
   first | exact HE.out | (go_ret2; exact HE.out)
  ·obtain⟨y,hy⟩:=Option.isSome_iff_exists.1 (HNo.out ⟨hmay,hxi⟩)
   rw[hy] at HFI
   have hq:(xi == 0)=false:=by simp[hxi]
   have HFI2:=Lib.hid (HFI.out w1 W3 _ B HDA.out HB13.out)
   unfold q113z q52z at HFI2
   dsimp only[Option.isSome] at HFI2
   go_wp2_with fail
   clear e0 e1 hW3
   refine HFI2.out.mono ?_
   rintro e w4 ⟨rfl,hb4⟩
   have HE:=Lib.hid (HBq.out hmay hxi (w4.alloc (.cells #[.int .i64 y.inode,.int .i64 y.sec,.int .i64 (y.slot:Int)] 72)) (blN HB3.out (blN hb4 (bl2 _))))
   clear hb4
   go_wp2
   first | exact HE.out | (go_ret2; exact HE.out)
 ·simp only[if_neg hmay] at hpu
  have HPU:=Lib.hid hpu
  clear hpu
  go_enter Tryz.func36,Tryz.ntmps36
  go_wp2_with fail
  clear z0 z1 z2 hW0
  refine(HOP.out W0 HB0.out).mono ?_
  rintro e w1 ⟨B,rfl,hda,hb1⟩
  have HB1:=Lib.hid (blN HB0.out hb1)
  have HX1:=Lib.hid (q1z hb1 HX0.out)
  have HDA:=Lib.hid hda
  clear hda hb1
  have e0:=cellOf (k:=0) HX1.out rfl
  have e1:=cellOf (k:=1) HX1.out rfl
  go_wp2_with fail
  clear e0 e1
  refine(HPU.out w1 HB1.out).mono ?_
  rintro e w2 ⟨rfl,hb2⟩
  have HBw2:Hid (Below w1.heap.size w1 w2):=hb2
  have HE:=Lib.hid (HA.out (fun h=>hmay h.1) (w2.alloc (.cells #[.int .i64 0,.string ⟨#[]⟩] 163)) (blN HB1.out (blN hb2 (bl2 _))))
  clear hb2
  go_wp2
  first | exact HE.out | (go_ret2; exact HE.out)
end
section
variable {g:Sp.Geom} {i:Int} {S:Sp.Side} {F:File} {X Y:List Int} {r q:Nat} {w:World} {base B Bd:Nat} {D:Nat→Prop}
theorem Sp.Dir.stands (h:Dir g i S F X Y r q) (hg:g.ok) (h1:1≤i) (h2:i≤g.groups*g.inodes):Stands S g i F:=by
 have hblk:∀b,b=F.more∨b∈F.blocks→q23z g b:=fun b hb=>by
  by_cases h0:b=0
  ·exact Or.inl h0
  ·obtain⟨k,p,hkk,hpp,e⟩:=h.bm.held.blk (h.bm.own b (q43z.2 ⟨hb,h0⟩))
   rw[e]
   exact block_ok hg hkk hpp
 have hz:=h.size
 have hq:=h.q40
 exact⟨hg,h.bm.held.ok,h1,h2,h.bm.inode_in hg h1 h2,h.bm.file,⟨h.gen.1,h.gen.2,h.links.1,h.links.2,(by show 0≤F.size; omega),(by show F.size≤2560; omega),Or.inr (Or.inr ⟨h.kind,(by show F.size % 64=0; omega),h.par.1,h.par.2,fun b hb=>hblk b (Or.inr (List.mem_of_mem_take hb)),hblk _ (Or.inl rfl)⟩)⟩,fun hm=>h.bm.hasB hg (h.bm.own _ (q43z.2 ⟨Or.inl rfl,hm⟩)),fun b hb=>hblk b (Or.inr hb)⟩
theorem find_law (hs:SideAt w base B Bd S D) (h:Dir g i S F X Y r q) (hg:g.ok) (h1:1≤i) (h2:i≤g.groups*g.inodes) (hm:MaxOk w) (n:ByteArray) (hn:n.size≤maxLen) :
 Calls Tryz.prog 38 #[pt B,gV g,.int .i64 i,.string n] w fun e w'=>∃c p,e = .returned (.tuple #[p,.int .i64 c])∧Below w.heap.size w w'∧((c=0∧n∈(q6z (ents S.read F)).map Prod.fst)∨(c≠0∧n∉(q6z (ents S.read F)).map Prod.fst))∧p=q52z (findR (ents S.read F) n):=by
 refine(dirFind_any hs (h.stands hg h1 h2) h.ok (h.blkPos hg) (h.hasB hg) hm n (by unfold maxLen at hn; omega)).mono ?_
 rintro e w' ⟨rfl,hb⟩
 refine⟨_,_,rfl,hb,?_,rfl⟩
 unfold findC
 by_cases hnb:nameB n=true
 ·rw[if_pos hnb]
  rcases h.find hnb with ⟨x,hf,_,_,_,hp⟩ | ⟨hf,hno⟩
  ·rw[hf]
   exact Or.inl ⟨rfl,List.mem_map.2 ⟨_,hp,rfl⟩⟩
  ·rw[hf]
   exact Or.inr ⟨by decide,hno⟩
 ·rw[if_neg hnb]
  exact Or.inr ⟨by decide,fun hm=>hnb (h.nameB_of hm)⟩
def AddLaw (w:World) (base B Bd:Nat) (g:Sp.Geom) (i:Int) (S:Sp.Side) (F:File) (X Y:List Int) (r q:Nat) (D:Nat→Prop) (x:Sp.Entry) (e:Ending) (w':World):Prop:=
 ∃v c,e = .returned (.tuple #[v,.int .i64 c])∧∃S' F' Y' r' q',q15z w base B Bd S' D w'∧Dir g i S' F' X Y' r' q'∧r'≤r+5 ∧
  ((c=70∧¬(x.may∧x.inode≠0)∧q6z (ents S'.read F')=q6z (ents S.read F)∧q' = q∧Y' = Y) ∨
   (c=101∧x.may∧x.inode≠0∧x.name∈(q6z (ents S.read F)).map Prod.fst∧q6z (ents S'.read F')=q6z (ents S.read F)∧q' = q∧Y' = Y) ∨
   (c=0∧x.may∧x.inode≠0∧x.name∉(q6z (ents S.read F)).map Prod.fst∧(q6z (ents S'.read F')).Perm ((x.name,x.inode) :: q6z (ents S.read F))∧∃L,OwnR 3 1 intC w.heap.size w' v L ∧
     ((q' = q∧Y' = Y∧L.length=1∧(q6z (ents S.read F)).length<4*q)∨(q' = q+1∧Y'.length=Y.length+1∧L.length=5∧(q6z (ents S.read F)).length=4*q∧∀y∈ents S'.read F',y.name=x.name→y.slot=0))))
theorem may_live {x:Sp.Entry} (h:x.may) (h0:x.inode≠0):1≤x.inode∧nameB x.name=true:=by
 rcases h with ⟨h1,_⟩ | ⟨h1,_,h3⟩
 ·exact absurd h1 h0
 ·exact⟨h1,h3⟩
theorem add_law (hs:SideAt w base B Bd S D) (hD:∀j,D j→j<w.heap.size) (h:Dir g i S F X Y r q) (hg:g.ok) (h1:1≤i) (h2:i≤g.groups*g.inodes) (hr:r+6<1024) (hm:MaxOk w) (hmt:∀W',Turn D w W'→MaxOk W') (x:Sp.Entry) (hxs:x.name.size≤maxLen)
 (vk:Value) (ks:List Int) (hv:∀W,Turn D w W→Ints W vk ks) (hks:∀k∈ks,0≤k∧k<g.groups) (hnd:ks.Nodup) (hroom:(q6z (ents S.read F)).length=4*q→q<8∧Y.length<ks.length*g.blocks.toNat) :
 Calls Tryz.prog 36 #[pt B,gV g,.int .i64 i,eV x,vk,.slice none 0 0] w (AddLaw w base B Bd g i S F X Y r q D x):=by
 have hl:=h.bm.held.last
 have hst:=h.stands hg h1 h2
 by_cases hno:x.may∧x.inode≠0→(findE (ents S.read F) x.name).isSome=true
 ·refine(dirAddNo_any hs hst h.ok (h.blkPos hg) (h.hasB hg) hm x hxs vk (.slice none 0 0) hno).mono ?_
  rintro e w' (⟨hn,rfl,hb⟩ | ⟨hx,hx0,hf,rfl,hb⟩)
  ·exact⟨_,_,rfl,S,F,Y,r,q,q15z.none hs hb,h,by omega,Or.inl ⟨rfl,hn,rfl,rfl,rfl⟩⟩
  ·refine⟨_,_,rfl,S,F,Y,r,q,q15z.none hs hb,h,by omega,Or.inr (Or.inl ⟨rfl,hx,hx0,?_,rfl,rfl,rfl⟩)⟩
   rcases h.find (may_live hx hx0).2 with ⟨y,_,_,_,_,hp⟩ | ⟨hf2,_⟩
   ·exact List.mem_map.2 ⟨_,hp,rfl⟩
   ·rw[hf2] at hf
    cases hf
 ·rw[Classical.not_imp] at hno
  obtain⟨⟨hx,hx0⟩,hf⟩:=hno
  obtain⟨hx1,hxn⟩:=may_live hx hx0
  have hf0:findE (ents S.read F) x.name=none:=by
   cases hh:findE (ents S.read F) x.name with
   | none=>rfl
   | some y=>rw[hh] at hf; exact absurd rfl hf
  have hnin:x.name∉(q6z (ents S.read F)).map Prod.fst:=by
   rcases h.find hxn with ⟨y,hf2,_⟩ | ⟨_,hn⟩
   ·rw[hf2] at hf0; cases hf0
   ·exact hn
  cases hfree:findE (ents S.read F) ⟨#[]⟩ with
  | some p=>
    obtain⟨hp,hp0,hpn⟩:=h.free hfree
    obtain⟨hcc,hd,l1,l2,e1,e2⟩:=h.put hg (by omega) hp hx (fun e he _ hen=>absurd hen (q121z hf0 e he)) (ahead:=[]) (by simp)
    refine(dirAddIn_any hs hst h.ok (h.blkPos hg) (h.hasB hg) hm x hxs vk (by omega) hx hx0 hf0 hfree hcc).mono ?_
    rintro e w' ⟨v,rfl,hv,ht⟩
    have hlen:=h.length
    refine⟨_,_,rfl,_,F,Y,r+1,q,ht,hd,by omega,Or.inr (Or.inr ⟨rfl,hx,hx0,hnin,?_,_,hv,Or.inl ⟨rfl,rfl,rfl,?_⟩⟩)⟩
    ·rw[e2,e1,q16z,q16z,q46z (e:=⟨x.inode,p.sec,p.slot,x.name⟩) hx1,q20z hp0]
     exact List.perm_middle
    ·have hle:∀l:List Ent,(q6z l).length≤l.length:=fun l=>by
      unfold q6z
      rw[List.length_map]
      exact List.length_filter_le _ _
     rw[e1] at hlen ⊢
     rw[q16z,q20z hp0,List.length_append]
     rw[List.length_append,List.length_cons] at hlen
     have:=hle l1
     have:=hle l2
     omega
  | none=>
    have hfull:=h.noFree hfree
    obtain⟨hq8,hrm⟩:=hroom hfull
    obtain⟨hwc,N,t',ht',n0,hF,hb,hmd,hml,himg⟩:=grow8 h hg h1 h2 (by omega) hks hnd hrm hq8
    obtain⟨hd1,hqN,hNb,hents⟩:=h.grow hg (by omega) n0 ⟨by rw[hF],by rw[hF],by rw[hF],by rw[hF],by rw[hF],by rw[hF]⟩ hb himg
    have hpm:entOf t'.S.read N 0∈ents t'.S.read t'.F:=by
     rw[hents]
     exact List.mem_append_right _ (q111z.2 ⟨0,by omega,rfl⟩)
    have hN0:(entOf t'.S.read N 0).inode=0:=by unfold entOf; rw[hNb,q96z 0 (by omega)]
    have hfno:∀e∈ents t'.S.read t'.F,¬(e.sec=N∧e.slot=0)→e.name=x.name→x.name.size=0:=fun e he _ hen=>by
     rw[hents] at he
     rcases List.mem_append.1 he with he | he
     ·exact absurd hen (q121z hf0 e he)
     ·obtain⟨k,hk,rfl⟩:=q111z.1 he
      unfold entOf at hen
      rw[hNb,q96z k hk] at hen
      rw[←hen]
      rfl
    obtain⟨hcc,hd2,l1,l2,e1,e2⟩:=hd1.put hg (by omega) hpm hx hfno (ahead:=[]) (by simp)
    have hl1:=hb.held.last
    refine(dirAddOut_any hs hst h.ok (h.blkPos hg) (h.hasB hg) hm hmt x hxs hD (by omega) hx hx0 hf0 hfree vk ks hv hks q (by omega) h.size 0 hwc (by omega) rfl t' ht' N ⟨hd1.stands hg h1 h2,hqN⟩ (by omega) (by omega) hcc).mono ?_
    rintro e w' ⟨v,rfl,hv,ht⟩
    refine⟨_,_,rfl,_,t'.F,Y ++ [N],r+5,q+1,ht,hd2,by omega,Or.inr (Or.inr ⟨rfl,hx,hx0,hnin,?_,_,hv,Or.inr ⟨rfl,by rw[List.length_append]; rfl,by rw[List.length_append,hml]; rfl,hfull,fun y hy hyn=>?_⟩⟩)⟩
    rotate_left
    ·by_cases hk:y.sec=N∧y.slot=0
     ·exact hk.2
     ·have hy2:y∈l1 ++ ⟨x.inode,N,0,x.name⟩ :: l2:=e2 ▸ hy
      have hy3:y∈ents t'.S.read t'.F:=by
       rw[e1]
       rcases List.mem_append.1 hy2 with hh | hh
       ·exact List.mem_append_left _ hh
       ·rcases List.mem_cons.1 hh with rfl | hh
        ·exact absurd ⟨rfl,rfl⟩ hk
        ·exact List.mem_append_right _ (List.mem_cons_of_mem _ hh)
      have:=hfno y hy3 hk hyn
      have:=q85z hxn
      omega
    have hp1:q6z (ents t'.S.read t'.F)=q6z (ents S.read F):=by
     have hz:∀k,k<4→(entOf t'.S.read N k).inode=0:=fun k hk=>by
      unfold entOf
      rw[hNb,q96z k hk]
     rw[hents,q16z]
     unfold entsB
     rw[q20z (hz 0 (by omega)),q20z (hz 1 (by omega)),q20z (hz 2 (by omega)),q20z (hz 3 (by omega))]
     exact List.append_nil _
    rw[←hp1]
    rw[e1,q16z,q20z hN0,←q16z]
    refine List.Perm.trans (List.Perm.of_eq ?_) (List.perm_middle (a:=(x.name,x.inode)) (l₁:=q6z l1) (l₂:=q6z l2) |>.trans (List.Perm.of_eq (by rw[q16z])))
    exact(congrArg q6z e2).trans (by rw[q16z,q46z (e:=⟨x.inode,(entOf t'.S.read N 0).sec,(entOf t'.S.read N 0).slot,x.name⟩) hx1])
end
end Go.Proofs.YtaphcmcimoloiaaGreatDoor
