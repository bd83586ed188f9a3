/-
 DirsKeep: the walk.
-/
import Derived.Test.YtaphcmcimoloiaaGreatDoorKeepCalls
namespace Go.Proofs.YtaphcmcimoloiaaGreatDoor
open Go Go.RowKit Txt Sp
def CutX (wr:World) (i:Int) (n:ByteArray) (s:Value) (wx:World):Prop:=s = .pointer (some ⟨wr.heap.size,0,none⟩)∧wx.heap[wr.heap.size]? = some (.cells #[.int .i64 i,.string n] 69 (0,0))∧Below wr.heap.size wr wx
def AtOf (H:List Sp.Entry) (n:ByteArray) (j:Nat) (t:Int):Prop:=(t = -1∧∀x∈H.take j,x.name≠n)∨∃i:Nat,t=(i:Int)∧i<j∧∃y,H[i]? = some y∧y.name=n
theorem AtOf.yes {H:List Sp.Entry} {n:ByteArray} {j:Nat} {x:Sp.Entry} (hx:H[j]? = some x) (e:x.name=n):AtOf H n (j+1) (j:Int):=Or.inr ⟨j,rfl,by omega,x,hx,e⟩
theorem AtOf.no {H:List Sp.Entry} {n:ByteArray} {j:Nat} {t:Int} (h:AtOf H n j t) {x:Sp.Entry} (hx:H[j]? = some x) (e:x.name≠n):AtOf H n (j+1) t:=by
 rcases h with ⟨h1,h2⟩ | ⟨i,h1,h2,h3⟩
 ·refine Or.inl ⟨h1,fun y hy=>?_⟩
  rw[q30z hx] at hy
  rcases List.mem_append.1 hy with hy | hy
  ·exact h2 y hy
  ·rw[List.mem_singleton.1 hy]; exact e
 ·exact Or.inr ⟨i,h1,by omega,h3⟩
def q147z (w:World) (B Bd:Nat) (S:Sp.Side) (k:Nat) (s:Value) (wx:World):Prop:=∃S' D' H',KM w B Bd S' D' H' s wx∧KeepI S' (k+1) H'∧S'.disk=S.disk
theorem take_drop_of {H:List Sp.Entry} {i:Nat} {y:Sp.Entry} (hy:H[i]? = some y):H=H.take i ++ y :: H.drop (i+1):=by
 have hlt:=(List.getElem?_eq_some_iff.1 hy).1
 have h1:=List.take_append_drop i H
 rw[List.drop_eq_getElem_cons hlt,(List.getElem?_eq_some_iff.1 hy).2] at h1
 exact h1.symm
section
set_option maxHeartbeats 8000000
set_option maxRecDepth 20000 in
theorem keep_any (w:World) (hm:MaxOk w) (v:Value) (l:List Chg4) (ha:ChgsAt w v l) :
 Calls Tryz.prog 11 #[v] w fun e w'=>e = .returned (.bool true)∧Below w.heap.size w w':=by
 obtain⟨ad,len,cap,rfl,HN,hn2,HFa⟩:=RowAt.facts ha.1
 have HIn:=Lib.hid ha.2
 have hld:=fun W:World=>laid17z_any W (g:=gKeep) (by decide)
 have hwk:=fun(W:World) (hW:MaxOk W)=>works17_any W hW
 have hst:=keep_start
 have hadd:=fun(wr:World) (B Bd:Nat) (S:Sp.Side) (D:Nat→Prop) (H:List Sp.Entry) (v:Value) (k:Nat) (h:KM w B Bd S D H v wr) (hI:KeepI S k H) (hk:k<30) (i:Int) (n:ByteArray) (hn:n.size≤maxLen) (vk:Value) (hv:∀W,Turn D wr W→Ints W vk [0])=>km_add h hm hI hk i n hn vk hv
 have hrem:=fun(wr:World) (B Bd:Nat) (S:Sp.Side) (D:Nat→Prop) (H:List Sp.Entry) (v:Value) (k:Nat) (h:KM w B Bd S D H v wr) (hI:KeepI S k H) (hk:k<30) (n:ByteArray) (hn:n.size≤maxLen) (hnb:nameB n=true)=>km_remove h hm hI hk n hn hnb
 have hset:=fun(wr:World) (B Bd:Nat) (S:Sp.Side) (D:Nat→Prop) (H:List Sp.Entry) (v:Value) (k:Nat) (h:KM w B Bd S D H v wr) (hI:KeepI S k H) (hk:k<30) (a:Nat) (y:Sp.Entry) (ha:H[a]? = some y) (i:Int) (n:ByteArray) (hyn:y.name=n) (hn:n.size≤maxLen) (hi:1≤i∧i≤65535)=>km_set h hm hI hk ha i n hyn hn hi
 have hflush:=fun(wr:World) (B Bd:Nat) (S:Sp.Side) (D:Nat→Prop) (H:List Sp.Entry) (v:Value) (k:Nat) (h:KM w B Bd S D H v wr) (hI:KeepI S k H) (hl:S.disk.last≤300000) (u:Value) (P:List Int) (hp:Ints w u P)=>km_flush h hI hl u P hp
 have hnames:=fun(wr:World) (B Bd:Nat) (S:Sp.Side) (D:Nat→Prop) (H:List Sp.Entry) (v:Value) (k:Nat) (h:KM w B Bd S D H v wr) (hI:KeepI S k H)=>km_names h hm hI
 have hraw:=fun(wr:World) (B Bd:Nat) (S:Sp.Side) (D:Nat→Prop) (H:List Sp.Entry) (v:Value) (k:Nat) (h:KM w B Bd S D H v wr) (hI:KeepI S k H)=>km_raw h hm hI
 obtain⟨S0,hS0⟩:∃S,q9z gKeep 0 0=S:=⟨_,rfl⟩
 have hdl:S0.disk.last=0:=by rw[←hS0]; rfl
 rw[hS0] at hld hst
 clear hS0 ha
 have heq:=q88z
 have heq2:=eql_soft_nil
 unfold gKeep gV pt at hld hadd hrem hset hnames hraw
 unfold pt at hflush
 dsimp only at hld hadd hrem hset hnames hraw
 have HM:=Lib.hid hm
 have HLD:=Lib.hid hld
 have HWK:=Lib.hid hwk
 have HST:=Lib.hid hst
 have HADD:=Lib.hid hadd
 have HREM:=Lib.hid hrem
 have HSET:=Lib.hid hset
 have HFLUSH:=Lib.hid hflush
 have HNAMES:=Lib.hid hnames
 have HRAW:=Lib.hid hraw
 have HDL:=Lib.hid hdl
 clear hld hwk hst hadd hrem hset hflush hnames hraw hdl
 clear hm
 go_enter Tryz.func11,Tryz.ntmps11
 obtain⟨W1,hW1⟩:∃W,w.alloc (.cells #[.int .i64 1,.int .i64 4,.int .i64 12] 27)=W:=⟨_,rfl⟩
 have HB1:Hid (Below w.heap.size w W1):=by rw[←hW1]; exact bl2 _
 have HG1:Hid (W1.heap[w.heap.size]? = some (.cells #[.int .i64 1,.int .i64 4,.int .i64 12] 27 (0,0))):=by rw[←hW1]; exact q2z w _
 have HZ1:Hid (w.heap.size<W1.heap.size):=by rw[←hW1]; show _<_; simp
 have z0:=cellOf (k:=0) HG1.out rfl
 have z1:=cellOf (k:=1) HG1.out rfl
 have z2:=cellOf (k:=2) HG1.out rfl
 go_wp2_with fail
 clear z0 z1 z2 hW1
 refine(HLD.out _).mono ?_
 rintro e w2 ⟨B,Bd,D,rfl,hs2,hb2,hD2⟩
 have HM2:Hid (DMem w 0 B Bd gKeep S0 D w2):=by
  have hz:=HZ1.out
  exact⟨hs2,fun j hj=>(hD2 j hj).2,fun j hj=>by have:=(hD2 j hj).1; omega,q1z hb2 HG1.out,blN HB1.out hb2⟩
 clear hs2 hb2 hD2 HG1 HB1 HZ1 HLD
 go_wp2_with fail
 refine(HWK.out _ (HM2.out.max HM.out)).mono ?_
 rintro e w3 ⟨rfl,hb3⟩
 have HM3:Hid (KM w B Bd S0 D [] (.slice none 0 0) w3):=⟨HM2.out.below hb3,OwnR.void _ _,fun b hb=>by cases hb⟩
 clear hb3 HM2 HWK
 have HBox:Hid (∀S D H v W,KM w B Bd S D H v W→W.cell? ⟨w.heap.size,0,none⟩=some (.int .i64 1)∧W.cell? ⟨w.heap.size,1,none⟩=some (.int .i64 4)∧W.cell? ⟨w.heap.size,2,none⟩=some (.int .i64 12)):=fun S D H v W hM=>
  ⟨cellOf (k:=0) hM.dm.box rfl,cellOf (k:=1) hM.dm.box rfl,cellOf (k:=2) hM.dm.box rfl⟩
 go_wp2
 go_loopw [6,7] (fun s q wr=>∃(k:Nat) (S:Sp.Side) (D:Nat→Prop) (H:List Sp.Entry),k≤len∧k≤30∧q = .int .i64 (k:Int)∧Hid (KM w B Bd S D H s wr)∧Hid (KeepI S k H∧S.disk.last≤1024*k)) (fun _ q _=>30-(intOf q).toNat)
 case atStart=>exact⟨0,S0,D,[],Nat.zero_le _,Nat.zero_le _,rfl,HM3,⟨HST.out,by rw[HDL.out]; exact Nat.zero_le _⟩⟩
 case round=>
  clear HM3 HST HDL
  obtain⟨k,S,D,H,hk,hk30,rfl,HMr,HI⟩:=hrel
  by_cases hlt:k<len∧k<30
  ·skip
   --[
   obtain⟨hl1,hl2⟩:=hlt
   obtain⟨b,o,x,rfl,hb,hx,hc⟩:=HFa.out k hl1
   obtain⟨hxn,-,P,hP⟩:=HIn.out x (List.mem_of_getElem? hx)
   obtain⟨xn,xi,xa,xp⟩:=x
   dsimp only at hxn hP
   have HCell:Hid (∀W,Below w.heap.size w W→W.cell? ⟨b,o+k*4,none⟩=some (.string xn)∧W.cell? ⟨b,o+k*4+1,none⟩=some (.int .i64 xi)∧W.cell? ⟨b,o+k*4+2,none⟩=some (.bool xa)∧W.cell? ⟨b,o+k*4+3,none⟩=some xp):=fun W hW=>
    ⟨(hW.cell (p:=⟨b,o+k*4,none⟩) hb).trans (hc 0 _ rfl),(hW.cell (p:=⟨b,o+k*4+1,none⟩) hb).trans (hc 1 _ rfl),(hW.cell (p:=⟨b,o+k*4+2,none⟩) hb).trans (hc 2 _ rfl),(hW.cell (p:=⟨b,o+k*4+3,none⟩) hb).trans (hc 3 _ rfl)⟩
   have HP:=Lib.hid hP
   have HBel:Hid (∀W,Below wr.heap.size wr W→Below w.heap.size w W):=fun W hW=>blN HMr.out.dm.bel hW
   clear hc hx hb hP
   have ha1:=fun W:World=>amongJ_any W xi 4 (by decide) (by decide)
   have hr1:=amongJ_bd xi 4 (by decide)
   obtain⟨N,hN⟩:∃z,q172z xi 4=z:=⟨_,rfl⟩
   rw[hN] at ha1 hr1
   simp only[show((4:Nat):Int)=4 from rfl] at ha1 hr1
   have e1:IntKind.i64.wrap (1+N)=1+N:=IntWalk.i64_in _ (by omega)
   have HA1:=Lib.hid ha1
   clear ha1
   clear hN
   go_upto_region 9 with fail
   go_cut [8] (fun s8 wx=>CutX wr (1+N) xn s8 wx)
   case first=>
    have HAll:Hid (∀W,Below wr.heap.size wr W→W.cell? ⟨b,o+k*4,none⟩=some (.string xn)∧W.cell? ⟨b,o+k*4+1,none⟩=some (.int .i64 xi)):=fun W hW=>⟨(HCell.out W (HBel.out W hW)).1,(HCell.out W (HBel.out W hW)).2.1⟩
    have hSd:=HAll.out wr.drew (blD (Below.refl _ _))
    refine q47z (fun W=>W.cell? ⟨b,o+k*4,none⟩=some (.string xn)∧W.cell? ⟨b,o+k*4+1,none⟩=some (.int .i64 xi)) 14 (by kernel_rfl) (by first | trivial | assumption) (fun hHeld hX0=>?_)
    refine tkU 0 ?_; clear hX0; intro hX0; simp only[Act.put,ps0]
    refine tkU 1 ?_; clear hX0; intro hX0; simp only[Act.put,ps0]
    refine tkU 2 ?_; clear hX0; intro hX0; simp only[Act.put,ps0]
    refine tkU 3 ?_; clear hX0; intro hX0; simp only[Act.put,ps0]
    refine tkU 4 ?_; clear hX0; intro hX0; simp only[Act.put,ps0]
    refine tkU 7 ?_; clear hX0; intro hX0; simp only[Act.put,ps0]
    refine tkU 8 ?_; clear hX0; intro hX0; simp only[Act.put,ps0]
    refine tkU 9 ?_; clear hX0; intro hX0; simp only[Act.put,ps0]
    refine tkU 10 ?_; clear hX0; intro hX0; simp only[Act.put,ps0]
    refine tkU 11 ?_; clear hX0; intro hX0; simp only[Act.put,ps0]
    refine AnyU.each (is:=[5,13]) (by kernel_rfl) (by simp) (EachU.cons hX0 (by kernel_rfl) rfl (fun K hK=>?_) (EachU.cons hX0 (by kernel_rfl) rfl (fun K hK=>?_) EachU.nil))
    ·try simp only[gg0]
     go_simp
     refine(HA1.out _).mono ?_
     rintro e w4 ⟨rfl,hw4⟩
     subst hw4
     try simp only
     refine hK.out _ _ (fun _=>?hkS) (fun hHeld2 hX1=>?_)
     case hkS=>
      exact hSd
     clear hHeld; have hHeld:=hHeld2 (by decide)
     clear hK K hHeld2 hX0; have hX0:=hX1; clear hX1
     try simp only[Act.put,ps0]
     refine tkU 6 ?_; clear hX0; intro hX0; simp only[Act.put,ps0]
     refine tkU 12 ?_; clear hX0; intro hX0; simp only[Act.put,ps0]
     refine AnyU.each (is:=[13]) (by kernel_rfl) (by simp) (EachU.cons hX0 (by kernel_rfl) rfl (fun K hK=>?_) EachU.nil)
     try simp only[gg0]
     go_simp
     try simp only
     refine hK.out _ _ (fun _=>?hkS) (fun hHeld2 hX1=>?_)
     case hkS=>
      exact HAll.out _ (bl1 (blD (Below.refl _ _)) _)
     clear hHeld; have hHeld:=hHeld2 (by decide)
     clear hK K hHeld2 hX0; have hX0:=hX1; clear hX1
     try simp only[Act.put,ps0]
     refine AnyU.each (is:=[14]) (by kernel_rfl) (by simp) (EachU.cons hX0 (by kernel_rfl) rfl (fun K hK=>?_) EachU.nil)
     try simp only[gg0]
     go_simp
     try simp only
     refine hK.out _ _ (fun h=>absurd h (by decide)) (fun _ hX1=>?_)
     clear hK K hX0; have hX0:=hX1; clear hX1
     try simp only[Act.put,ps0]
     refine AnyU.done (by kernel_rfl) ?_ _
     go_wp2
     go_meet
     case rel=>exact⟨rfl,q2z wr.drew _,bl1 (blD (Below.refl _ _)) _⟩
    ·try simp only[gg0]
     go_simp
     try simp only
     refine hK.out _ _ (fun _=>?hkS) (fun hHeld2 hX1=>?_)
     case hkS=>
      exact HAll.out _ (bl1 (blD (Below.refl _ _)) _)
     clear hHeld; have hHeld:=hHeld2 (by decide)
     clear hK K hHeld2 hX0; have hX0:=hX1; clear hX1
     try simp only[Act.put,ps0]
     refine AnyU.each (is:=[5]) (by kernel_rfl) (by simp) (EachU.cons hX0 (by kernel_rfl) rfl (fun K hK=>?_) EachU.nil)
     try simp only[gg0]
     go_simp
     refine(HA1.out _).mono ?_
     rintro e w4 ⟨rfl,hw4⟩
     subst hw4
     try simp only
     refine hK.out _ _ (fun _=>?hkS) (fun hHeld2 hX1=>?_)
     case hkS=>
      exact HAll.out _ (bl1 (blD (Below.refl _ _)) _)
     clear hHeld; have hHeld:=hHeld2 (by decide)
     clear hK K hHeld2 hX0; have hX0:=hX1; clear hX1
     try simp only[Act.put,ps0]
     refine tkU 6 ?_; clear hX0; intro hX0; simp only[Act.put,ps0]
     refine tkU 12 ?_; clear hX0; intro hX0; simp only[Act.put,ps0]
     refine AnyU.each (is:=[14]) (by kernel_rfl) (by simp) (EachU.cons hX0 (by kernel_rfl) rfl (fun K hK=>?_) EachU.nil)
     try simp only[gg0]
     go_simp
     try simp only
     refine hK.out _ _ (fun h=>absurd h (by decide)) (fun _ hX1=>?_)
     clear hK K hX0; have hX0:=hX1; clear hX1
     try simp only[Act.put,ps0]
     refine AnyU.done (by kernel_rfl) ?_ _
     go_wp2
     go_meet
     case rel=>exact⟨rfl,q2z wr.drew _,bl1 (blD (Below.refl _ _)) _⟩
   case rest=>
   obtain⟨rfl,hz5,hb5⟩:=hcut
   have HM5:=Lib.hid (HMr.out.below hb5)
   have HB5:Hid (Below w.heap.size w wc):=HBel.out wc hb5
   have HXnd:Hid (¬D wr.heap.size):=fun hd=>by have:=HMr.out.dm.lt _ hd; omega
   have HX:=Lib.hid hz5
   have x1:=cellOf (k:=1) hz5 rfl
   obtain⟨ad6,n6,cap6,rfl,HN6,hn62,HF6⟩:=RowAt.facts (OwnR.row (f:=entC) (fun _ _=>rfl) HM5.out.has)
   obtain⟨qx,hqx⟩:∃q,wr.heap.size=q:=⟨_,rfl⟩
   rw[hqx] at HX x1 HXnd
   clear hz5 hb5 HMr HBel HA1
   go_wp2
   go_loopw [9,68] (fun a q wr2=>∃(j:Nat) (t:Int),j≤n6∧q = .int .i64 (j:Int)∧a = .int .i64 t∧Hid (AtOf H xn j t)∧Hid (Below wc.heap.size wc wr2)) (fun _ q _=>n6-(intOf q).toNat)
   case atStart=>exact⟨0,-1,Nat.zero_le _,rfl,rfl,Or.inl ⟨rfl,by simp⟩,Below.refl _ _⟩
   case round=> as_aux_lemma =>
    clear x1
    obtain⟨j,t,hj,rfl,rfl,HA,HBj⟩:=hrel
    have hX:=q1z HBj.out HX.out
    have x1:=cellOf (k:=1) hX rfl
    by_cases hjn:j<n6
    ·obtain⟨b2,o2,y,rfl,hb2,hy,hc2⟩:=HF6.out j hjn
     have c1:wr.cell? ⟨b2,o2+j*2+1,none⟩=some (.string y.name):=(HBj.out.cell (p:=⟨b2,o2+j*2+1,none⟩) hb2).trans (hc2 1 _ rfl)
     have HYes:Hid (y.name=xn→AtOf H xn (j+1) (j:Int)):=fun e=>AtOf.yes hy e
     have HNo:Hid (y.name≠xn→AtOf H xn (j+1) t):=fun e=>HA.out.no hy e
     have HBn:Hid (∀n,Below wc.heap.size wc (wr.drewN n)):=fun n=>below_drewN HBj.out n
     obtain⟨yi,yn⟩:=y
     dsimp only at c1 HYes HNo
     clear hc2 hy hb2 hX HA HBj
     by_cases he:yn=xn
     ·have q1:(yn.toList == xn.toList)=true:=(text_eq _ _).trans (decide_eq_true he)
      have HRel:=Lib.hid (HYes.out he)
      clear he HYes HNo
      go_upto_region 14 with fail
      go_quiet (fail)
      go_wp2
      go_roundw
      case rel=>exact⟨j+1,(j:Int),by omega,by go_num,rfl,HRel,HBn.out _⟩
      case measure=>simp[intOf]; omega
     ·have q1:(yn.toList == xn.toList)=false:=(text_eq _ _).trans (decide_eq_false he)
      have HRel:=Lib.hid (HNo.out he)
      clear he HYes HNo
      go_upto_region 14 with fail
      go_quiet (fail)
      go_wp2
      go_roundw
      case rel=>exact⟨j+1,t,by omega,by go_num,rfl,HRel,HBn.out _⟩
      case measure=>simp[intOf]; omega
    ·obtain rfl:j=n6:=by omega
     have HMi:=Lib.hid (HM5.out.below HBj.out)
     have HXi:=Lib.hid hX
     have HCi:=Lib.hid (HCell.out wr (blN HB5.out HBj.out))
     clear hX HX HM5 HBj HF6 HB5
     go_upto_block 4 with fail
     go_cut [6,8,11,12,13,14,15,16,17,18,19,20] from 43 to 212 (fun s6 s8 s11 s12 s13 s14 s15 s16 s17 s18 s19 s20 wx=>q147z w B Bd S k s6 wx)
     case first=> as_aux_lemma =>
      obtain⟨-,-,x2,-⟩:=HCi.out
      go_wp2_with fail
      clear x1
      refine(name_any xn _ (HMi.out.dm.max HM.out) hxn).mono ?_
      rintro e w6 ⟨rfl,hw6⟩
      subst hw6
      have x0:=cellOf (k:=0) HXi.out rfl
      have x1:=cellOf (k:=1) HXi.out rfl
      obtain⟨z0,z1,z2⟩:=HBox.out _ _ _ _ _ HMi.out
      have HLn:Hid (j=H.length):=HN6.out
      have hadd0:=HADD.out (wr.alloc (.cells #[.int .i64 0] 3)) B Bd S D H _ k (HMi.out.below (bl2 _)) HI.out.1 hl2 (1+N) xn hxn (.slice (some ⟨wr.heap.size,0,none⟩) 1 1) (fun W hT=>ints_lone (hT.heap (q2z wr _) (fun hd=>by have:=HMi.out.dm.lt _ hd; omega)))
      have HXa:Hid ((wr.alloc (.cells #[.int .i64 0] 3)).heap[qx]? = some (.cells #[.int .i64 (1+N),.string xn] 69 (0,0))):=q1z (bl2 _) HXi.out
      have HADD0:=Lib.hid hadd0
      clear hadd0 HADD
      cases hnb:nameB xn with
      | false=>
        clear x1
        have x1:=cellOf (k:=1) HXi.out rfl
        go_wp2_with fail
        clear x0 x1 z0 z1 z2 x2
        refine HADD0.out.mono ?_
        rintro e w7 ⟨u,c,rfl,S7,D7,hM7,hd7,-,hr7⟩
        obtain⟨rfl,hI7⟩:c=70∧KeepI S7 k H:=by
         rcases hr7 with ⟨h1,-,h2⟩ | ⟨-,h1,h2⟩ | ⟨-,-,h2⟩
         ·exact⟨h1,h2⟩
         ·obtain⟨y,hy,hyn⟩:=List.mem_map.1 h1
          have:=(h2.name y hy).1
          rw[hyn,hnb] at this
          cases this
         ·have:=(h2.name ⟨1+N,xn⟩ (by simp)).1
          rw[hnb] at this
          cases this
        have HRel:Hid (q147z w B Bd S k (.slice ad6 j cap6) w7):=⟨S7,D7,H,hM7,hI7.more,hd7⟩
        clear hM7 hd7 hr7 hI7 HADD0
        go_wp2
        go_meet
        case rel=>exact HRel.out
      | true=>
        cases xa with
        | true=>
          have HRm:=Lib.hid (HREM.out wr B Bd S D H _ k HMi.out HI.out.1 hl2 xn hxn hnb)
          clear HADD0 HREM HSET
          go_wp2_with fail
          clear x0 x1 z0 z1 z2 x2
          refine HRm.out.mono ?_
          rintro e w7 ⟨u,c,rfl,S7,D7,hM7,hd7,hr7⟩
          rcases hr7 with ⟨rfl,hni,hI7⟩ | ⟨rfl,hin,hI7⟩
          ·obtain rfl:t = -1:=by
            rcases HA.out with ⟨h1,-⟩ | ⟨i,-,-,y,hy,hyn⟩
            ·exact h1
            ·exact absurd (List.mem_map.2 ⟨y,List.mem_of_getElem? hy,hyn⟩) hni
           have HRel:Hid (q147z w B Bd S k (.slice ad6 j cap6) w7):=⟨S7,D7,H,hM7,hI7.more,hd7⟩
           clear hM7 hd7 hI7 hni HRm
           go_wp2
           go_meet
           case rel=>exact HRel.out
          ·obtain⟨i,rfl,hij,y,hy,hyn⟩:∃i:Nat,t=(i:Int)∧i<j∧∃y,H[i]? = some y∧y.name=xn:=by
            rcases HA.out with ⟨-,h2⟩ | h
            ·obtain⟨y,hy,hyn⟩:=List.mem_map.1 hin
             exact absurd hyn (h2 y (by rw[HLn.out,List.take_length]; exact hy))
            ·exact h
           have hI8:=hI7 _ y _ (take_drop_of hy) hyn
           have hl1000:H.length≤1000:=by
            obtain⟨F,Y,r,q,-,-,hl⟩:=HI.out.1
            omega
           obtain⟨g,cap,hv,hlc,hcm,hout⟩:=hM7.out hl1000 (a:=i) (by have:=HLn.out; omega)
           obtain⟨rfl,hjl,rfl⟩:=Value.slice.inj hv
           obtain⟨v2,w8,hr2,v3,w9,hr3,hK9⟩:=hout w7.drew (blD (Below.refl _ _))
           have HRel:Hid (q147z w B Bd S k v3 w9):=⟨S7,D7,_,hK9,hI8,hd7⟩
           have q5:decide ((i:Int)≥0)=true:=decide_eq_true (by omega)
           have q6:¬(i:Int)<0:=by omega
           have e2:IntKind.i64.wrap ((i:Int)+1)=((i+1:Nat):Int):=by rw[IntWalk.i64_in _ (by omega)]; omega
           have hlc2:H.length≤cap6:=hlc
           subst hjl
           have HR3:=Lib.hid hr3
           clear hM7 hd7 hI7 hin HRm hI8 hy hyn hout hK9 hv hr3 hl1000
           have hic:i≤cap6:=by omega
           have hi1:i+1≤H.length:=by omega
           have hi1c:i+1≤cap6:=by omega
           have n1:(0:Int)≤(i:Int)+1:=by omega
           have n2:(i:Int)+1≤(H.length:Int):=by omega
           have n3:(i:Int)≤(i:Int)+1:=by omega
           go_upto_region 30 with fail
           by_cases hcc:cap6=i+1
           ·have hr3:=HR3.out ⟨g,0,none⟩ (Or.inl (by omega))
            subst hcc
            rw[Nat.sub_self,show H.length-(i+1)=0 by omega] at hr3
            refine q47z (fun _=>True) 9 (by kernel_rfl) (by first | trivial | assumption) (fun hHeld hX0=>?_)
            refine tkU 1 ?_; clear hX0; intro hX0; simp only[Act.put,ps0]
            refine tkU 2 ?_; clear hX0; intro hX0; simp only[Act.put,ps0]
            refine tkU 3 ?_; clear hX0; intro hX0; simp only[Act.put,ps0]
            refine tkU 5 ?_; clear hX0; intro hX0; simp only[Act.put,ps0]
            refine tkU 6 ?_; clear hX0; intro hX0; simp only[Act.put,ps0]
            refine tkU 7 ?_; clear hX0; intro hX0; simp only[Act.put,ps0]
            refine tkU 8 ?_; clear hX0; intro hX0; simp only[Act.put,ps0]
            refine AnyU.each (is:=[0]) (by kernel_rfl) (by simp) (EachU.cons hX0 (by kernel_rfl) rfl (fun K hK=>?_) EachU.nil)
            try simp only[List.getElem_toArray,List.getElem_cons_zero]
            go_simp
            try simp only
            refine hK.out _ _ (fun _=>?hkS) (fun hHeld2 hX1=>?_)
            case hkS=>
             exact trivial
            clear hHeld; have hHeld:=hHeld2 (by decide)
            clear hK K hHeld2 hX0; have hX0:=hX1; clear hX1
            try simp only[Act.put,ps0]
            refine AnyU.each (is:=[4]) (by kernel_rfl) (by simp) (EachU.cons hX0 (by kernel_rfl) rfl (fun K hK=>?_) EachU.nil)
            refine step_append_run rfl _ _ _ rfl hr2 rfl rfl ?_
            try simp only
            refine hK.out _ _ (fun _=>?hkS) (fun hHeld2 hX1=>?_)
            case hkS=>
             exact trivial
            clear hHeld; have hHeld:=hHeld2 (by decide)
            clear hK K hHeld2 hX0; have hX0:=hX1; clear hX1
            try simp only[Act.put,ps0]
            refine AnyU.each (is:=[9]) (by kernel_rfl) (by simp) (EachU.cons hX0 (by kernel_rfl) rfl (fun K hK=>?_) EachU.nil)
            refine step_append_run rfl _ _ _ rfl (w':=w9) (r:=v3) ?hr rfl rfl ?_
            case hr=>exact hr3
            try simp only
            refine hK.out _ _ (fun h=>absurd h (by decide)) (fun _ hX1=>?_)
            clear hK K hX0; have hX0:=hX1; clear hX1
            try simp only[Act.put,ps0]
            refine pkU 10 ?_; clear hX0; intro hX0; simp only[Act.put,ps0]
            refine AnyU.done (by kernel_rfl) ?_ _
            clear hHeld hX0 hr2 hr3
            go_wp2
            go_meet
            case rel=>exact HRel.out
           ·have hr3:=HR3.out ⟨g,(i+1)*2,none⟩ (Or.inr rfl)
            refine q47z (fun _=>True) 9 (by kernel_rfl) (by first | trivial | assumption) (fun hHeld hX0=>?_)
            refine tkU 1 ?_; clear hX0; intro hX0; simp only[Act.put,ps0]
            refine tkU 2 ?_; clear hX0; intro hX0; simp only[Act.put,ps0]
            refine tkU 3 ?_; clear hX0; intro hX0; simp only[Act.put,ps0]
            refine tkU 5 ?_; clear hX0; intro hX0; simp only[Act.put,ps0]
            refine tkU 6 ?_; clear hX0; intro hX0; simp only[Act.put,ps0]
            refine tkU 7 ?_; clear hX0; intro hX0; simp only[Act.put,ps0]
            refine tkU 8 ?_; clear hX0; intro hX0; simp only[Act.put,ps0]
            refine AnyU.each (is:=[0]) (by kernel_rfl) (by simp) (EachU.cons hX0 (by kernel_rfl) rfl (fun K hK=>?_) EachU.nil)
            try simp only[List.getElem_toArray,List.getElem_cons_zero]
            go_simp
            try simp only
            refine hK.out _ _ (fun _=>?hkS) (fun hHeld2 hX1=>?_)
            case hkS=>
             exact trivial
            clear hHeld; have hHeld:=hHeld2 (by decide)
            clear hK K hHeld2 hX0; have hX0:=hX1; clear hX1
            try simp only[Act.put,ps0]
            refine AnyU.each (is:=[4]) (by kernel_rfl) (by simp) (EachU.cons hX0 (by kernel_rfl) rfl (fun K hK=>?_) EachU.nil)
            refine step_append_run rfl _ _ _ rfl hr2 rfl rfl ?_
            try simp only
            refine hK.out _ _ (fun _=>?hkS) (fun hHeld2 hX1=>?_)
            case hkS=>
             exact trivial
            clear hHeld; have hHeld:=hHeld2 (by decide)
            clear hK K hHeld2 hX0; have hX0:=hX1; clear hX1
            try simp only[Act.put,ps0]
            refine AnyU.each (is:=[9]) (by kernel_rfl) (by simp) (EachU.cons hX0 (by kernel_rfl) rfl (fun K hK=>?_) EachU.nil)
            refine step_append_run rfl _ _ _ rfl (w':=w9) (r:=v3) ?hr rfl rfl ?_
            case hr=>exact hr3
            try simp only
            refine hK.out _ _ (fun h=>absurd h (by decide)) (fun _ hX1=>?_)
            clear hK K hX0; have hX0:=hX1; clear hX1
            try simp only[Act.put,ps0]
            refine pkU 10 ?_; clear hX0; intro hX0; simp only[Act.put,ps0]
            refine AnyU.done (by kernel_rfl) ?_ _
            clear hHeld hX0 hr2 hr3
            go_wp2
            go_meet
            case rel=>exact HRel.out
        | false=>
          rcases HA.out with ⟨rfl,hnot⟩ | ⟨i,rfl,hij,y,hy,hyn⟩
          ·have HNin:Hid (xn∉H.map Sp.Entry.name):=fun hh=>by
            obtain⟨y,hy,hyn⟩:=List.mem_map.1 hh
            exact hnot y (by rw[HLn.out,List.take_length]; exact hy) hyn
           have HMay:Hid ((⟨1+N,xn⟩:Sp.Entry).may∧(1+N)≠0):=⟨Or.inr ⟨by show 1≤1+N; omega,by show 1+N≤65535; omega,hnb⟩,by omega⟩
           clear hnot HREM HSET
           go_wp2_with fail
           clear x0 x1 z0 z1 z2 x2
           refine HADD0.out.mono ?_
           rintro e w7 ⟨u,c,rfl,S7,D7,hM7,hd7,hkp,hr7⟩
           obtain⟨rfl,hI7⟩:c=0∧KeepI S7 (k+1) (H ++ [⟨1+N,xn⟩]):=by
            rcases hr7 with ⟨-,h1,-⟩ | ⟨-,h1,-⟩ | ⟨h1,-,h2⟩
            ·exact absurd HMay.out h1
            ·exact absurd h1 HNin.out
            ·exact⟨h1,h2⟩
           have hl1000:H.length≤1000:=by
            obtain⟨F,Y,r,q,-,-,hl⟩:=HI.out.1
            omega
           have hx7:=(hkp qx _ HXa.out HXnd.out).1
           have x0:=cellOf (k:=0) hx7 rfl
           have x1:=cellOf (k:=1) hx7 rfl
           obtain⟨v8,w8,hr8,hK8⟩:=(hM7.below (bl2 (.cells #[.int .i64 (1+N),.string xn] 69))).app hl1000 ⟨1+N,xn⟩ (q2z w7 _)
           have HRel:Hid (q147z w B Bd S k v8 w8):=⟨S7,D7,_,hK8,hI7,hd7⟩
           clear hM7 hd7 hkp hr7 hI7 hx7 hK8 hl1000 HADD0
           go_wp2_with (at_builtin; refine wpList_append_run rfl _ _ _ rfl hr8 rfl rfl ?_)
           go_meet
           case rel=>exact HRel.out
          ·have HIn:Hid (xn∈H.map Sp.Entry.name):=List.mem_map.2 ⟨y,List.mem_of_getElem? hy,hyn⟩
           have HMay:Hid ((⟨1+N,xn⟩:Sp.Entry).may∧(1+N)≠0):=⟨Or.inr ⟨by show 1≤1+N; omega,by show 1+N≤65535; omega,hnb⟩,by omega⟩
           have HY:Hid (H[i]? = some y∧y.name=xn):=⟨hy,hyn⟩
           have q5:decide ((i:Int)≥0)=true:=decide_eq_true (by omega)
           have q6:¬(i:Int)<0:=by omega
           have hji:(i:Int)<(j:Int):=by omega
           clear hy hyn HREM
           go_wp2_with fail
           clear x0 x1 z0 z1 z2 x2
           refine HADD0.out.mono ?_
           rintro e w7 ⟨u,c,rfl,S7,D7,hM7,hd7,hkp,hr7⟩
           obtain⟨rfl,hI7⟩:c=101∧KeepI S7 k H:=by
            rcases hr7 with ⟨-,h1,-⟩ | ⟨h1,-,h2⟩ | ⟨-,h1,-⟩
            ·exact absurd HMay.out h1
            ·exact⟨h1,h2⟩
            ·exact absurd HIn.out h1
           obtain⟨hx7,hq7⟩:=hkp qx _ HXa.out HXnd.out
           have x0:=cellOf (k:=0) hx7 rfl
           have x1:=cellOf (k:=1) hx7 rfl
           obtain⟨z0,z1,z2⟩:=HBox.out _ _ _ _ _ hM7
           have HSt:=Lib.hid (HSET.out w7 B Bd S7 D7 H _ k hM7 hI7 hl2 i y HY.out.1 (1+N) xn HY.out.2 hxn ⟨by omega,by omega⟩)
           have HX7:Hid (w7.heap[qx]? = some (.cells #[.int .i64 (1+N),.string xn] 69 (0,0))∧¬D7 qx):=⟨hx7,hq7⟩
           have HD7:=Lib.hid hd7
           clear hM7 hd7 hkp hr7 hI7 hx7 hq7 HADD0 HSET
           go_wp2_with fail
           clear x0 x1 z0 z1 z2
           refine HSt.out.mono ?_
           rintro e w8 ⟨u,rfl,S8,D8,hM8,hd8,hkp8,hI8⟩
           have hx8:=(hkp8 qx _ HX7.out.1 HX7.out.2).1
           have x0:=cellOf (k:=0) hx8 rfl
           have x1:=cellOf (k:=1) hx8 rfl
           obtain⟨g,cap,hv,⟨y0,hy0⟩,⟨y1,hy1⟩,hfz,hlc,hK9⟩:=hM8.set (a:=i) (by have:=HLn.out; omega) ⟨1+N,xn⟩
           obtain⟨rfl,hjl,rfl⟩:=Value.slice.inj hv
           subst hjl
           have f0:=hfz (i*2)
           have f1:=hfz (i*2+1)
           have HRel:Hid (q147z w B Bd S k (.slice (some ⟨g,0,none⟩) H.length cap6) ((w8.setCell ⟨g,i*2,none⟩ (.int .i64 (1+N))).setCell ⟨g,i*2+1,none⟩ (.string xn))):=⟨S8,D8,_,hK9,hI8,hd8.trans HD7.out⟩
           clear hM8 hd8 hkp8 hI8 hx8 hK9 HSt HX7 hv hfz
           go_wp2
           go_meet
           case rel=>exact HRel.out
     case rest=> as_aux_lemma =>
     obtain⟨S6,D6,H6,hM6,hI6,hd6⟩:=hcut
     have hl6:S6.disk.last≤1024*k:=by rw[hd6]; exact HI.out.2
     obtain⟨-,-,-,x3⟩:=HCell.out wc hM6.dm.bel
     have HFl:=Lib.hid (HFLUSH.out wc B Bd S6 D6 H6 _ (k+1) hM6 hI6 (by omega) xp P HP.out)
     clear hM6 hI6 hd6 HXi HCi HMi HA HI HXnd HFLUSH HSET HREM HADD x1
     go_wp2_with fail
     clear x3
     refine HFl.out.mono ?_
     rintro e w7 ⟨rfl,S7,hM7,hI7,hl7,-⟩
     obtain⟨z0,z1,z2⟩:=HBox.out _ _ _ _ _ hM7
     have HNm:=Lib.hid (HNAMES.out w7 B Bd S7 D6 H6 _ (k+1) hM7 hI7)
     have HI7:Hid (KeepI S7 (k+1) H6∧S7.disk.last≤1024*(k+1)):=⟨hI7,by omega⟩
     clear hM7 hI7 hl7 HFl HNAMES
     go_wp2_with fail
     clear z0 z1 z2
     refine HNm.out.mono ?_
     rintro e w8 ⟨rfl,hM8⟩
     have HRw:=Lib.hid (HRAW.out w8 B Bd S7 D6 H6 _ (k+1) hM8 HI7.out.1)
     clear hM8 HNm HRAW
     go_wp2_with fail
     refine HRw.out.mono ?_
     rintro e w9 ⟨B',rfl,hM9,hnm9,-⟩
     obtain⟨z0,z1,z2⟩:=HBox.out _ _ _ _ _ hM9
     have HNr:=Lib.hid hnm9
     clear hM9 hnm9 HRw
     go_wp2_with fail
     clear z0 z1 z2
     refine HNr.out.mono ?_
     rintro e w10 ⟨u,rfl,hM10⟩
     have HM10:=Lib.hid hM10
     clear hM10 HNr
     go_wp2
     go_roundw
     case rel=>exact⟨k+1,S7,D6,H6,by omega,by omega,by go_num,HM10,HI7⟩
     case measure=>simp[intOf]; omega
   --]
  ·have hlt2:(¬k<len)∨(k<len∧¬k<30):=by omega
   have HSt:Hid (KeepI S k H∧S.deps.l.length≤150-0∧S.disk.last≤1024*(30+0)):=⟨HI.out.1,by have:=HI.out.1.few; omega,by have:=HI.out.2; omega⟩
   clear HADD HREM HSET HI
   rcases hlt2 with h1 | ⟨h1,h2⟩
   ·skip
    go_wp2
    go_loopw [213] (fun q wr2=>∃(j:Nat) (S':Sp.Side),j≤200∧q = .int .i64 (j:Int)∧Hid (KM w B Bd S' D H u6 wr2)∧Hid (KeepI S' k H∧S'.deps.l.length≤150-j∧S'.disk.last≤1024*(30+j))) (fun q _=>200-(intOf q).toNat)
    case atStart=>exact⟨0,S,Nat.zero_le _,rfl,HMr,HSt⟩
    case round=> as_aux_lemma =>
     clear HMr HSt
     obtain⟨j,S',hj,rfl,HMj,HIj⟩:=hrel
     obtain⟨Bc,c0,hleft⟩:=km_left HMj.out
     unfold pt at hleft
     obtain⟨m,hm0⟩:∃m,S'.deps.l.length=m:=⟨_,rfl⟩
     rw[hm0] at hleft
     have HMm:Hid (S'.deps.l.length=m):=hm0
     have HLeft:=Lib.hid hleft
     clear hleft hm0
     by_cases hj200:j<200
     ·have hjl:(j:Int)<200:=by omega
      go_wp2_with fail
      clear c0
      refine HLeft.out.mono ?_
      rintro e w2 ⟨rfl,hw2⟩
      subst hw2
      by_cases hmz:m=0
      ·have q1:decide ((m:Int) > 0)=false:=decide_eq_false (by omega)
       have q2:¬0<m:=by omega
       have HI2:Hid (KeepI S' k H∧S'.deps.l.length≤150-(j+1)∧S'.disk.last≤1024*(30+(j+1))):=⟨HIj.out.1,by have:=HMm.out; omega,by have:=HIj.out.2.2; omega⟩
       clear HLeft hmz HFLUSH HRAW
       go_wp2
       go_roundw
       case rel=>exact⟨j+1,S',by omega,by go_num,HMj,HI2⟩
       case measure=>simp[intOf]; omega
      ·have q1:decide ((m:Int) > 0)=true:=decide_eq_true (by omega)
       have q2:0<m:=by omega
       have HFl:=Lib.hid (HFLUSH.out _ B Bd S' D H _ k HMj.out HIj.out.1 (by have:=HIj.out.2.2; omega) (.slice none 0 0) [] (RowAt.void w 1))
       clear HLeft hmz HFLUSH HRAW
       go_wp2_with fail
       refine HFl.out.mono ?_
       rintro e w3 ⟨rfl,S3,hM3,hI3,hl3,hlt3⟩
       have hlt4:=hlt3 trivial (fun e=>by have:=HMm.out; rw[e] at this; simp at this; omega)
       have HM3:=Lib.hid hM3
       have HI3:Hid (KeepI S3 k H∧S3.deps.l.length≤150-(j+1)∧S3.disk.last≤1024*(30+(j+1))):=⟨hI3,by have:=HIj.out.2.1; omega,by have:=HIj.out.2.2; omega⟩
       clear hM3 hI3 hl3 hlt3 hlt4 HFl
       go_wp2
       go_roundw
       case rel=>exact⟨j+1,S3,by omega,by go_num,HM3,HI3⟩
       case measure=>simp[intOf]; omega
     ·obtain rfl:j=200:=by omega
      have hm0:m=0:=by have:=HIj.out.2.1; have:=HMm.out; omega
      have HNil:Hid (S'.deps.l=[]):=List.eq_nil_of_length_eq_zero (by rw[HMm.out]; exact hm0)
      subst hm0
      have HRw:=Lib.hid (HRAW.out _ B Bd S' D H _ k HMj.out HIj.out.1)
      clear c0 HLeft HFLUSH HRAW hj200
      go_wp2_with fail
      refine HRw.out.mono ?_
      rintro e w3 ⟨B',rfl,hM3,-,hn3⟩
      obtain⟨Bc,c0,hleft⟩:=km_left hM3
      unfold pt at hleft
      rw[HMm.out] at hleft
      obtain⟨z0,z1,z2⟩:=HBox.out _ _ _ _ _ hM3
      have HNm:=Lib.hid (hn3 HNil.out w3 (Below.refl _ _))
      have HLeft:=Lib.hid hleft
      have HB3:Hid (Below w.heap.size w w3):=hM3.dm.bel
      clear hM3 hn3 hleft HRw
      go_wp2_with fail
      clear c0
      refine HLeft.out.mono ?_
      rintro e w4 ⟨rfl,hw4⟩
      subst hw4
      go_wp2_with fail
      clear z0 z1 z2
      refine HNm.out.mono ?_
      rintro e w5 ⟨rfl,hb5⟩
      have HF:Hid (Below w.heap.size w w5):=blN HB3.out hb5
      clear hb5
      go_wp2
      go_ret
      exact⟨rfl,HF.out⟩
   ·skip
    go_wp2
    go_loopw [213] (fun q wr2=>∃(j:Nat) (S':Sp.Side),j≤200∧q = .int .i64 (j:Int)∧Hid (KM w B Bd S' D H u6 wr2)∧Hid (KeepI S' k H∧S'.deps.l.length≤150-j∧S'.disk.last≤1024*(30+j))) (fun q _=>200-(intOf q).toNat)
    case atStart=>exact⟨0,S,Nat.zero_le _,rfl,HMr,HSt⟩
    case round=> as_aux_lemma =>
     clear HMr HSt
     obtain⟨j,S',hj,rfl,HMj,HIj⟩:=hrel
     obtain⟨Bc,c0,hleft⟩:=km_left HMj.out
     unfold pt at hleft
     obtain⟨m,hm0⟩:∃m,S'.deps.l.length=m:=⟨_,rfl⟩
     rw[hm0] at hleft
     have HMm:Hid (S'.deps.l.length=m):=hm0
     have HLeft:=Lib.hid hleft
     clear hleft hm0
     by_cases hj200:j<200
     ·have hjl:(j:Int)<200:=by omega
      go_wp2_with fail
      clear c0
      refine HLeft.out.mono ?_
      rintro e w2 ⟨rfl,hw2⟩
      subst hw2
      by_cases hmz:m=0
      ·have q1:decide ((m:Int) > 0)=false:=decide_eq_false (by omega)
       have q2:¬0<m:=by omega
       have HI2:Hid (KeepI S' k H∧S'.deps.l.length≤150-(j+1)∧S'.disk.last≤1024*(30+(j+1))):=⟨HIj.out.1,by have:=HMm.out; omega,by have:=HIj.out.2.2; omega⟩
       clear HLeft hmz HFLUSH HRAW
       go_wp2
       go_roundw
       case rel=>exact⟨j+1,S',by omega,by go_num,HMj,HI2⟩
       case measure=>simp[intOf]; omega
      ·have q1:decide ((m:Int) > 0)=true:=decide_eq_true (by omega)
       have q2:0<m:=by omega
       have HFl:=Lib.hid (HFLUSH.out _ B Bd S' D H _ k HMj.out HIj.out.1 (by have:=HIj.out.2.2; omega) (.slice none 0 0) [] (RowAt.void w 1))
       clear HLeft hmz HFLUSH HRAW
       go_wp2_with fail
       refine HFl.out.mono ?_
       rintro e w3 ⟨rfl,S3,hM3,hI3,hl3,hlt3⟩
       have hlt4:=hlt3 trivial (fun e=>by have:=HMm.out; rw[e] at this; simp at this; omega)
       have HM3:=Lib.hid hM3
       have HI3:Hid (KeepI S3 k H∧S3.deps.l.length≤150-(j+1)∧S3.disk.last≤1024*(30+(j+1))):=⟨hI3,by have:=HIj.out.2.1; omega,by have:=HIj.out.2.2; omega⟩
       clear hM3 hI3 hl3 hlt3 hlt4 HFl
       go_wp2
       go_roundw
       case rel=>exact⟨j+1,S3,by omega,by go_num,HM3,HI3⟩
       case measure=>simp[intOf]; omega
     ·obtain rfl:j=200:=by omega
      have hm0:m=0:=by have:=HIj.out.2.1; have:=HMm.out; omega
      have HNil:Hid (S'.deps.l=[]):=List.eq_nil_of_length_eq_zero (by rw[HMm.out]; exact hm0)
      subst hm0
      have HRw:=Lib.hid (HRAW.out _ B Bd S' D H _ k HMj.out HIj.out.1)
      clear c0 HLeft HFLUSH HRAW hj200
      go_wp2_with fail
      refine HRw.out.mono ?_
      rintro e w3 ⟨B',rfl,hM3,-,hn3⟩
      obtain⟨Bc,c0,hleft⟩:=km_left hM3
      unfold pt at hleft
      rw[HMm.out] at hleft
      obtain⟨z0,z1,z2⟩:=HBox.out _ _ _ _ _ hM3
      have HNm:=Lib.hid (hn3 HNil.out w3 (Below.refl _ _))
      have HLeft:=Lib.hid hleft
      have HB3:Hid (Below w.heap.size w w3):=hM3.dm.bel
      clear hM3 hn3 hleft HRw
      go_wp2_with fail
      clear c0
      refine HLeft.out.mono ?_
      rintro e w4 ⟨rfl,hw4⟩
      subst hw4
      go_wp2_with fail
      clear z0 z1 z2
      refine HNm.out.mono ?_
      rintro e w5 ⟨rfl,hb5⟩
      have HF:Hid (Below w.heap.size w w5):=blN HB3.out hb5
      clear hb5
      go_wp2
      go_ret
      exact⟨rfl,HF.out⟩
end
end Go.Proofs.YtaphcmcimoloiaaGreatDoor
