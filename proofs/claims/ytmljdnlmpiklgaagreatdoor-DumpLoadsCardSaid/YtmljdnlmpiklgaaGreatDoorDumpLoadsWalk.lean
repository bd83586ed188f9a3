import Derived.Test.YtmljdnlmpiklgaaGreatDoorRefLoad
namespace Go.Proofs.YtmljdnlmpiklgaaGreatDoor
open Go Go.RowKit Txt Sp
set_option maxHeartbeats 8000000
set_option maxRecDepth 20000 in
theorem dumpLoads_any (w:World) (g:Sp.Geom) (t:ByteArray) (ht:TabOk w) (hm:MaxOk w) :
 Calls Tryz.prog 3 #[gV g,.string t] w fun e w'=>e = .returned (.bool true)∧Below w.heap.size w w':=by
 have hwk:=fun(W:World) (hW:Below w.heap.size w W)=>works31_any W (ht.below hW) (hm.below hW)
 by_cases hbig:20000<t.size∧t.size≤1048576
 ·have q1:decide ((t.size:Int) > 20000)=true:=decide_eq_true (by omega)
  have q2:decide ((t.size:Int)≤1048576)=true:=decide_eq_true (by omega)
  have q3:(20000:Int)<(t.size:Int):=by omega
  have q4:(t.size:Int)≤1048576:=by omega
  obtain⟨ga,gb,gc⟩:=g
  unfold gV
  have HWK:=zh hwk
  clear hwk
  clear hbig ht hm
  obtain⟨W0,hW0⟩:=zg w ga gb gc
  have hk:=g_keep hW0
  have HB0:=zh hk.1
  have HK:=zh hk.2
  clear hk
  go_enter Tryz.func3,Tryz.ntmps3
  go_wp2_with fail
  refine(HWK.out _ HB0.out).mono ?_
  rintro e w1 ⟨rfl,hb1⟩
  have HB1:=zh (blN HB0.out hb1)
  clear hb1
  go_wp2
  first | exact⟨rfl,HB1.out⟩ | (go_ret; exact⟨rfl,HB1.out⟩)
 have hgd:(decide ((t.size:Int) > 20000)=false)∨(decide ((t.size:Int) > 20000)=true∧decide ((t.size:Int)≤1048576)=false):=by
  by_cases h:20000<t.size
  ·exact Or.inr ⟨decide_eq_true (by omega),decide_eq_false (by omega)⟩
  ·exact Or.inl (decide_eq_false (by omega))
 have hld:=fun(W:World) (hW:Below w.heap.size w W)=>dload_any W g t (ht.below hW) (hm.below hW)
 have hrl:=fun(W:World)=>rload_any W g t
 unfold q28z at hld hrl
 have hst:=fun(W:World) (v u:Value) (l:List ByteArray) (hv:Texts W v l) (hu:Texts W u l)=>sameTexts_yes v u l W hv hu
 obtain⟨l,hl⟩:=zx ((loadN g t).1)
 obtain⟨k,hk⟩:∃k:Int,((loadN g t).2.1:Int)=k:=⟨_,rfl⟩
 obtain⟨c,hc⟩:=zx ((loadN g t).2.2)
 simp only[hl,hk,hc] at hld hrl
 have e1:(k == k)=true:=beq_self_eq_true k
 have e2:(c == c)=true:=beq_self_eq_true c
 obtain⟨ga,gb,gc⟩:=g
 unfold gV at hld hrl ⊢
 have HGD:=zh hgd
 have HWK:=zh hwk
 have HLD:=zh hld
 have HRL:=zh hrl
 have HST:=zh hst
 clear hwk hld hrl hst
 clear hl hk hc ht hm hbig hgd
 rcases HGD.out with q1 | ⟨q1,q2⟩
 focus
  obtain⟨W0,hW0⟩:=zg w ga gb gc
  have hk:=g_keep hW0
  have HB0:=zh hk.1
  have HK:=zh hk.2
  clear hk
  obtain⟨z0,z1,z2⟩:=HK.out W0 (Below.refl _ _)
  go_enter Tryz.func3,Tryz.ntmps3
  go_wp2_with fail
  refine(HLD.out _ HB0.out).mono ?_
  rintro e w1 ⟨lv,rfl,ho1,hb1⟩
  have HB1:Hid (Below W0.heap.size W0 w1):=hb1
  clear z0 z1 z2 hb1
  obtain⟨z0,z1,z2⟩:=HK.out w1 HB1.out
  go_wp2_with fail
  refine(HRL.out _).mono ?_
  rintro e w2 ⟨rv,rfl,ho2,hb2⟩
  have HB2:Hid (Below W0.heap.size W0 w2):=blN HB1.out hb2
  have HST2:=zh (HST.out w2 lv rv l (OwnR.texts (OwnR.below ho1 hb2)) (OwnR.texts ho2))
  clear z0 z1 z2 hb2 ho1 ho2
  go_wp2_with fail
  refine HST2.out.mono ?_
  rintro e w3 ⟨rfl,hb3⟩
  have HB3:=zh (blN HB2.out hb3)
  clear hb3
  go_wp2_with fail
  refine(HWK.out _ (blN HB0.out HB3.out)).mono ?_
  rintro e w4 ⟨rfl,hb4⟩
  have HB4:=zh (blN (blN HB0.out HB3.out) hb4)
  clear hb4
  go_wp2
  first | exact⟨rfl,HB4.out⟩ | (go_ret; exact⟨rfl,HB4.out⟩)
 focus
  obtain⟨W0,hW0⟩:=zg w ga gb gc
  have hk:=g_keep hW0
  have HB0:=zh hk.1
  have HK:=zh hk.2
  clear hk
  obtain⟨z0,z1,z2⟩:=HK.out W0 (Below.refl _ _)
  go_enter Tryz.func3,Tryz.ntmps3
  go_wp2_with fail
  refine(HLD.out _ HB0.out).mono ?_
  rintro e w1 ⟨lv,rfl,ho1,hb1⟩
  have HB1:Hid (Below W0.heap.size W0 w1):=hb1
  clear z0 z1 z2 hb1
  obtain⟨z0,z1,z2⟩:=HK.out w1 HB1.out
  go_wp2_with fail
  refine(HRL.out _).mono ?_
  rintro e w2 ⟨rv,rfl,ho2,hb2⟩
  have HB2:Hid (Below W0.heap.size W0 w2):=blN HB1.out hb2
  have HST2:=zh (HST.out w2 lv rv l (OwnR.texts (OwnR.below ho1 hb2)) (OwnR.texts ho2))
  clear z0 z1 z2 hb2 ho1 ho2
  go_wp2_with fail
  refine HST2.out.mono ?_
  rintro e w3 ⟨rfl,hb3⟩
  have HB3:=zh (blN HB2.out hb3)
  clear hb3
  go_wp2_with fail
  refine(HWK.out _ (blN HB0.out HB3.out)).mono ?_
  rintro e w4 ⟨rfl,hb4⟩
  have HB4:=zh (blN (blN HB0.out HB3.out) hb4)
  clear hb4
  go_wp2
  first | exact⟨rfl,HB4.out⟩ | (go_ret; exact⟨rfl,HB4.out⟩)
