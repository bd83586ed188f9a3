import Derived.Test.YtmljdnlmpiklgaaGreatDoorLoadList
import Derived.Test.YtmljdnlmpiklgaaGreatDoorRefOf
namespace Go.Proofs.YtmljdnlmpiklgaaGreatDoor
open Go Go.RowKit Txt Sp
theorem q20z (x l:List UInt8):((ofL x).toList == l)=decide (x=l):=by
 rw[Lib.toList_data,ofL_data,Bool.eq_iff_iff,beq_iff_eq,decide_eq_true_iff]
theorem q18z (g:Sp.Geom) (a:Int) (w:List UInt8) (r:List (List UInt8)):readP g a (w :: r) =
 if w=wBlank then(if r=[] then some Sp.blank else none)
 else if w=wLeases then q8z g a r
 else if w=q17z then q15z g r
 else if w=wDir then q27z r
 else if w=wSuper then q30z r
 else if w=wFence then q31z r
 else if w=wInodes then mapP g.inodes r
 else if w=wBlocks then mapP g.blocks r
 else if w=wRaw3 then match r with
  | [x]=>match q4z x with
    | some l=>if l.length=64 then some (ofL l) else none
    | none=>none
  | _=>none
 else none:=rfl
theorem q1z.any {o:Option ByteArray} {w w0 w':World} {e:Ending} (h:q1z o w e w') (hb:Below w0.heap.size w0 w):q1z o w0 e w':=by
 obtain⟨T,h1,h2,h3⟩:=h
 exact⟨T,h1,h2,blN hb h3⟩
theorem q1z.below {o:Option ByteArray} {w w':World} {e:Ending} (h:q1z o w e w'):Below w.heap.size w w':=by
 obtain⟨T,_,_,h3⟩:=h
 exact h3
section
set_option maxHeartbeats 16000000
set_option maxRecDepth 20000 in
theorem dsector_any (w:World) (g:Sp.Geom) (a:Nat) (v:Value) (x:List UInt8) (r:List (List UInt8)) (hg:g.ok) (ha:a≤1000000) (hm:MaxOk w) (hv:Texts w v ((x :: r).map ofL)) (hs:∀y∈x :: r,y.length≤4000000) (hl:(x :: r).length≤4000000) :
 Calls Tryz.prog 17 #[gV g,.int .i64 (a:Int),v] w (q1z (readP g (a:Int) (x :: r)) w):=by
 obtain⟨bb,o,cap,hvv,h1,h2,hb,hc⟩:=hv.open_ne (by simp)
 have hsr:∀y∈r,y.length≤4000000:=fun y hy=>hs y (List.mem_cons_of_mem _ hy)
 have hlr:r.length≤4000000:=by simp only[List.length_cons] at hl; omega
 obtain⟨N,hN⟩:=zx (((x :: r).map ofL).length)
 rw[hN] at hvv h1
 have hN2:N=r.length+1:=by rw[←hN]; simp
 subst hvv
 have hc0:w.cell? ⟨bb,o,none⟩=some (.string (ofL x)):=hc 0 _ rfl
 obtain⟨ad,had⟩:=zx ((if cap=1 then some ⟨bb,o,none⟩ else some ⟨bb,o+1,none⟩:Option Addr))
 have hrest:Texts w (.slice ad (N-1) (cap-1)) (r.map ofL):=by
  rw[←had]
  by_cases hc1:cap=1
  ·have hr:r=[]:=List.length_eq_zero_iff.1 (by omega)
   rw[if_pos hc1,hr,show N-1=0 by omega,show cap-1=0 by omega]
   exact⟨_,_,rfl,Nat.le_refl _,Nat.zero_le _,fun h=>absurd h (by simp)⟩
  ·rw[if_neg hc1]
   exact Texts.rest (x:=ofL x) (by rw[List.length_map]; omega) (by omega) h2 hb (fun j y hy=>hc j y hy) rfl
 have HC0:Hid (∀W,Below w.heap.size w W→W.cell? ⟨bb,o,none⟩=some (.string (ofL x))):=fun W hW=>(hW.cell (p:=⟨bb,o,none⟩) hb).trans hc0
 have hul:=fun(W:World) (hW:Below w.heap.size w W)=>dunleased_any W g a _ r hg ha (hm.below hW) (hrest.below hW) hsr
 have hun:=fun(W:World) (hW:Below w.heap.size w W)=>dunnode_any W g _ r (hrest.below hW) hsr
 have hud:=fun(W:World) (hW:Below w.heap.size w W)=>dunlisted_any W _ r (hm.below hW) (hrest.below hW) hsr
 have hps:=fun(W:World) (hW:Below w.heap.size w W)=>dplain_super W g _ r (hrest.below hW) (fun y hy=>by have:=hsr y hy; omega) hlr
 have hpf:=fun(W:World) (hW:Below w.heap.size w W)=>dplain_fence W g _ r (hrest.below hW) (fun y hy=>by have:=hsr y hy; omega) hlr
 have hpi:=fun(W:World) (hW:Below w.heap.size w W)=>dplain_inodes W g _ r (hrest.below hW) (fun y hy=>by have:=hsr y hy; omega) hlr
 have hpb:=fun(W:World) (hW:Below w.heap.size w W)=>dplain_blocks W g _ r (hrest.below hW) (fun y hy=>by have:=hsr y hy; omega) hlr
 have hbl:=fun W:World=>fblank_any W
 have hno:=fun(h:readP g (a:Int) (x :: r)=none) (T:ByteArray) (w':World) (hb:Below w.heap.size w w')=>rd_no (w:=w) h T hb
 have hyes:=fun(s:ByteArray) (h:readP g (a:Int) (x :: r)=some s) (w':World) (hb:Below w.heap.size w w')=>q37z (w:=w) h hb
 have hany:=fun(o:Option ByteArray) (h:readP g (a:Int) (x :: r)=o) (W:World) (hb:Below w.heap.size w W) (e:Ending) (w':World) (hr:q1z o W e w')=>show q1z (readP g (a:Int) (x :: r)) w e w' from by rw[h]; exact hr.any hb
 obtain⟨Q,hQ⟩:=zx (q1z (readP g (a:Int) (x :: r)) w)
 rw[hQ] at hno hyes hany ⊢
 have hP:=q18z g (a:Int) x r
 obtain⟨X,hX⟩:=zx (ofL x)
 rw[hX] at HC0
 have q1:(X.toList == [98,108,97,110,107])=decide (x=wBlank):=by rw[←hX]; exact q20z x wBlank
 have q2:(X.toList == [108,101,97,115,101,115])=decide (x=wLeases):=by rw[←hX]; exact q20z x wLeases
 have q3:(X.toList == [105,110,111,100,101])=decide (x=q17z):=by rw[←hX]; exact q20z x q17z
 have q4:(X.toList == [100,105,114])=decide (x=wDir):=by rw[←hX]; exact q20z x wDir
 have q5:(X.toList == [115,117,112,101,114])=decide (x=wSuper):=by rw[←hX]; exact q20z x wSuper
 have q6:(X.toList == [102,101,110,99,101])=decide (x=wFence):=by rw[←hX]; exact q20z x wFence
 have q7:(X.toList == [105,110,111,100,101,115])=decide (x=wInodes):=by rw[←hX]; exact q20z x wInodes
 have q8:(X.toList == [98,108,111,99,107,115])=decide (x=wBlocks):=by rw[←hX]; exact q20z x wBlocks
 have q9:(X.toList == [114,97,119])=decide (x=wRaw3):=by rw[←hX]; exact q20z x wRaw3
 have hNi:(1:Int)≤(N:Int):=by omega
 have hN1:1≤N:=by omega
 have hc1:1≤cap:=by omega
 have hP0:=zh hP
 obtain⟨ga,gb,gc⟩:=g
 unfold gV at hul hun hps hpf hpi hpb ⊢
 by_cases x1:x=wBlank
 ·rw[if_pos x1] at hP
  rw[decide_eq_true x1] at q1
  by_cases hr:r=[]
  ·rw[if_pos hr] at hP
   have HY:=zh (hyes _ hP)
   have hNN:N=1:=by rw[hN2,hr]; rfl
   subst hNN
   obtain⟨BK,hBK⟩:=zx (Sp.blank)
   rw[hBK] at hbl HY
   have HBL:=zh hbl
   clear hbl
   clear hr hN2 hBK hul hun hud hps hpf hpi hpb hno hyes hany q2 q3 q4 q5 q6 q7 q8 q9 x1 hX hv hs hl hg ha hm hc hc0 hrest hsr hlr hN hQ hP hP0
   obtain⟨W0,hW0⟩:=zg w ga gb gc
   have hk:=g_keep hW0
   have HB0:=zh hk.1
   have HK:=zh hk.2
   clear hk
   obtain⟨z0,z1,z2⟩:=HK.out W0 (Below.refl _ _)
   have c0:=HC0.out W0 HB0.out
   go_enter Tryz.func17,Tryz.ntmps17
   clear z0 z1 z2
   go_wp2_with fail
   refine(HBL.out _).mono ?_
   rintro e w1 ⟨rfl,hb1⟩
   have HB1:=zh (blN HB0.out hb1)
   clear hb1
   go_wp2
   first | exact HY.out _ HB1.out | (go_ret2; exact HY.out _ HB1.out)
  ·rw[if_neg hr] at hP
   have HNo:=zh (hno hP)
   have f1:((N:Int) == 1)=false:=beq_eq_false_iff_ne.2 (fun h=>hr (List.length_eq_zero_iff.1 (by omega)))
   have HBL:=zh hbl
   clear hbl
   clear hr hN2 hul hun hud hps hpf hpi hpb hno hyes hany q2 q3 q4 q5 q6 q7 q8 q9 x1 hX hv hs hl hg ha hm hc hc0 hrest hsr hlr hN hQ hP hP0
   obtain⟨W0,hW0⟩:=zg w ga gb gc
   have hk:=g_keep hW0
   have HB0:=zh hk.1
   have HK:=zh hk.2
   clear hk
   obtain⟨z0,z1,z2⟩:=HK.out W0 (Below.refl _ _)
   have c0:=HC0.out W0 HB0.out
   go_enter Tryz.func17,Tryz.ntmps17
   clear z0 z1 z2
   go_wp2_with fail
   refine(HBL.out _).mono ?_
   rintro e w1 ⟨rfl,hb1⟩
   have HB1:=zh (blN HB0.out hb1)
   clear hb1
   go_wp2
   first | exact HNo.out _ _ HB1.out | (go_ret2; exact HNo.out _ _ HB1.out)
 rw[if_neg x1] at hP
 rw[decide_eq_false x1] at q1
 by_cases x2:x=wLeases
 ·rw[if_pos x2] at hP
  rw[decide_eq_true x2] at q2
  have hanp:=hany _ hP
  have HUL:=zh hul
  have HANP:=zh hanp
  clear hul hanp
  clear hany hN2 hun hud hps hpf hpi hpb hbl hno hyes q3 q4 q5 q6 q7 q8 q9 x2 x1 hX hv hs hl hg ha hm hc hc0 hrest hsr hlr hN hQ hP hP0
  obtain⟨W0,hW0⟩:=zg w ga gb gc
  have hk:=g_keep hW0
  have HB0:=zh hk.1
  have HK:=zh hk.2
  clear hk
  obtain⟨z0,z1,z2⟩:=HK.out W0 (Below.refl _ _)
  have c0:=HC0.out W0 HB0.out
  go_enter Tryz.func17,Tryz.ntmps17
  go_wp2_with fail
  go_region_held3 (fun W=>W.cell? ⟨w.heap.size,0,none⟩=some (.int .i64 ga)∧W.cell? ⟨w.heap.size,1,none⟩=some (.int .i64 gb)∧W.cell? ⟨w.heap.size,2,none⟩=some (.int .i64 gc))
   ((refine HK.out _ ?_; repeat' first | with_reducible exact Below.refl _ _ | with_reducible exact HB1.out | with_reducible refine blD ?_))
   (first
     | (go_at_call 42
        with_reducible refine(HUL.out _ ?a1).mono ?_
        case a1=>exact blN HB0.out (by repeat' first | with_reducible exact Below.refl _ _ | with_reducible refine blD ?_)
        rintro e w1 hr
        have HX:=zh (HANP.out _ (blN HB0.out (by repeat' first | with_reducible exact Below.refl _ _ | with_reducible refine blD ?_)) _ _ hr)
        have HB1:Hid (Below W0.heap.size W0 w1):=blN (by repeat' first | with_reducible exact Below.refl _ _ | with_reducible refine blD ?_) hr.below
        obtain⟨T,rfl,h2,h3⟩:=hr
        clear h2 h3
        simp only))
  all_goals
   go_wp2
   first | exact HX.out | (go_ret2; exact HX.out)
 rw[if_neg x2] at hP
 rw[decide_eq_false x2] at q2
 by_cases x3:x=q17z
 ·rw[if_pos x3] at hP
  rw[decide_eq_true x3] at q3
  have hanp:=hany _ hP
  have HUN:=zh hun
  have HANP:=zh hanp
  clear hun hanp
  clear hany hN2 hul hud hps hpf hpi hpb hbl hno hyes q4 q5 q6 q7 q8 q9 x3 x1 x2 hX hv hs hl hg ha hm hc hc0 hrest hsr hlr hN hQ hP hP0
  obtain⟨W0,hW0⟩:=zg w ga gb gc
  have hk:=g_keep hW0
  have HB0:=zh hk.1
  have HK:=zh hk.2
  clear hk
  obtain⟨z0,z1,z2⟩:=HK.out W0 (Below.refl _ _)
  have c0:=HC0.out W0 HB0.out
  go_enter Tryz.func17,Tryz.ntmps17
  go_wp2_with fail
  go_region_held3 (fun W=>W.cell? ⟨w.heap.size,0,none⟩=some (.int .i64 ga)∧W.cell? ⟨w.heap.size,1,none⟩=some (.int .i64 gb)∧W.cell? ⟨w.heap.size,2,none⟩=some (.int .i64 gc))
   ((refine HK.out _ ?_; repeat' first | with_reducible exact Below.refl _ _ | with_reducible exact HB1.out | with_reducible refine blD ?_))
   (first
     | (go_at_call 43
        with_reducible refine(HUN.out _ ?a1).mono ?_
        case a1=>exact blN HB0.out (by repeat' first | with_reducible exact Below.refl _ _ | with_reducible refine blD ?_)
        rintro e w1 hr
        have HX:=zh (HANP.out _ (blN HB0.out (by repeat' first | with_reducible exact Below.refl _ _ | with_reducible refine blD ?_)) _ _ hr)
        have HB1:Hid (Below W0.heap.size W0 w1):=blN (by repeat' first | with_reducible exact Below.refl _ _ | with_reducible refine blD ?_) hr.below
        obtain⟨T,rfl,h2,h3⟩:=hr
        clear h2 h3
        simp only))
  all_goals
   go_wp2
   first | exact HX.out | (go_ret2; exact HX.out)
 rw[if_neg x3] at hP
 rw[decide_eq_false x3] at q3
 by_cases x4:x=wDir
 ·rw[if_pos x4] at hP
  rw[decide_eq_true x4] at q4
  have hanp:=hany _ hP
  have HUD:=zh hud
  have HANP:=zh hanp
  clear hud hanp
  clear hany hN2 hul hun hps hpf hpi hpb hbl hno hyes q5 q6 q7 q8 q9 x4 x1 x2 x3 hX hv hs hl hg ha hm hc hc0 hrest hsr hlr hN hQ hP hP0
  obtain⟨W0,hW0⟩:=zg w ga gb gc
  have hk:=g_keep hW0
  have HB0:=zh hk.1
  have HK:=zh hk.2
  clear hk
  obtain⟨z0,z1,z2⟩:=HK.out W0 (Below.refl _ _)
  have c0:=HC0.out W0 HB0.out
  go_enter Tryz.func17,Tryz.ntmps17
  go_wp2_with fail
  refine(HUD.out W0 HB0.out).mono ?_
  clear c0 z0 z1 z2
  rintro e w1 hr
  have HX:=zh (HANP.out _ HB0.out _ _ hr)
  obtain⟨T,rfl,h2,h3⟩:=hr
  clear h2 h3
  go_wp2
  first | exact HX.out | (go_ret2; exact HX.out)
 rw[if_neg x4] at hP
 rw[decide_eq_false x4] at q4
 by_cases x5:x=wSuper
 ·rw[if_pos x5] at hP
  rw[decide_eq_true x5] at q5
  have hanp:=hany _ hP
  have hXe:X=ofL wSuper:=by rw[←hX,x5]
  rw[show(⟨#[115,117,112,101,114]⟩:ByteArray)=X from hXe.symm] at hps
  clear hXe
  have HPS:=zh hps
  have HANP:=zh hanp
  clear hps hanp
  clear hany hN2 hul hun hud hpf hpi hpb hbl hno hyes q6 q7 q8 q9 x5 x1 x2 x3 x4 hX hv hs hl hg ha hm hc hc0 hrest hsr hlr hN hQ hP hP0
  obtain⟨W0,hW0⟩:=zg w ga gb gc
  have hk:=g_keep hW0
  have HB0:=zh hk.1
  have HK:=zh hk.2
  clear hk
  obtain⟨z0,z1,z2⟩:=HK.out W0 (Below.refl _ _)
  have c0:=HC0.out W0 HB0.out
  go_enter Tryz.func17,Tryz.ntmps17
  go_wp2_with fail
  go_region_held3 (fun W=>W.cell? ⟨w.heap.size,0,none⟩=some (.int .i64 ga)∧W.cell? ⟨w.heap.size,1,none⟩=some (.int .i64 gb)∧W.cell? ⟨w.heap.size,2,none⟩=some (.int .i64 gc))
   ((refine HK.out _ ?_; repeat' first | with_reducible exact Below.refl _ _ | with_reducible exact HB1.out | with_reducible refine blD ?_))
   (first
     | (go_at_call 45
        with_reducible refine(HPS.out _ ?a1).mono ?_
        case a1=>exact blN HB0.out (by repeat' first | with_reducible exact Below.refl _ _ | with_reducible refine blD ?_)
        rintro e w1 hr
        have HX:=zh (HANP.out _ (blN HB0.out (by repeat' first | with_reducible exact Below.refl _ _ | with_reducible refine blD ?_)) _ _ hr)
        have HB1:Hid (Below W0.heap.size W0 w1):=blN (by repeat' first | with_reducible exact Below.refl _ _ | with_reducible refine blD ?_) hr.below
        obtain⟨T,rfl,h2,h3⟩:=hr
        clear h2 h3
        simp only))
  all_goals
   go_wp2
   first | exact HX.out | (go_ret2; exact HX.out)
 rw[if_neg x5] at hP
 rw[decide_eq_false x5] at q5
 by_cases x6:x=wFence
 ·rw[if_pos x6] at hP
  rw[decide_eq_true x6] at q6
  have hanp:=hany _ hP
  have hXe:X=ofL wFence:=by rw[←hX,x6]
  rw[show(⟨#[102,101,110,99,101]⟩:ByteArray)=X from hXe.symm] at hpf
  clear hXe
  have HPF:=zh hpf
  have HANP:=zh hanp
  clear hpf hanp
  clear hany hN2 hul hun hud hps hpi hpb hbl hno hyes q7 q8 q9 x6 x1 x2 x3 x4 x5 hX hv hs hl hg ha hm hc hc0 hrest hsr hlr hN hQ hP hP0
  obtain⟨W0,hW0⟩:=zg w ga gb gc
  have hk:=g_keep hW0
  have HB0:=zh hk.1
  have HK:=zh hk.2
  clear hk
  obtain⟨z0,z1,z2⟩:=HK.out W0 (Below.refl _ _)
  have c0:=HC0.out W0 HB0.out
  go_enter Tryz.func17,Tryz.ntmps17
  go_wp2_with fail
  go_region_held3 (fun W=>W.cell? ⟨w.heap.size,0,none⟩=some (.int .i64 ga)∧W.cell? ⟨w.heap.size,1,none⟩=some (.int .i64 gb)∧W.cell? ⟨w.heap.size,2,none⟩=some (.int .i64 gc))
   ((refine HK.out _ ?_; repeat' first | with_reducible exact Below.refl _ _ | with_reducible exact HB1.out | with_reducible refine blD ?_))
   (first
     | (go_at_call 45
        with_reducible refine(HPF.out _ ?a1).mono ?_
        case a1=>exact blN HB0.out (by repeat' first | with_reducible exact Below.refl _ _ | with_reducible refine blD ?_)
        rintro e w1 hr
        have HX:=zh (HANP.out _ (blN HB0.out (by repeat' first | with_reducible exact Below.refl _ _ | with_reducible refine blD ?_)) _ _ hr)
        have HB1:Hid (Below W0.heap.size W0 w1):=blN (by repeat' first | with_reducible exact Below.refl _ _ | with_reducible refine blD ?_) hr.below
        obtain⟨T,rfl,h2,h3⟩:=hr
        clear h2 h3
        simp only))
  all_goals
   go_wp2
   first | exact HX.out | (go_ret2; exact HX.out)
 rw[if_neg x6] at hP
 rw[decide_eq_false x6] at q6
 by_cases x7:x=wInodes
 ·rw[if_pos x7] at hP
  rw[decide_eq_true x7] at q7
  have hanp:=hany _ hP
  have hXe:X=ofL wInodes:=by rw[←hX,x7]
  rw[show(⟨#[105,110,111,100,101,115]⟩:ByteArray)=X from hXe.symm] at hpi
  clear hXe
  have HPI:=zh hpi
  have HANP:=zh hanp
  clear hpi hanp
  clear hany hN2 hul hun hud hps hpf hpb hbl hno hyes q8 q9 x7 x1 x2 x3 x4 x5 x6 hX hv hs hl hg ha hm hc hc0 hrest hsr hlr hN hQ hP hP0
  obtain⟨W0,hW0⟩:=zg w ga gb gc
  have hk:=g_keep hW0
  have HB0:=zh hk.1
  have HK:=zh hk.2
  clear hk
  obtain⟨z0,z1,z2⟩:=HK.out W0 (Below.refl _ _)
  have c0:=HC0.out W0 HB0.out
  go_enter Tryz.func17,Tryz.ntmps17
  go_wp2_with fail
  go_region_held3 (fun W=>W.cell? ⟨w.heap.size,0,none⟩=some (.int .i64 ga)∧W.cell? ⟨w.heap.size,1,none⟩=some (.int .i64 gb)∧W.cell? ⟨w.heap.size,2,none⟩=some (.int .i64 gc))
   ((refine HK.out _ ?_; repeat' first | with_reducible exact Below.refl _ _ | with_reducible exact HB1.out | with_reducible refine blD ?_))
   (first
     | (go_at_call 45
        with_reducible refine(HPI.out _ ?a1).mono ?_
        case a1=>exact blN HB0.out (by repeat' first | with_reducible exact Below.refl _ _ | with_reducible refine blD ?_)
        rintro e w1 hr
        have HX:=zh (HANP.out _ (blN HB0.out (by repeat' first | with_reducible exact Below.refl _ _ | with_reducible refine blD ?_)) _ _ hr)
        have HB1:Hid (Below W0.heap.size W0 w1):=blN (by repeat' first | with_reducible exact Below.refl _ _ | with_reducible refine blD ?_) hr.below
        obtain⟨T,rfl,h2,h3⟩:=hr
        clear h2 h3
        simp only))
  all_goals
   go_wp2
   first | exact HX.out | (go_ret2; exact HX.out)
 rw[if_neg x7] at hP
 rw[decide_eq_false x7] at q7
 by_cases x8:x=wBlocks
 ·rw[if_pos x8] at hP
  rw[decide_eq_true x8] at q8
  have hanp:=hany _ hP
  have hXe:X=ofL wBlocks:=by rw[←hX,x8]
  rw[show(⟨#[98,108,111,99,107,115]⟩:ByteArray)=X from hXe.symm] at hpb
  clear hXe
  have HPB:=zh hpb
  have HANP:=zh hanp
  clear hpb hanp
  clear hany hN2 hul hun hud hps hpf hpi hbl hno hyes q9 x8 x1 x2 x3 x4 x5 x6 x7 hX hv hs hl hg ha hm hc hc0 hrest hsr hlr hN hQ hP hP0
  obtain⟨W0,hW0⟩:=zg w ga gb gc
  have hk:=g_keep hW0
  have HB0:=zh hk.1
  have HK:=zh hk.2
  clear hk
  obtain⟨z0,z1,z2⟩:=HK.out W0 (Below.refl _ _)
  have c0:=HC0.out W0 HB0.out
  go_enter Tryz.func17,Tryz.ntmps17
  go_wp2_with fail
  go_region_held3 (fun W=>W.cell? ⟨w.heap.size,0,none⟩=some (.int .i64 ga)∧W.cell? ⟨w.heap.size,1,none⟩=some (.int .i64 gb)∧W.cell? ⟨w.heap.size,2,none⟩=some (.int .i64 gc))
   ((refine HK.out _ ?_; repeat' first | with_reducible exact Below.refl _ _ | with_reducible exact HB1.out | with_reducible refine blD ?_))
   (first
     | (go_at_call 45
        with_reducible refine(HPB.out _ ?a1).mono ?_
        case a1=>exact blN HB0.out (by repeat' first | with_reducible exact Below.refl _ _ | with_reducible refine blD ?_)
        rintro e w1 hr
        have HX:=zh (HANP.out _ (blN HB0.out (by repeat' first | with_reducible exact Below.refl _ _ | with_reducible refine blD ?_)) _ _ hr)
        have HB1:Hid (Below W0.heap.size W0 w1):=blN (by repeat' first | with_reducible exact Below.refl _ _ | with_reducible refine blD ?_) hr.below
        obtain⟨T,rfl,h2,h3⟩:=hr
        clear h2 h3
        simp only))
  all_goals
   go_wp2
   first | exact HX.out | (go_ret2; exact HX.out)
 rw[if_neg x8] at hP
 rw[decide_eq_false x8] at q8
 clear hul hun hud hps hpf hpi hpb hbl hany
 by_cases x9:x=wRaw3
 ·rw[if_pos x9] at hP
  rw[decide_eq_true x9] at q9
  cases hr:r with
  | nil=>
    rw[hr] at hP hno
    dsimp only at hP
    have HNo:=zh (hno hP)
    have hNN:N=1:=by rw[hN2,hr]; rfl
    subst hNN
    clear hr hN2 hno hyes x9 x8 x7 x6 x5 x4 x3 x2 x1 hX hv hs hl hg ha hm hc hc0 hrest hsr hlr hN hQ hP hP0
    obtain⟨W0,hW0⟩:=zg w ga gb gc
    have hk:=g_keep hW0
    have HB0:=zh hk.1
    have HK:=zh hk.2
    clear hk
    obtain⟨z0,z1,z2⟩:=HK.out W0 (Below.refl _ _)
    have c0:=HC0.out W0 HB0.out
    go_enter Tryz.func17,Tryz.ntmps17
    clear z0 z1 z2
    go_wp2
    first | exact HNo.out _ _ HB0.out | (go_ret2; exact HNo.out _ _ HB0.out)
  | cons y r2=>
    cases hr2:r2 with
    | cons z r3=>
      rw[hr,hr2] at hP hno hyes
      dsimp only at hP
      have HNo:=zh (hno hP)
      have f1:((N:Int) != 2)=true:=bne_iff_ne.2 (by rw[hN2,hr,hr2]; simp only[List.length_cons]; omega)
      clear hr hr2 hN2 hno hyes x9 x8 x7 x6 x5 x4 x3 x2 x1 hX hv hs hl hg ha hm hc hc0 hrest hsr hlr hN hQ hP hP0
      obtain⟨W0,hW0⟩:=zg w ga gb gc
      have hk:=g_keep hW0
      have HB0:=zh hk.1
      have HK:=zh hk.2
      clear hk
      obtain⟨z0,z1,z2⟩:=HK.out W0 (Below.refl _ _)
      have c0:=HC0.out W0 HB0.out
      go_enter Tryz.func17,Tryz.ntmps17
      clear z0 z1 z2
      go_wp2
      first | exact HNo.out _ _ HB0.out | (go_ret2; exact HNo.out _ _ HB0.out)
    | nil=>
      rw[hr,hr2] at hP hno hyes
      dsimp only at hP
      have hNN:N=2:=by rw[hN2,hr,hr2]; rfl
      subst hNN
      have hc1:w.cell? ⟨bb,o+1,none⟩=some (.string (ofL y)):=hc 1 _ (by rw[hr]; rfl)
      have HC1:Hid (∀W,Below w.heap.size w W→W.cell? ⟨bb,o+1,none⟩=some (.string (ofL y))):=fun W hW=>(hW.cell (p:=⟨bb,o+1,none⟩) hb).trans hc1
      have hby:=fun W:World=>dbytes_any W (ofL y) (by rw[ofL_size]; exact hsr y (by rw[hr]; exact List.mem_cons_self ..))
      simp only[ofL_data] at hby
      unfold q25z at hby
      obtain⟨Y,hY⟩:=zx (ofL y)
      rw[hY] at HC1 hby
      cases hu:q4z y with
      | none=>
        rw[hu] at hP hby
        dsimp only at hP
        have HNo:=zh (hno hP)
        have HBY:=zh hby
        clear hby
        clear hr hr2 hN2 hno hyes x9 x8 x7 x6 x5 x4 x3 x2 x1 hX hY hu hc1 hv hs hl hg ha hm hc hc0 hrest hsr hlr hN hQ hP hP0
        obtain⟨W0,hW0⟩:=zg w ga gb gc
        have hk:=g_keep hW0
        have HB0:=zh hk.1
        have HK:=zh hk.2
        clear hk
        obtain⟨z0,z1,z2⟩:=HK.out W0 (Below.refl _ _)
        have c0:=HC0.out W0 HB0.out
        go_enter Tryz.func17,Tryz.ntmps17
        have c1:=HC1.out W0 HB0.out
        clear z0 z1 z2
        go_wp2_with fail
        refine(HBY.out _).mono ?_
        rintro e w1 ⟨rfl,hb1⟩
        have HB1:=zh (blN HB0.out hb1)
        clear hb1
        go_wp2
        first | exact HNo.out _ _ HB1.out | (go_ret2; exact HNo.out _ _ HB1.out)
      | some t=>
        rw[hu] at hP hby
        dsimp only at hP
        by_cases h64:t.length=64
        ·have HY:=zh (hyes (ofL t) (by rw[hP]; exact if_pos h64))
         have h65:(ofL t).size=64:=by rw[ofL_size]; exact h64
         obtain⟨TT,hTT⟩:=zx (ofL t)
         simp only[Option.getD_some,hTT] at hby
         rw[hTT] at HY h65
         have HBY:=zh hby
         clear hby
         clear hr hr2 hN2 hno hyes x9 x8 x7 x6 x5 x4 x3 x2 x1 hX hY hu hc1 hv hs hl hg ha hm hc hc0 hrest hsr hlr hN hQ hP hP0 h64 hTT
         obtain⟨W0,hW0⟩:=zg w ga gb gc
         have hk:=g_keep hW0
         have HB0:=zh hk.1
         have HK:=zh hk.2
         clear hk
         obtain⟨z0,z1,z2⟩:=HK.out W0 (Below.refl _ _)
         have c0:=HC0.out W0 HB0.out
         go_enter Tryz.func17,Tryz.ntmps17
         have c1:=HC1.out W0 HB0.out
         clear z0 z1 z2
         go_wp2_with fail
         refine(HBY.out _).mono ?_
         rintro e w1 ⟨rfl,hb1⟩
         have HB1:=zh (blN HB0.out hb1)
         clear hb1
         have f2:((TT.size:Int) == 64)=true:=by rw[h65]; rfl
         clear h65
         go_wp2
         first | exact HY.out _ HB1.out | (go_ret2; exact HY.out _ HB1.out)
        ·have HNo:=zh (hno (by rw[hP]; exact if_neg h64))
         have h65:¬(ofL t).size=64:=by rw[ofL_size]; exact h64
         obtain⟨TT,hTT⟩:=zx (ofL t)
         simp only[Option.getD_some,hTT] at hby
         rw[hTT] at h65
         have HBY:=zh hby
         clear hby
         clear hr hr2 hN2 hno hyes x9 x8 x7 x6 x5 x4 x3 x2 x1 hX hY hu hc1 hv hs hl hg ha hm hc hc0 hrest hsr hlr hN hQ hP hP0 h64 hTT
         obtain⟨W0,hW0⟩:=zg w ga gb gc
         have hk:=g_keep hW0
         have HB0:=zh hk.1
         have HK:=zh hk.2
         clear hk
         obtain⟨z0,z1,z2⟩:=HK.out W0 (Below.refl _ _)
         have c0:=HC0.out W0 HB0.out
         go_enter Tryz.func17,Tryz.ntmps17
         have c1:=HC1.out W0 HB0.out
         clear z0 z1 z2
         go_wp2_with fail
         refine(HBY.out _).mono ?_
         rintro e w1 ⟨rfl,hb1⟩
         have HB1:=zh (blN HB0.out hb1)
         clear hb1
         have f2:((TT.size:Int) == 64)=false:=beq_eq_false_iff_ne.2 (by omega)
         clear h65
         go_wp2
         first | exact HNo.out _ _ HB1.out | (go_ret2; exact HNo.out _ _ HB1.out)
 rw[if_neg x9] at hP
 rw[decide_eq_false x9] at q9
 have HNo:=zh (hno hP)
 clear hN2 hno hyes x9 x8 x7 x6 x5 x4 x3 x2 x1 hX hv hs hl hg ha hm hc hc0 hrest hsr hlr hN hQ hP hP0
 obtain⟨W0,hW0⟩:=zg w ga gb gc
 have hk:=g_keep hW0
 have HB0:=zh hk.1
 have HK:=zh hk.2
 clear hk
 obtain⟨z0,z1,z2⟩:=HK.out W0 (Below.refl _ _)
 have c0:=HC0.out W0 HB0.out
 go_enter Tryz.func17,Tryz.ntmps17
 clear z0 z1 z2
 go_wp2
 first | exact HNo.out _ _ HB0.out | (go_ret2; exact HNo.out _ _ HB0.out)
end
