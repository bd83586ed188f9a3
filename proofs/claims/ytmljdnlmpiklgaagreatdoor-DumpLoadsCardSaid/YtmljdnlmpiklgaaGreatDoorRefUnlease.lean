import Derived.Test.YtmljdnlmpiklgaaGreatDoorRefCut31
import Derived.Test.YtmljdnlmpiklgaaGreatDoorRefC
set_option maxRecDepth 20000
namespace Go.Proofs.YtmljdnlmpiklgaaGreatDoor
open Go Go.RowKit Txt Sp
theorem leaseP_bad {y:List UInt8} (h:numsP (cutAt 46 y)=none):q13z y=none:=by rw[leaseP_nums,h]
theorem leaseP_len {y:List UInt8} {l:List Nat} (h:numsP (cutAt 46 y)=some l) (hl:l.length≠2):q13z y=none:=by
 rw[leaseP_nums,h]
 match l,hl with
 | [],_=>rfl
 | [_],_=>rfl
 | _ :: _ :: _ :: _,_=>rfl
theorem leaseP_two {y:List UInt8} {a b:Nat} (h:numsP (cutAt 46 y)=some [a,b]):q13z y=some ((a:Int),(b:Int)):=by rw[leaseP_nums,h]
theorem two_of {α:Type} {l:List α} (h:l.length=2):∃a b,l=[a,b]:=by
 match l,h with
 | [a,b],_=>exact⟨a,b,rfl⟩
theorem cutAt_count (c:UInt8) (l:List UInt8):(cutAt c l).length≤l.length+1:=by
 have:=q21z (c0:=c) (ofL l)
 unfold q14z at this
 rw[List.length_map,ofL_data,ofL_size] at this
 exact this
section
set_option maxHeartbeats 8000000
theorem runlease_out (w:World) (g:Sp.Geom) (a:Nat) (v:Value) (ws:List (List UInt8)) (hg:g.ok) (ha:a≤1000000)
 (hout:¬(0≤((a:Int)-2)*16∧((a:Int)-2)*16<g.regions)) :
 Calls Tryz.prog 52 #[gV g,.int .i64 (a:Int),v] w (q1z (q8z g (a:Int) ws) w):=by
 have hbd:=Geom.regions_bd hg
 obtain⟨R,hR⟩:∃R:Nat,g.regions=(R:Int):=⟨g.regions.toNat,by omega⟩
 have hreg:=fun W:World=>rgregions_any W g
 rw[hR] at hreg hbd
 have hmk:=fun W:World=>run_make_leas W R (by omega)
 have hno:=fun(w':World) (hb:Below w.heap.size w w')=>rd_no (w:=w) (unleaseP_out (g:=g) (a:=(a:Int)) (ws:=ws) (fun h=>hout ⟨h.1,h.2.1⟩)) ⟨#[]⟩ hb
 obtain⟨Q,hQ⟩:=zx (q1z (q8z g (a:Int) ws) w)
 rw[hQ] at hno ⊢
 rw[hR] at hout
 obtain⟨f,hf⟩:∃f:Int,((a:Int)-2)*16=f:=⟨_,rfl⟩
 have e1:IntKind.i64.wrap ((a:Int)-2)=(a:Int)-2:=IntWalk.i64_in _ (by omega)
 have e2:IntKind.i64.wrap (((a:Int)-2)*16)=f:=by rw[IntWalk.i64_in _ (by omega)]; exact hf
 rw[hf] at hout
 obtain⟨x,hx⟩:∃x:Int,(a:Int)=x:=⟨_,rfl⟩
 rw[hx] at e1 e2 ⊢
 clear hQ hR hx hf hg ha
 obtain⟨ga,gb,gc⟩:=g
 unfold gV at hreg ⊢
 have HREG:=zh hreg
 have HMK:=zh hmk
 have HNO:=zh hno
 clear hreg hmk hno
 by_cases h1:f<0
 ·have q1:decide (f<0)=true:=decide_eq_true h1
  clear hout
  obtain⟨W0,hW0⟩:=zg w ga gb gc
  have hk:=g_keep hW0
  have HB0:=zh hk.1
  have HK:=zh hk.2
  clear hk
  obtain⟨z0,z1,z2⟩:=HK.out W0 (Below.refl _ _)
  go_enter Tryz.func52,Tryz.ntmps52
  go_wp2_with fail
  refine(HREG.out _).mono ?_
  rintro e w1 ⟨rfl,hb1⟩
  have HB1:=zh (blN (Below.refl _ _) hb1)
  clear hb1
  clear z0 z1 z2
  have hmk:=HMK.out w1
  go_wp2
  first | exact HNO.out _ (bl1 (blN HB0.out HB1.out) _) | (go_ret2; exact HNO.out _ (bl1 (blN HB0.out HB1.out) _))
 ·have q1:decide (f<0)=false:=decide_eq_false h1
  have q2:decide (f≥(R:Int))=true:=decide_eq_true (by omega)
  have q2':decide ((R:Int)≤f)=true:=decide_eq_true (by omega)
  clear hout h1
  obtain⟨W0,hW0⟩:=zg w ga gb gc
  have hk:=g_keep hW0
  have HB0:=zh hk.1
  have HK:=zh hk.2
  clear hk
  obtain⟨z0,z1,z2⟩:=HK.out W0 (Below.refl _ _)
  go_enter Tryz.func52,Tryz.ntmps52
  go_wp2_with fail
  refine(HREG.out _).mono ?_
  rintro e w1 ⟨rfl,hb1⟩
  have HB1:=zh (blN (Below.refl _ _) hb1)
  clear hb1
  clear z0 z1 z2
  have hmk:=HMK.out w1
  go_wp2
  first | exact HNO.out _ (bl1 (blN HB0.out HB1.out) _) | (go_ret2; exact HNO.out _ (bl1 (blN HB0.out HB1.out) _))
theorem runlease_in (w:World) (g:Sp.Geom) (p:Nat) (v:Value) (ws:List (List UInt8)) (hg:g.ok) (hv:Texts w v (ws.map ofL)) (hs:∀x∈ws,x.length≤4000000)
 (h1:16*(p:Int)<g.regions) :
 Calls Tryz.prog 52 #[gV g,.int .i64 ((p:Int)+2),v] w (q1z (q8z g ((p:Int)+2) ws) w):=by
 have hbd:=Geom.regions_bd hg
 obtain⟨R,hR⟩:∃R:Nat,g.regions=(R:Int):=⟨g.regions.toNat,by omega⟩
 obtain⟨f,hf⟩:=zx (16*p)
 have hreg:=fun W:World=>rgregions_any W g
 rw[hR] at hreg hbd h1
 have hmk:=fun W:World=>run_make_leas W R (by omega)
 have hRb:R≤1000000:=by omega
 have hfR:f<R:=by omega
 have hno:=fun(h:allP q13z ws=none) (w':World) (hb:Below w.heap.size w w')=>rd_no (w:=w) (unleaseP_none (g:=g) (a:=(p:Int)+2) h) ⟨#[]⟩ hb
 have hout:=fun(h:¬(ws.length:Int)≤min 16 ((R:Int)-f)) (w':World) (hb:Below w.heap.size w w')=>rd_no (w:=w) (unleaseP_out (g:=g) (a:=(p:Int)+2) (ws:=ws) (fun h3=>h (by have:=h3.2.2; rw[hR] at this; rw[show((p:Int)+2-2)*16=(f:Int) by omega] at this; exact this))) ⟨#[]⟩ hb
 have hsome:=fun(h16:(ws.length:Int)≤min 16 ((R:Int)-f)) (l:List (Int×Int)) (h:allP q13z ws=some l)=>unleaseP_some hf hR hfR h16 h
 have hno2:=fun(h:q8z g ((p:Int)+2) ws=none) (w':World) (hb:Below w.heap.size w w')=>rd_no (w:=w) h ⟨#[]⟩ hb
 have hyes:=fun(s:ByteArray) (h:q8z g ((p:Int)+2) ws=some s) (w':World) (hb:Below w.heap.size w w')=>q37z (w:=w) h hb
 have hnums:=fun(W:World) (v:Value) (y:List UInt8) (hv:Texts W v (q14z 46 (ofL y))) (hy:y.length≤4000000)=>rnums_any W v (cutAt 46 y) (by unfold q14z at hv; rw[ofL_data] at hv; exact hv) (fun x hx=>by have:=(q29z hx).2; omega) (by have:=cutAt_count 46 y; omega)
 have hcut:=fun(W:World) (y:List UInt8) (hy:y.length≤4000000)=>show Calls Tryz.prog 20 #[.string (ofL y),.int .u8 46] W _ from rcut_any W (ofL y) 46 (by rw[ofL_size]; exact hy)
 have hen:=fun(W:World) (v:Value) (l:List (Int×Int)) (hl:Leases W v l)=>rtencode_any W g v l hl
 unfold RTEnc at hen
 obtain⟨Q,hQ⟩:=zx (q1z (q8z g ((p:Int)+2) ws) w)
 rw[hQ] at hno hno2 hout hyes ⊢
 obtain⟨ad,n,cap,rfl,HN,hn2,HF⟩:=texts_facts hv
 have hn:n=ws.length:=by have:=HN.out; rw[List.length_map] at this; exact this
 rw[←hn] at hout hsome
 have q1:decide ((f:Int)<0)=false:=decide_eq_false (by omega)
 have q2:decide ((f:Int)≥(R:Int))=false:=decide_eq_false (by omega)
 have q2':decide ((R:Int)≤(f:Int))=false:=decide_eq_false (by omega)
 have q2n:decide (R≤f)=false:=decide_eq_false (by omega)
 have e1:IntKind.i64.wrap ((p:Int)+2-2)=(p:Int):=by rw[IntWalk.i64_in _ (by omega)]; omega
 have e2:IntKind.i64.wrap ((p:Int)*16)=(f:Int):=by rw[IntWalk.i64_in _ (by omega)]; omega
 obtain⟨a,ha⟩:∃a:Int,(p:Int)+2=a:=⟨_,rfl⟩
 rw[ha] at hno2 hyes hsome e1 ⊢
 have HNN:=zh hn
 have HS:=zh hs
 have HP:=zh hf
 obtain⟨tN,htN⟩:∃F:List (Int×Int)→List ByteArray,tableN g=F:=⟨_,rfl⟩
 obtain⟨tC,htC⟩:∃F:List (Int×Int)→Int,tableC g=F:=⟨_,rfl⟩
 rw[htN] at hsome hen
 rw[htC] at hen
 have HT:Hid (∀l,tC l≠0→tN l=[]):=by
  rw[←htN,←htC]
  intro l hl
  exact if_neg hl
 have HT2:Hid (∀l,tC l=0→∃s,(tN l)[p]? = some s):=by
  rw[←htN,←htC]
  intro l hl
  have hpN:p<(Sp.Geom.tables g).toNat:=by
   unfold Sp.Geom.tables
   rw[hR]
   omega
  unfold tableN
  rw[if_pos hl]
  exact⟨_,tabB_at l hpN⟩
 obtain⟨uP,huP⟩:=zx (q8z g a ws)
 rw[huP] at hno2 hyes hsome
 clear hQ hR hv hf hn hs hg h1 ha htN htC huP hbd
 obtain⟨ga,gb,gc⟩:=g
 unfold gV at hreg hen ⊢
 have HREG:=zh hreg
 have HMK:=zh hmk
 have HNO:=zh hno
 have HOUT:=zh hout
 have HNO2:=zh hno2
 have HYES:=zh hyes
 have HSOME:=zh hsome
 have HNUMS:=zh hnums
 have HCUT:=zh hcut
 have HEN:=zh hen
 clear hreg hmk hno hout hno2 hyes hsome hnums hcut hen
 obtain⟨W0,hW0⟩:=zg w ga gb gc
 have hk:=g_keep hW0
 have HB0:=zh hk.1
 have HK:=zh hk.2
 clear hk
 obtain⟨z0,z1,z2⟩:=HK.out W0 (Below.refl _ _)
 go_enter Tryz.func52,Tryz.ntmps52
 go_wp2_with fail
 refine(HREG.out _).mono ?_
 rintro e w1 ⟨rfl,hb1⟩
 have HB1:=zh (blN (Below.refl _ _) hb1)
 clear hb1
 clear z0 z1 z2
 have hmk:=HMK.out w1
 obtain⟨W2,hW2⟩:=zx (w1.alloc (leasO (List.replicate R (0,0)) 97))
 have hr2:W2.heap[w1.heap.size]? = some (leasO (rowL R f []) 97):=by rw[rowL_zero (by omega),←hW2]; exact heapNew w1 _
 have HB2:Hid (Below W0.heap.size W0 W2):=by rw[←hW2]; exact bl1 HB1.out _
 have HR2:=zh hr2
 rw[hW2] at hmk
 clear hr2 hW2
 go_wp2_with fail
 go_loopw [10,11,12,13] (fun i _ _ _ wr=>∃(k:Nat) (l:List (Int×Int)),k≤n∧k≤16∧f+k≤R∧i = .int .i64 (k:Int)∧Hid (allP q13z (ws.take k)=some l)∧Hid (l.length=k)∧Hid (wr.heap[w1.heap.size]? = some (leasO (rowL R f l) 97))∧Hid (Below W0.heap.size W0 wr)) (fun i _ _ _ _=>n-(intOf i).toNat)
 case atStart=>exact⟨0,[],Nat.zero_le _,Nat.zero_le _,by omega,rfl,rfl,rfl,HR2,HB2⟩
 case round=>
  obtain⟨k,l,hk,hk16,hkR,rfl,HPk,HLn,HR,HB⟩:=hrel
  clear q1 q2 q2' q2n hmk
  by_cases hlt:k<n
  ·obtain⟨b,o,x,rfl,hb,hx,hc⟩:=HF.out k hlt
   rw[List.getElem?_map] at hx
   obtain⟨y,hy,rfl⟩:=Option.map_eq_some_iff.1 hx
   have c0:=((blN HB0.out HB.out).cell (p:=⟨b,o+k,none⟩) hb).trans hc
   have hmem:=List.mem_of_getElem? hy
   have hcu:=fun(W:World)=>HCUT.out W y (HS.out y hmem)
   have hno1:=fun(h:q13z y=none)=>HNO.out (q46z hmem h)
   have htk:=take_step hy
   have hnu:=fun(W:World) (v:Value) (hv:Texts W v (q14z 46 (ofL y)))=>HNUMS.out W v y hv (HS.out y hmem)
   unfold q24z at hnu
   have hl1:=leaseP_bad (y:=y)
   have hl2:=fun l=>leaseP_len (y:=y) (l:=l)
   have hl3:=fun a b=>leaseP_two (y:=y) (a:=a) (b:=b)
   obtain⟨X,hX⟩:=zx (ofL y)
   rw[hX] at c0
   simp only[hX] at hcu hnu
   obtain⟨CB,hCB⟩:=zx (q14z 46 X)
   simp only[hCB] at hcu hnu
   obtain⟨NP,hNP⟩:=zx (numsP (cutAt 46 y))
   simp only[hNP] at hnu hl1 hl2 hl3
   have HCU:=zh hcu
   have HNU:=zh hnu
   have HNO1:=zh hno1
   have HTK:=zh htk
   have HL1:=zh hl1
   have HL2:=zh hl2
   have HL3:=zh hl3
   clear hcu hnu hno1 htk hl1 hl2 hl3
   clear hx hc hb hy hmem hX hCB hNP
   go_wp2_with fail
   refine(HCU.out _).mono ?_
   rintro e w4 ⟨cv,rfl,ht4,hb4⟩
   have HB4:=zh (blN HB.out hb4)
   have HR4:=zh (heapOld hb4 HR.out)
   have HNU4:=zh (HNU.out w4 cv ht4)
   clear hb4 c0 ht4
   go_wp2_with fail
   refine HNU4.out.mono ?_
   rintro e w5 ⟨nv,rfl,hown5,hb5⟩
   have HB5:=zh (blN HB4.out hb5)
   have HR5:=zh (heapOld hb5 HR4.out)
   clear hb5
   cases NP with
   | none=>
     have HX:=zh (HNO1.out (HL1.out rfl))
     obtain⟨oad,ocap,rfl⟩:=hown5.form
     clear hown5
     go_wp2
     first | exact HX.out _ (blN HB0.out HB5.out) | (go_ret2; exact HX.out _ (blN HB0.out HB5.out))
   | some l2=>
     by_cases h2:l2.length=2
     rotate_left
     ·have HX:=zh (HNO1.out (HL2.out l2 rfl h2))
      obtain⟨oad,ocap,hnv⟩:=hown5.form
      have hnv2:nv = .slice oad l2.length ocap:=hnv
      subst hnv2
      obtain⟨N2,hN2⟩:=zx (l2.length)
      rw[hN2] at h2 ⊢
      have g1:((N2:Int) != 2)=true:=bne_iff_ne.2 (by omega)
      have g2:((N2:Int) == 2)=false:=beq_eq_false_iff_ne.2 (by omega)
      clear hown5 hnv h2 hN2
      go_wp2
      first | exact HX.out _ (blN HB0.out HB5.out) | (go_ret2; exact HX.out _ (blN HB0.out HB5.out))
     obtain⟨m1,m2,rfl⟩:=two_of h2
     have hP:=HL3.out m1 m2 rfl
     have HP2:Hid (allP q13z (ws.take (k+1))=some (l ++ [((m1:Int),(m2:Int))])):=by
      show _=_
      rw[HTK.out]
      exact q38z HPk.out hP
     have hown6:OwnN w4.heap.size w5 nv [m1,m2]:=hown5
     have hints:Ints w5 nv [(m1:Int),(m2:Int)]:=hown6.ints
     obtain⟨bk,oo,ncap,hnv,hbk,hcl⟩:=hints.open (by simp)
     have hnv2:nv = .slice (some ⟨bk,oo,none⟩) 2 ncap:=hnv
     subst hnv2
     have d0:w5.cell? ⟨bk,oo,none⟩=some (.int .i64 (m1:Int)):=hcl 0 _ rfl
     have d1:w5.cell? ⟨bk,oo+1,none⟩=some (.int .i64 (m2:Int)):=hcl 1 _ rfl
     obtain⟨j,hj⟩:=zx (f+k)
     have e3:IntKind.i64.wrap ((f:Int)+(k:Int))=(j:Int):=by rw[IntWalk.i64_in _ (by omega)]; omega
     clear hown5 hown6 hnv
     by_cases hjR:j<R
     rotate_left
     ·have HX:=zh (HOUT.out (by omega))
      have g1:decide ((j:Int)≥(R:Int))=true:=decide_eq_true (by omega)
      have g2:decide ((R:Int)≤(j:Int))=true:=decide_eq_true (by omega)
      clear hints hcl hbk d0 d1
      go_wp2
      first | exact HX.out _ (blN HB0.out HB5.out) | (go_ret2; exact HX.out _ (blN HB0.out HB5.out))
     have g1:decide ((j:Int)≥(R:Int))=false:=decide_eq_false (by omega)
     have g2:decide ((R:Int)≤(j:Int))=false:=decide_eq_false (by omega)
     by_cases hk2:16≤k
     ·have HX:=zh (HOUT.out (by omega))
      have g3:decide ((k:Int)≥16)=true:=decide_eq_true (by omega)
      have g4:decide ((16:Int)≤(k:Int))=true:=decide_eq_true (by omega)
      clear hints hcl hbk d0 d1
      go_wp2
      first | exact HX.out _ (blN HB0.out HB5.out) | (go_ret2; exact HX.out _ (blN HB0.out HB5.out))
     have g3:decide ((k:Int)≥16)=false:=decide_eq_false (by omega)
     have g4:decide ((16:Int)≤(k:Int))=false:=decide_eq_false (by omega)
     have hjR2:(j:Int)<(R:Int):=by omega
     have hlen:(rowL R f l).length=R:=rowL_length (by have:=HLn.out; omega)
     obtain⟨x,hx⟩:∃x,(rowL R f l)[j]? = some x:=⟨_,List.getElem?_eq_getElem (by rw[hlen]; exact hjR)⟩
     obtain⟨W6,hW6⟩:=zx (w5.drew)
     have HB6:Hid (Below W0.heap.size W0 W6):=by rw[←hW6]; exact blD HB5.out
     have hr6:W6.heap[w1.heap.size]? = some (leasO (rowL R f l) 97):=by rw[←hW6]; exact HR5.out
     obtain⟨c0,c1⟩:=q52z hr6 hx
     have v0:W6.frozen? ⟨w1.heap.size,j*2,none⟩=false:=leas_free hr6
     have v1:W6.frozen? ⟨w1.heap.size,j*2+1,none⟩=false:=leas_free hr6
     have hs7:=leas_set2 hr6 (i:=j) (by rw[hlen]; exact hjR) ((m1:Int),(m2:Int))
     have hst:=rowL_set (R:=R) (f:=f) (l:=l) ((m1:Int),(m2:Int)) (by have:=HLn.out; omega)
     rw[HLn.out,hj] at hst
     rw[hst] at hs7
     have hb7:=(HB6.out.setCell (p:=⟨w1.heap.size,j*2,none⟩) HB1.out.size (.int .i64 (m1:Int))).setCell (p:=⟨w1.heap.size,j*2+1,none⟩) HB1.out.size (.int .i64 (m2:Int))
     have HS7:=zh hs7
     have HB7:=zh hb7
     have HLn2:Hid ((l ++ [((m1:Int),(m2:Int))]).length=k+1):=by show _=_; rw[List.length_append,HLn.out]; rfl
     have HW6:=zh hW6
     clear hP hints hcl hbk hlen hx hr6 hst hs7 hb7 hW6
     go_wp2_with fail
     go_still_tail 12,(by kernel_rfl)
     change wpList _ _ _ _ _ (w5.drew)
     rw[HW6.out]
     go_wp2
     go_roundw
     case rel=>exact⟨k+1,l ++ [((m1:Int),(m2:Int))],by omega,by omega,by omega,by go_num,HP2,HLn2,HS7,HB7⟩
     case measure=>simp[intOf]; omega
  ·obtain rfl:k=n:=by omega
   have htk:ws.take k=ws:=List.take_of_length_le (by rw[HNN.out]; exact Nat.le_refl _)
   have hp:=HPk.out
   rw[htk] at hp
   have hsm:=HSOME.out (by omega) l hp
   have hll:(rowL R f l).length=R:=rowL_length (by have:=HLn.out; omega)
   have hrow:Leases wr (.slice (some ⟨w1.heap.size,0,none⟩) R R) (rowL R f l):=leas_row HR.out (by rw[hll]; unfold maxLen; omega) hll.symm
   have henc:=HEN.out wr _ _ hrow
   obtain⟨L,hL⟩:=zx (rowL R f l)
   rw[hL] at hsm henc
   obtain⟨c,hc⟩:=zx (tC L)
   rw[hc] at henc
   have HEnc:=zh henc
   obtain⟨z0,z1,z2⟩:=HK.out wr HB.out
   by_cases hc0:c=0
   ·subst hc0
    obtain⟨s,hs⟩:=HT2.out L hc
    have HX:=zh (HYES.out s (hsm.trans hs))
    have HAt:=zh hs
    clear hp htk hsm hll hrow henc hL hc hs
    go_wp2_with fail
    refine HEnc.out.mono ?_
    rintro e w4 ⟨v,rfl,hown4,hb4⟩
    have hown5:=hown4.own.texts
    obtain⟨ad2,N,cap2,rfl,HN4,hn4,HF4⟩:=texts_facts hown5
    have hpN:p<N:=by rw[HN4.out]; exact(List.getElem?_eq_some_iff.1 HAt.out).1
    have hpN2:(p:Int)<(N:Int):=by omega
    obtain⟨b,o,x,rfl,hbb,hx,hcl⟩:=HF4.out p hpN
    obtain rfl:s=x:=Option.some.inj (HAt.out.symm.trans hx)
    have HB4:=zh (blN HB.out hb4)
    clear hown4 hown5 hb4 hx HF4 z0 z1 z2 hbb
    go_wp2
    first | exact HX.out _ (blN HB0.out HB4.out) | (go_ret2; exact HX.out _ (blN HB0.out HB4.out))
   ·have q5:(c == 0)=false:=beq_eq_false_iff_ne.2 hc0
    have q6:(c != 0)=true:=by rw[bne,q5]; rfl
    have HX:=zh (HNO2.out (by rw[hsm,HT.out L (by rw[hc]; exact hc0)]; rfl))
    clear hp htk hsm hll hrow henc hL hc hc0
    go_wp2_with fail
    refine HEnc.out.mono ?_
    rintro e w4 ⟨v,rfl,hown4,hb4⟩
    have HB4:=zh (blN HB.out hb4)
    have hown5:=hown4.own.texts
    obtain⟨ad2,N,cap2,rfl,HN4,hn4,HF4⟩:=texts_facts hown5
    clear hown4 hb4 z0 z1 z2 hown5
    go_wp2
    first | exact HX.out _ (blN HB0.out HB4.out) | (go_ret2; exact HX.out _ (blN HB0.out HB4.out))
theorem runlease_any (w:World) (g:Sp.Geom) (a:Nat) (v:Value) (ws:List (List UInt8)) (hg:g.ok) (ha:a≤1000000) (hv:Texts w v (ws.map ofL)) (hs:∀x∈ws,x.length≤4000000) :
 Calls Tryz.prog 52 #[gV g,.int .i64 (a:Int),v] w (q1z (q8z g (a:Int) ws) w):=by
 by_cases h:0≤((a:Int)-2)*16∧((a:Int)-2)*16<g.regions
 ·obtain⟨p,hp⟩:∃p:Nat,(a:Int)=(p:Int)+2:=⟨a-2,by omega⟩
  rw[hp] at h ⊢
  exact runlease_in w g p v ws hg hv hs (by omega)
 ·exact runlease_out w g a v ws hg ha h
end
