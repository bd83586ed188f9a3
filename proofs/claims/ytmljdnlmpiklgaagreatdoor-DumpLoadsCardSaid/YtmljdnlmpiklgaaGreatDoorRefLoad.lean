import Derived.Test.YtmljdnlmpiklgaaGreatDoorRefRead
import Derived.Test.YtmljdnlmpiklgaaGreatDoorRefG
namespace Go.Proofs.YtmljdnlmpiklgaaGreatDoor
open Go Go.RowKit Txt Sp
section
set_option maxHeartbeats 16000000
set_option maxRecDepth 20000 in
theorem rload_any (w:World) (g:Sp.Geom) (t:ByteArray) :
 Calls Tryz.prog 8 #[gV g,.string t] w (q28z g t w):=by
 have hch:=fun W:World=>rgcheck_any W g
 by_cases hg:g.ok
 rotate_left
 focus
  rw[Geom.check_no hg] at hch
  have hno:=fun(w':World) (hb:Below w.heap.size w w')=>q54z (loadN_shape hg t) hb
  obtain⟨Q,hQ⟩:=zx (q28z g t w)
  rw[hQ] at hno ⊢
  obtain⟨ga,gb,gc⟩:=g
  unfold gV at hch ⊢
  have HCH:=zh hch
  have HNO:=zh hno
  clear hch hno
  clear hg hQ
  obtain⟨W0,hW0⟩:=zg w ga gb gc
  have hk:=g_keep hW0
  have HB0:=zh hk.1
  have HK:=zh hk.2
  clear hk
  obtain⟨z0,z1,z2⟩:=HK.out W0 (Below.refl _ _)
  go_enter Tryz.func8,Tryz.ntmps8
  go_wp2_with fail
  refine(HCH.out _).mono ?_
  rintro e w1 ⟨rfl,hb1⟩
  have HB1:=zh (blN (Below.refl _ _) hb1)
  clear hb1
  clear z0 z1 z2
  go_wp2
  first | exact HNO.out _ (blN HB0.out HB1.out) | (go_ret3; exact HNO.out _ (blN HB0.out HB1.out))
 rw[Geom.check_ok hg] at hch
 by_cases hlong:1048576<t.size
 focus
  have hno:=fun(w':World) (hb:Below w.heap.size w w')=>q54z (loadN_long hg hlong) hb
  have q1:decide ((t.size:Int) > 1048576)=true:=decide_eq_true (by omega)
  have q2:(1048576:Int)<(t.size:Int):=by omega
  obtain⟨Q,hQ⟩:=zx (q28z g t w)
  rw[hQ] at hno ⊢
  obtain⟨ga,gb,gc⟩:=g
  unfold gV at hch ⊢
  have HCH:=zh hch
  have HNO:=zh hno
  clear hch hno
  clear hg hQ
  obtain⟨W0,hW0⟩:=zg w ga gb gc
  have hk:=g_keep hW0
  have HB0:=zh hk.1
  have HK:=zh hk.2
  clear hk
  obtain⟨z0,z1,z2⟩:=HK.out W0 (Below.refl _ _)
  go_enter Tryz.func8,Tryz.ntmps8
  go_wp2_with fail
  refine(HCH.out _).mono ?_
  rintro e w1 ⟨rfl,hb1⟩
  have HB1:=zh (blN (Below.refl _ _) hb1)
  clear hb1
  clear z0 z1 z2
  go_wp2
  first | exact HNO.out _ (blN HB0.out HB1.out) | (go_ret3; exact HNO.out _ (blN HB0.out HB1.out))
 have q1:decide ((t.size:Int) > 1048576)=false:=decide_eq_false (by omega)
 have q2:¬(1048576:Int)<(t.size:Int):=by omega
 obtain⟨L,hL⟩:=zx (cutAt 10 t.data.toList)
 have hts:t.data.toList.length=t.size:=rfl
 have hLne:L≠[]:=by rw[←hL]; exact q40z _
 have hLsz:∀x∈L,x.length≤1048576:=fun x hx=>by rw[←hL] at hx; have:=(q29z hx).2; omega
 have hLB:q14z 10 t=L.map ofL:=by unfold q14z; rw[hL]
 have hLn:L.length≤1048577:=by have:=q21z (c0:=10) t; rw[hLB,List.length_map] at this; omega
 obtain⟨m,hLm⟩:∃m,L.length=m+1:=⟨L.length-1,by have:=List.length_pos_iff.2 hLne; omega⟩
 have hsplit:=fun(W:World)=>show Calls Tryz.prog 20 #[.string t,.int .u8 10] W _ from rcut_any W t 10 (by omega)
 simp only[hLB] at hsplit
 have hcut:=fun(W:World) (x:List UInt8) (hx:x.length≤1048576)=>show Calls Tryz.prog 20 #[.string (ofL x),.int .u8 32] W _ from rcut_any W (ofL x) 32 (by rw[ofL_size]; omega)
 have hcut2:∀x:List UInt8,q14z 32 (ofL x)=(cutAt 32 x).map ofL:=fun x=>by unfold q14z; rw[ofL_data]
 simp only[hcut2] at hcut
 have hwsz:∀(x y:List UInt8),x.length≤1048576→y∈cutAt 32 x→y.length≤4000000:=fun x y h1 h2=>by have:=(q29z h2).2; omega
 have hwn:∀(x:List UInt8),x.length≤1048576→(cutAt 32 x).length≤4000000:=fun x h1=>by
  have:=q21z (c0:=32) (ofL x); rw[hcut2,List.length_map,ofL_size] at this; omega
 have hsz:=Geom.size_bd hg
 have hsize:=fun W:World=>rgsize_any W g
 have hdig:=fun(W:World) (k:Nat) (hk:k≤1048577)=>rdigits_any W k (by omega)
 have hsec:=fun(W:World) (a:Nat) (v:Value) (x:List UInt8) (r:List (List UInt8)) (ha:(a:Int)<g.size) (hv:Texts W v ((x :: r).map ofL)) (hs:∀y∈x :: r,y.length≤4000000) (hl:(x :: r).length≤4000000)=>
  rread_any W g a v x r hg (by omega) hv hs (by omega)
 have hwhat:=fun(W:World) (a:Nat) (s:ByteArray) (ha:(a:Int)<g.size) (hs:s.size=64)=>rwhat_any W g (a:Int) s hg (by omega) ha hs
 unfold q6z at hwhat
 have hwle:∀(a:Nat) (s:ByteArray),s.size=64→(whatL g (a:Int) s).length≤3000:=fun a s hs=>whatL_le hg hs
 have hlt:¬1048576<t.size:=hlong
 have hno:=fun(k:Nat) (h:q5z g 0 L=(none,k)) (w':World) (hb:Below w.heap.size w w')=>q54z (loadN_none hg hlt (by rw[hL]; exact h)) hb
 have hyes:=fun(l:List ByteArray) (h:q5z g 0 L=(some l,0)) (v:Value) (w':World) (ho:OwnS w.heap.size w' v l) (hb:Below w.heap.size w w')=>load_yes (loadN_some hg hlt (by rw[hL]; exact h)) ho hb
 obtain⟨Q,hQ⟩:=zx (q28z g t w)
 rw[hQ] at hno hyes ⊢
 obtain⟨Z,hZ⟩:∃Z:Int,g.size=Z:=⟨_,rfl⟩
 rw[hZ] at hsize hsz hsec hwhat
 have HFrom:Hid (∀k x r,L.drop k=x :: r→x∈L):=fun k x r h=>List.mem_of_mem_drop (h ▸ List.mem_cons_self ..)
 obtain⟨G,hG⟩:=zx (g)
 have HGs:Hid (G.size=Z):=by rw[←hG]; exact hZ
 have hLd:∀k,k<m+1→∃x r,L.drop k=x :: r∧L[k]? = some x∧(k<m↔r≠[]):=fun k hk=>by
  have h:=List.drop_eq_getElem_cons (l:=L) (i:=k) (by omega)
  refine⟨_,_,h,List.getElem?_eq_getElem (by omega),?_⟩
  rw[ne_eq,List.drop_eq_nil_iff,hLm]
  omega
 obtain⟨n,hn⟩:=zx (L.length)
 have hnm:n=m+1:=by omega
 have hq6:IntKind.i64.wrap ((n:Int)-1)=(m:Int):=by rw[IntWalk.i64_in _ (by omega)]; omega
 have HF0:Hid (q5z g 0 L=Sp.preL [] (q5z g 0 (L.drop 0))):=(preL_nil _).symm
 rw[hG] at hno hyes hsec hwhat hwle HF0
 have HG0:Hid (∀W:World,Calls Tryz.prog 21 #[gV G] W fun e w'=>e = .returned (.int .i64 Z)∧Below W.heap.size W w'):=by rw[←hG]; exact hsize
 rw[hG]
 rw[hG] at hch
 have HNM:=zh hnm
 have HLSZ:=zh hLsz
 have HLD:=zh hLd
 have HSZ:=zh hsz
 have HCH:=zh hch
 have HSPLIT:=zh hsplit
 have HCUT:=zh hcut
 have HWSZ:=zh hwsz
 have HWN:=zh hwn
 have HDIG:=zh hdig
 have HSEC:=zh hsec
 have HWHAT:=zh hwhat
 have HWLE:=zh hwle
 have HNO:=zh hno
 have HYES:=zh hyes
 clear hch hsplit hcut hwsz hwn hdig hsec hwhat hwle hno hyes
 clear hG hg hQ hlong hlt hL hts hLne hLB hLn hLm hcut2 hsize hZ hnm hLsz hLd hsz
 obtain⟨ga,gb,gc⟩:=G
 unfold gV at HG0 HCH HSEC HWHAT ⊢
 obtain⟨W0,hW0⟩:=zg w ga gb gc
 have hk:=g_keep hW0
 have HB0:=zh hk.1
 have HK:=zh hk.2
 clear hk
 obtain⟨z0,z1,z2⟩:=HK.out W0 (Below.refl _ _)
 go_enter Tryz.func8,Tryz.ntmps8
 go_wp2_with fail
 refine(HCH.out _).mono ?_
 rintro e w1 ⟨rfl,hb1⟩
 have HB1:=zh (blN (Below.refl _ _) hb1)
 clear hb1
 clear z0 z1 z2
 go_wp2_with fail
 refine(HSPLIT.out _).mono ?_
 rintro e w2 ⟨lv,rfl,hlv,hb2⟩
 have HB2:=zh (blN HB1.out hb2)
 obtain⟨z0,z1,z2⟩:=HK.out w2 HB2.out
 clear hb2
 go_wp2_with fail
 refine(HG0.out _).mono ?_
 rintro e w3 ⟨rfl,hb3⟩
 have HB3:=zh (blN HB2.out hb3)
 have hlv3:=hlv.below hb3
 obtain⟨ad,N,cap,rfl,HN,hn2,HF⟩:=texts_facts hlv3
 have hNn:N=n:=by have:=HN.out; rw[List.length_map,hn] at this; exact this
 subst hNn
 have HNn:=zh hn
 clear hb3 hlv hlv3 hn z0 z1 z2 q1 q2
 go_wp2_with fail
 go_loopw [9,10,11,12,13,14] (fun out i _ _ _ _ wr=>∃(k:Nat) (acc:List ByteArray),k<N∧i = .int .i64 k∧Hid (q5z ⟨ga,gb,gc⟩ 0 L=Sp.preL acc (q5z ⟨ga,gb,gc⟩ k (L.drop k)))∧Hid (acc.length=k∧(k:Int)≤Z)∧Hid (OwnS w3.heap.size wr out acc)∧Hid (Below w3.heap.size w3 wr)) (fun _ i _ _ _ _ _=>N-(intOf i).toNat)
 case atStart=>exact⟨0,[],by have:=HNM.out; omega,rfl,HF0,⟨rfl,by have:=HSZ.out; omega⟩,OwnR.void _ _,Below.refl _ _⟩
 case round=>
  obtain⟨k,acc,hk,rfl,HP,HA,HO,HBx⟩:=hrel
  have HB:=zh (blN HB3.out HBx.out)
  obtain⟨x,r,hdr,hget,hkm⟩:=HLD.out k (by have:=HNM.out; omega)
  obtain⟨b,o,X,rfl,hb,hx,hc⟩:=HF.out k hk
  have hX:ofL x=X:=by rw[List.getElem?_map,hget] at hx; exact Option.some.inj hx
  have HCX:Hid (∀W,Below w3.heap.size w3 W→W.cell? ⟨b,o+k,none⟩=some (.string X)):=fun W hW=>(hW.cell (p:=⟨b,o+k,none⟩) hb).trans hc
  have c0:=HCX.out wr HBx.out
  have hxl:x.length≤1048576:=HLSZ.out x (HFrom.out k x r hdr)
  have hp:=HP.out
  rw[hdr] at hp
  have hbad:=fun(h:q5z ⟨ga,gb,gc⟩ k (x :: r)=(none,k+1)) (w':World) (hb:Below w.heap.size w w')=>HNO.out (k+1) (by rw[hp,h]; rfl) w' hb
  simp only[Int.natCast_add,Int.natCast_one] at hbad
  have hw1:IntKind.i64.wrap ((k:Int)+1)=(k:Int)+1:=IntWalk.i64_in _ (by have:=HSZ.out; have:=HA.out; omega)
  have qe:(X.toList == [])=decide (x=[]):=by rw[←hX]; exact q20z x []
  have hcu:=fun(W:World)=>HCUT.out W x hxl
  simp only[hX] at hcu
  have qk:decide ((k:Int)<(N:Int))=true:=decide_eq_true (by omega)
  by_cases hkm2:k=m
  ·have hr:r=[]:=by
    by_cases h:r=[]
    ·exact h
    ·exact absurd (hkm.2 h) (by omega)
   subst hr
   rw[loadFrom_end] at hp hbad
   subst hkm2
   have ql:((k:Int) == (k:Int))=true:=beq_self_eq_true _
   by_cases hz:(k:Int)=Z
   ·have qz:((k:Int) == Z)=true:=beq_iff_eq.2 hz
    by_cases hx0:x=[]
    ·have HY:=zh (HYES.out acc (by rw[hp,if_pos ⟨hz.trans HGs.out.symm,hx0⟩]; simp[Sp.preL]) _ _ (OwnR.mono HO.out (blN HB0.out HB3.out).size) (blN HB0.out HB.out))
     rw[decide_eq_true hx0] at qe
     obtain⟨oad,ocap,rfl⟩:=HO.out.form
     clear hz hp hbad hX hb hx hc hdr hget hkm hxl hx0 hcu
     go_wp2
     first | exact HY.out | (go_ret3; exact HY.out)
    ·have hh:(if(k:Int)=Sp.Geom.size ⟨ga,gb,gc⟩∧x=[] then((some [],0):Option (List ByteArray)×Nat) else(none,k+1))=(none,k+1):=if_neg fun h=>hx0 h.2
     rw[decide_eq_false hx0] at qe
     have HBad:=zh (hbad hh)
     have qg:decide ((k:Int)≥Z)=true:=decide_eq_true (by omega)
     have qg2:decide (Z≤(k:Int))=true:=decide_eq_true (by omega)
     clear hh hz hp hbad hX hb hx hc hdr hget hkm hxl hx0 hcu
     go_wp2
     first | exact HBad.out _ (blN HB0.out HB.out) | (go_ret3; exact HBad.out _ (blN HB0.out HB.out))
   ·have qz:((k:Int) == Z)=false:=beq_eq_false_iff_ne.2 hz
    have hh:(if(k:Int)=Sp.Geom.size ⟨ga,gb,gc⟩∧x=[] then((some [],0):Option (List ByteArray)×Nat) else(none,k+1))=(none,k+1):=if_neg fun h=>hz (h.1.trans HGs.out)
    have HBad:=zh (hbad hh)
    have qg:decide ((k:Int)≥Z)=false:=decide_eq_false (by have:=HA.out.2; omega)
    have qg2:decide (Z≤(k:Int))=false:=decide_eq_false (by have:=HA.out.2; omega)
    clear hh hz hp hbad hX hb hx hc hdr hget hkm hxl hcu qe
    go_wp2
    first | exact HBad.out _ (blN HB0.out HB.out) | (go_ret3; exact HBad.out _ (blN HB0.out HB.out))
  have hr:r≠[]:=hkm.1 (by have:=HNM.out; omega)
  have qm:((k:Int) == (m:Int))=false:=beq_eq_false_iff_ne.2 (by omega)
  clear hkm
  by_cases hZ:Z≤(k:Int)
  ·have HBad:=zh (hbad (loadFrom_big hr (by rw[HGs.out]; exact hZ)))
   have qz:((k:Int) == Z)=true:=beq_iff_eq.2 (by have:=HA.out.2; omega)
   have qg:decide ((k:Int)≥Z)=true:=decide_eq_true hZ
   have qg2:decide (Z≤(k:Int))=true:=decide_eq_true hZ
   clear hZ hr hp hbad hX hb hx hc hdr hget hxl hcu qe
   go_wp2
   first | exact HBad.out _ (blN HB0.out HB.out) | (go_ret3; exact HBad.out _ (blN HB0.out HB.out))
  have qz:((k:Int) == Z)=false:=beq_eq_false_iff_ne.2 (by omega)
  have qg:decide ((k:Int)≥Z)=false:=decide_eq_false hZ
  have qg2:decide (Z≤(k:Int))=false:=decide_eq_false hZ
  clear qe
  go_wp2_with fail
  refine(hcu _).mono ?_
  rintro e w4 ⟨v4,rfl,hv4,hb4⟩
  have HB4:=zh (blN HB.out hb4)
  have HO4:=zh (OwnR.below HO.out hb4)
  have HBx4:=zh (blN HBx.out hb4)
  have HBw4:=zh (blN HB0.out HB4.out)
  clear c0 hb4 hcu qz qg qg2 qm qk hq6
  have hws:=q40z (c0:=32) x
  have hwsz:=fun y hy=>HWSZ.out x y hxl hy
  have hwn:=HWN.out x hxl
  obtain⟨ws,hwx⟩:=zx (cutAt 32 x)
  rw[hwx] at hv4 hws hwsz hwn
  have hbadL:=fun h=>hbad (loadFrom_line_no hr h)
  cases ws with
  | nil=>exact absurd rfl hws
  | cons w1' r1=>
    obtain⟨bb,oo,cap4,hvv,h1,h2,hbb,hcw⟩:=hv4.open_ne (by simp)
    obtain⟨N4,hN4⟩:=zx (((w1' :: r1).map ofL).length)
    rw[hN4] at hvv h1
    have hN5:N4=r1.length+1:=by rw[←hN4]; simp
    subst hvv
    cases r1 with
    | nil=>
      have HBad:=zh (hbadL (lineP_none_word hwx (by simp)))
      have hN6:N4=1:=hN5
      subst hN6
      clear hN5 hN4 hcw hbb h2 h1 hbadL hwx hwn hwsz hws hZ hr hp hbad hX hb hx hc hdr hget hxl hv4
      go_wp2_with fail
      refine wp_region_held_drew (S:=(fun _=>True)) (by kernel_rfl) (by first | trivial | assumption) (fun hHeld=>?_)
      refine tkH 0 ?_; simp only[Act.put,ps0]
      refine tkH 1 ?_; simp only[Act.put,ps0]
      refine tkH 2 ?_; simp only[Act.put,ps0]
      refine tkH 3 ?_; simp only[Act.put,ps0]
      refine wpAnyH_take (i:=4) (v:=undef) rfl (by kernel_rfl) (by kernel_rfl) (by kernel_rfl) (fun _ _ _ h=>h) (Or.inr ⟨by rfl,rfl⟩) hHeld ?_
      simp only[Act.put,ps0]
      refine wpAnyH_take (i:=5) (v:=undef) rfl (by kernel_rfl) (by kernel_rfl) (by kernel_rfl) (fun _ _ _ h=>h) (Or.inr ⟨by rfl,rfl⟩) hHeld ?_
      simp only[Act.put,ps0]
      refine wpAnyH_take (i:=6) (v:=undef) rfl (by kernel_rfl) (by kernel_rfl) (by kernel_rfl) (fun _ _ _ h=>h) (Or.inr ⟨by rfl,rfl⟩) hHeld ?_
      simp only[Act.put,ps0]
      refine wpAnyH_take (i:=7) (v:=undef) rfl (by kernel_rfl) (by kernel_rfl) (by kernel_rfl) (fun _ _ _ h=>h) (Or.inr ⟨by rfl,rfl⟩) hHeld ?_
      simp only[Act.put,ps0]
      refine wpAnyH_take (i:=8) (v:=undef) rfl (by kernel_rfl) (by kernel_rfl) (by kernel_rfl) (fun _ _ _ h=>h) (Or.inr ⟨by rfl,rfl⟩) hHeld ?_
      simp only[Act.put,ps0]
      refine wpAnyH_take (i:=9) (v:=undef) rfl (by kernel_rfl) (by kernel_rfl) (by kernel_rfl) (fun _ _ _ h=>h) (Or.inr ⟨by rfl,rfl⟩) hHeld ?_
      simp only[Act.put,ps0]
      refine tkH 10 ?_; simp only[Act.put,ps0]
      refine wpAnyH_done (by kernel_rfl) ?_ _
      go_wp2
      first | exact HBad.out _ (blD HBw4.out) | (go_ret3; exact HBad.out _ (blD HBw4.out))
    | cons w2' r2=>
      have hcap:¬cap4=1:=by simp only[List.length_cons] at hN5; omega
      have hN4i:(1:Int)≤(N4:Int):=by omega
      have hN4n:1≤N4:=by omega
      have hN4p:0<N4:=by omega
      have qn:decide ((N4:Int)<2)=false:=decide_eq_false (by simp only[List.length_cons] at hN5; omega)
      have hN4q:(0:Int)<(N4:Int):=by omega
      have hcw0:w4.cell? ⟨bb,oo,none⟩=some (.string (ofL w1')):=hcw 0 _ rfl
      have hrest:Texts w4 (.slice (some ⟨bb,oo+1,none⟩) (N4-1) (cap4-1)) ((w2' :: r2).map ofL):=Texts.rest (x:=ofL w1') (by rw[List.length_map]; omega) (by omega) h2 hbb (fun j y hy=>hcw j y hy) rfl
      clear hN5
      obtain⟨RP,hRP⟩:=zx (readP ⟨ga,gb,gc⟩ (k:Int) (w2' :: r2))
      have HSE:Hid (∀W,Below w4.heap.size w4 W→Calls Tryz.prog 23 #[.agg #[.int .i64 ga,.int .i64 gb,.int .i64 gc],.int .i64 (k:Int),.slice (some ⟨bb,oo+1,none⟩) (N4-1) (cap4-1)] W (q1z RP W)):=fun W hW=>by
       rw[←hRP]
       exact HSEC.out W k _ w2' r2 (by omega) (hrest.below hW) (fun y hy=>hwsz y (List.mem_cons_of_mem _ hy)) (by simp only[List.length_cons] at hwn ⊢; omega)
      have HDI:Hid (∀W:World,Calls Tryz.prog 22 #[.int .i64 (k:Int)] W fun e w'=>e = .returned (.string (ofL (digitsL k)))∧Below W.heap.size W w'):=fun W=>
       HDIG.out W k (by have:=HSZ.out; have:=HA.out.2; omega)
      obtain⟨nb,hnb⟩:=zx (decide (w1' = digitsL k))
      have f1:((ofL w1').toList == (ofL (digitsL k)).toList)=nb:=by
       rw[←hnb,list_eq,decide_eq_decide]
       exact⟨fun h=>ofL_inj h,fun h=>by rw[h]⟩
      have HCW:Hid (∀W,Below w4.heap.size w4 W→W.cell? ⟨bb,oo,none⟩=some (.string (ofL w1'))):=fun W hW=>(hW.cell (p:=⟨bb,oo,none⟩) hbb).trans hcw0
      obtain⟨W1,hW1⟩:=zx (ofL w1')
      obtain⟨DK,hDK⟩:=zx (ofL (digitsL k))
      rw[hW1] at HCW f1
      rw[hDK] at f1 HDI
      have cw:=HCW.out w4 (Below.refl _ _)
      go_wp2_with fail
      refine wp_region_held_drew (S:=(fun W=>W.cell? ⟨bb,oo,none⟩=some (.string W1))) (by kernel_rfl) (by first | trivial | assumption) (fun hHeld=>?_)
      refine tkH 0 ?_; simp only[Act.put,ps0]
      refine tkH 1 ?_; simp only[Act.put,ps0]
      refine tkH 2 ?_; simp only[Act.put,ps0]
      refine tkH 3 ?_; simp only[Act.put,ps0]
      refine tkH 4 ?_; simp only[Act.put,ps0]
      refine tkH 5 ?_; simp only[Act.put,ps0]
      refine tkH 6 ?_; simp only[Act.put,ps0]
      refine tkH 7 ?_; simp only[Act.put,ps0]
      refine wpAnyH_ready (rs:=[8]) (by kernel_rfl) (by simp) ?_
      refine AllReadyH.cons rfl (fun K hK=>?_) AllReadyH.nil
      try simp only[gg0]
      go_simp
      refine(HDI.out _).mono ?_
      rintro e w5 ⟨rfl,hb5⟩
      have HB5:Hid (Below w4.heap.size w4 w5):=blN (blD (Below.refl _ _)) hb5
      clear hb5
      try simp only
      refine hK.out _ _ ?hkS (fun hHeld=>?_)
      case hkS=>
       exact HCW.out _ HB5.out
      clear hK K
      try simp only[Act.put,ps0]
      refine tkH 9 ?_; simp only[Act.put,ps0]
      refine tkH 10 ?_; simp only[Act.put,ps0]
      refine wpAnyH_done (by kernel_rfl) ?_ _
      clear cw f1 hHeld
      cases nb with
      | false=>
        have HBad:=zh (hbadL (lineP_none_num hwx (of_decide_eq_false hnb)))
        clear hnb hW1 hDK hRP hcw0 hrest hN4 hcw hbb h2 h1 hbadL hwx hwn hwsz hws hZ hr hp hbad hX hb hx hc hdr hget hxl hv4
        go_wp2
        first | exact HBad.out _ (blN HBw4.out HB5.out) | (go_ret3; exact HBad.out _ (blN HBw4.out HB5.out))
      | true=>
      have hwd:w1' = digitsL k:=of_decide_eq_true hnb
      obtain⟨B,hB⟩:=zx (RP.isSome)
      unfold q1z at HSE
      rw[hB] at HSE
      have HKB:Hid (∀W,Below w4.heap.size w4 W→W.cell? ⟨w.heap.size,0,none⟩=some (.int .i64 ga)∧W.cell? ⟨w.heap.size,1,none⟩=some (.int .i64 gb)∧W.cell? ⟨w.heap.size,2,none⟩=some (.int .i64 gc)):=fun W h=>HK.out W (blN HB4.out h)
      obtain⟨z0,z1,z2⟩:=HKB.out w5 HB5.out
      go_wp2_with fail
      refine wp_region_held_drew (S:=(fun W=>W.cell? ⟨w.heap.size,0,none⟩=some (.int .i64 ga)∧W.cell? ⟨w.heap.size,1,none⟩=some (.int .i64 gb)∧W.cell? ⟨w.heap.size,2,none⟩=some (.int .i64 gc))) (by kernel_rfl) (by first | trivial | assumption) (fun hHeld=>?_)
      refine tkH 0 ?_; simp only[Act.put,ps0]
      refine tkH 1 ?_; simp only[Act.put,ps0]
      refine tkH 2 ?_; simp only[Act.put,ps0]
      refine tkH 3 ?_; simp only[Act.put,ps0]
      refine wpAnyH_ready (rs:=[4]) (by kernel_rfl) (by simp) ?_
      refine AllReadyH.cons rfl (fun K hK=>?_) AllReadyH.nil
      try simp only[gg0]
      go_simp
      refine(HSE.out _ (blD HB5.out)).mono ?_
      rintro e w6 ⟨T,rfl,hT,hb6⟩
      have HB6:Hid (Below w4.heap.size w4 w6):=blN (blD HB5.out) hb6
      clear hb6
      try simp only
      refine hK.out _ _ ?hkS (fun hHeld=>?_)
      case hkS=>
       exact HKB.out _ HB6.out
      clear hK K
      try simp only[Act.put,ps0]
      refine tkH 5 ?_; simp only[Act.put,ps0]
      refine tkH 6 ?_; simp only[Act.put,ps0]
      refine tkH 7 ?_; simp only[Act.put,ps0]
      refine tkH 8 ?_; simp only[Act.put,ps0]
      refine tkH 9 ?_; simp only[Act.put,ps0]
      refine wpAnyH_done (by kernel_rfl) ?_ _
      clear hHeld z0 z1 z2
      cases B with
      | false=>
        have hrd:RP=none:=Option.isSome_eq_false_iff.1 hB |> Option.isNone_iff_eq_none.1
        have HBad:=zh (hbadL (lineP_none_read hwx (hRP.trans hrd)))
        clear hT hrd hB hwd hnb hW1 hDK hRP hcw0 hrest hN4 hcw hbb h2 h1 hbadL hwx hwn hwsz hws hZ hr hp hbad hX hb hx hc hdr hget hxl hv4
        obtain⟨z0,z1,z2⟩:=HKB.out w6 HB6.out
        go_wp2_with fail
        refine wp_region_held_drew (S:=(fun _=>True)) (by kernel_rfl) (by first | trivial | assumption) (fun hHeld=>?_)
        refine tkH 0 ?_; simp only[Act.put,ps0]
        refine tkH 1 ?_; simp only[Act.put,ps0]
        refine tkH 2 ?_; simp only[Act.put,ps0]
        refine wpAnyH_take (i:=3) (v:=undef) rfl (by kernel_rfl) (by kernel_rfl) (by kernel_rfl) (fun _ _ _ h=>h) (Or.inr ⟨by rfl,rfl⟩) hHeld ?_
        simp only[Act.put,ps0]
        refine wpAnyH_take (i:=4) (v:=undef) rfl (by kernel_rfl) (by kernel_rfl) (by kernel_rfl) (fun _ _ _ h=>h) (Or.inr ⟨by rfl,rfl⟩) hHeld ?_
        simp only[Act.put,ps0]
        refine wpAnyH_take (i:=5) (v:=undef) rfl (by kernel_rfl) (by kernel_rfl) (by kernel_rfl) (fun _ _ _ h=>h) (Or.inr ⟨by rfl,rfl⟩) hHeld ?_
        simp only[Act.put,ps0]
        refine wpAnyH_take (i:=6) (v:=undef) rfl (by kernel_rfl) (by kernel_rfl) (by kernel_rfl) (fun _ _ _ h=>h) (Or.inr ⟨by rfl,rfl⟩) hHeld ?_
        simp only[Act.put,ps0]
        refine wpAnyH_take (i:=7) (v:=undef) rfl (by kernel_rfl) (by kernel_rfl) (by kernel_rfl) (fun _ _ _ h=>h) (Or.inr ⟨by rfl,rfl⟩) hHeld ?_
        simp only[Act.put,ps0]
        refine wpAnyH_take (i:=8) (v:=undef) rfl (by kernel_rfl) (by kernel_rfl) (by kernel_rfl) (fun _ _ _ h=>h) (Or.inr ⟨by rfl,rfl⟩) hHeld ?_
        simp only[Act.put,ps0]
        refine wpAnyH_take (i:=9) (v:=undef) rfl (by kernel_rfl) (by kernel_rfl) (by kernel_rfl) (fun _ _ _ h=>h) (Or.inr ⟨by rfl,rfl⟩) hHeld ?_
        simp only[Act.put,ps0]
        refine wpAnyH_take (i:=10) (v:=undef) rfl (by kernel_rfl) (by kernel_rfl) (by kernel_rfl) (fun _ _ _ h=>h) (Or.inr ⟨by rfl,rfl⟩) hHeld ?_
        simp only[Act.put,ps0]
        refine wpAnyH_take (i:=11) (v:=undef) rfl (by kernel_rfl) (by kernel_rfl) (by kernel_rfl) (fun _ _ _ h=>h) (Or.inr ⟨by rfl,rfl⟩) hHeld ?_
        simp only[Act.put,ps0]
        refine wpAnyH_take (i:=12) (v:=undef) rfl (by kernel_rfl) (by kernel_rfl) (by kernel_rfl) (fun _ _ _ h=>h) (Or.inr ⟨by rfl,rfl⟩) hHeld ?_
        simp only[Act.put,ps0]
        refine wpAnyH_take (i:=13) (v:=undef) rfl (by kernel_rfl) (by kernel_rfl) (by kernel_rfl) (fun _ _ _ h=>h) (Or.inr ⟨by rfl,rfl⟩) hHeld ?_
        simp only[Act.put,ps0]
        refine wpAnyH_take (i:=14) (v:=undef) rfl (by kernel_rfl) (by kernel_rfl) (by kernel_rfl) (fun _ _ _ h=>h) (Or.inr ⟨by rfl,rfl⟩) hHeld ?_
        simp only[Act.put,ps0]
        refine wpAnyH_take (i:=15) (v:=undef) rfl (by kernel_rfl) (by kernel_rfl) (by kernel_rfl) (fun _ _ _ h=>h) (Or.inr ⟨by rfl,rfl⟩) hHeld ?_
        simp only[Act.put,ps0]
        refine tkH 16 ?_; simp only[Act.put,ps0]
        refine wpAnyH_done (by kernel_rfl) ?_ _
        go_wp2
        first | exact HBad.out _ (blN HBw4.out (blD HB6.out)) | (go_ret3; exact HBad.out _ (blN HBw4.out (blD HB6.out)))
      | true=>
      obtain⟨s,hrs⟩:=Option.isSome_iff_exists.1 hB
      have hrd:=hRP.trans hrs
      obtain rfl:T=s:=hT s hrs
      have h64:T.size=64:=readP_size hrd
      have hwh:=fun W:World=>HWHAT.out W k T (by omega) h64
      have hwl:=HWLE.out k T h64
      have hdl:=q9z (n:=k) (by have:=HSZ.out; omega)
      obtain⟨lb,hlb⟩:=zx (decide (lineL ⟨ga,gb,gc⟩ (k:Int) T=x))
      have hls:lineL ⟨ga,gb,gc⟩ (k:Int) T=digitsL k ++ [32] ++ whatL ⟨ga,gb,gc⟩ (k:Int) T:=by
       unfold lineL
       rw[Int.toNat_natCast,List.append_assoc]
       rfl
      have f3:(X.toList == (ofL (lineL ⟨ga,gb,gc⟩ (k:Int) T)).toList)=lb:=by
       rw[←hlb,list_eq,←hX,decide_eq_decide]
       exact⟨fun h=>(ofL_inj h).symm,fun h=>by rw[h]⟩
      rw[hls] at f3
      obtain⟨FX,hFX⟩:=zx (whatL ⟨ga,gb,gc⟩ (k:Int) T)
      rw[hFX] at f3 hwh hwl
      have hcat1:=text_cat (digitsL k) [32]
      have hcat2:=text_cat (digitsL k ++ [32]) FX
      have s1:(ofL (digitsL k)).size≤19:=by rw[ofL_size]; exact hdl
      have s2:(ofL (digitsL k ++ [32])).size≤20:=by rw[ofL_size,List.length_append,List.length_singleton]; omega
      have s3:(ofL FX).size≤3000:=by rw[ofL_size]; exact hwl
      obtain⟨E,hE⟩:=zx (ofL (digitsL k ++ [32]))
      obtain⟨Y,hY⟩:=zx (ofL FX)
      obtain⟨R,hR⟩:=zx (ofL (digitsL k ++ [32] ++ FX))
      rw[hDK] at hcat1 s1
      rw[hE] at hcat1 hcat2 s2
      rw[hY] at hwh hcat2 s3
      rw[hR] at hcat2 f3
      change DK ++ (⟨#[32]⟩:ByteArray)=E at hcat1
      have l1:¬9223372036854775807<DK.size+1:=by omega
      have l2:¬9223372036854775807<E.size+Y.size:=by omega
      have HCXB:Hid (∀W,Below w4.heap.size w4 W→(W.cell? ⟨w.heap.size,0,none⟩=some (.int .i64 ga)∧W.cell? ⟨w.heap.size,1,none⟩=some (.int .i64 gb)∧W.cell? ⟨w.heap.size,2,none⟩=some (.int .i64 gc))∧W.cell? ⟨b,o+k,none⟩=some (.string X)):=fun W h=>⟨HKB.out W h,HCX.out W (blN HBx4.out h)⟩
      have HP2:Hid (lb=true→q5z ⟨ga,gb,gc⟩ 0 L=Sp.preL (acc ++ [T]) (q5z ⟨ga,gb,gc⟩ (k+1) (L.drop (k+1)))):=fun hlf=>by
       have hl:lineL ⟨ga,gb,gc⟩ (k:Int) T=x:=of_decide_eq_true (by rw[hlf] at hlb; exact hlb)
       have hd:L.drop (k+1)=r:=by rw[←List.drop_drop,hdr]; rfl
       have hs:=lineP_yes hwx hwd hrd hl
       rw[hp,loadFrom_step hr (by rw[HGs.out]; omega) hs,preL_snoc,hd]
      have HBad:Hid (lb=false→∀w',Below w.heap.size w w'→_):=fun hlt=>hbadL (lineP_none_line hwx hrd (of_decide_eq_false (by rw[hlt] at hlb; exact hlb)))
      have hk2:k+1<N:=by have:=HNM.out; omega
      have hll:acc.length≤1000:=by have:=HA.out; have:=HSZ.out; omega
      have HA2:Hid ((acc ++ [T]).length=k+1∧((k+1:Nat):Int)≤Z):=⟨by rw[List.length_append,HA.out.1]; rfl,by omega⟩
      have HWH:=zh hwh
      clear hwh
      clear hT hrs hrd h64 hls hFX hwl hdl s1 s2 s3 hE hY hR hlb hB hwd hnb hW1 hDK hRP hcw0 hrest hN4 hcw hbb h2 h1 hbadL hwx hwn hwsz hws hZ hr hp hbad hX hb hx hc hdr hget hxl hv4
      go_wp2_with fail
      go_region_held3 (fun W=>(W.cell? ⟨w.heap.size,0,none⟩=some (.int .i64 ga)∧W.cell? ⟨w.heap.size,1,none⟩=some (.int .i64 gb)∧W.cell? ⟨w.heap.size,2,none⟩=some (.int .i64 gc))∧W.cell? ⟨b,o+k,none⟩=some (.string X))
       ((refine HCXB.out _ ?_; repeat' first | with_reducible exact HB6.out | with_reducible exact HB7.out | with_reducible exact HB8.out | with_reducible refine blD ?_ | with_reducible refine bl1 ?_ _))
       (first
         | (go_at_call 22
            with_reducible refine(HDI.out _).mono ?_
            rintro e w7 ⟨rfl,hb7⟩
            have HB7:Hid (Below w4.heap.size w4 w7):=blN (by repeat' first | with_reducible exact HB6.out | with_reducible exact HB8.out | with_reducible refine blD ?_) hb7
            clear hb7
            simp only)
         | (go_at_call 24
            with_reducible refine(HWH.out _).mono ?_
            rintro e w8 ⟨rfl,hb8⟩
            have HB8:Hid (Below w4.heap.size w4 w8):=blN (by repeat' first | with_reducible exact HB6.out | with_reducible exact HB7.out | with_reducible refine blD ?_) hb8
            clear hb8
            simp only))
      all_goals
       cases lb with
       | false=>
         have HBd:=zh (HBad.out rfl)
         go_wp2
         first | exact HBd.out _ (blN HBw4.out HB8.out) | (go_ret3; exact HBd.out _ (blN HBw4.out HB8.out))
       | true=>
         have HPn:=zh (HP2.out rfl)
         have HO8:=zh (OwnR.below HO4.out HB8.out)
         have HBx8:=zh (blN HBx4.out HB8.out)
         clear HP2 HBad
         obtain⟨ia9,ib9,ic9,id9,ie9⟩:=info_parts Tryz.infoText
         have hrow9:=HO8.out
         unfold OwnR at hrow9
         have HRow9:=zh hrow9
         clear hrow9
         have HIb9:=zh ib9
         have HIc9:=zh ic9
         have HId9:=zh id9
         have HIe9:=zh ie9
         clear ib9 ic9 id9 ie9
         go_wp2_with (at_builtin; refine wpList_append_lies _ rfl _ _ _ rfl w3.heap.size 9 ia9 _ 1 16 Tryz.underlying25 HIb9.out HIc9.out HId9.out HIe9.out rfl (by decide) _ _ _ rfl (HRow9.out.alloc _) ⟨w8.heap.size,0,none⟩ 1 1 [.string T] rfl rfl (World.news_of_block (cs:=#[.string T]) (t:=9) (fr:=(0,0)) (heapNew w8 _)) (by simp[Value.oneCell']) (by omega) ?c1 ?c2 ?c3 (w8.heap.size+1) (by simp) ?_)
         case c1=>unfold maxLen; omega
         case c2=>omega
         case c3=>have:=HBx8.out.size; first | (simp; done) | (simp; omega)
         intro g9 cap9 w9 hown9 hgrow9 hat9 hlt9
         have HO9:=zh (OwnR.snoc (f:=textC) (x:=T) hown9 rfl rfl)
         have HB9:Hid (Below w3.heap.size _ w9):=Below.grown (bl1 HBx8.out _) hgrow9 (bl1 HBx8.out _).size (fun q hq=>(HRow9.out.lt q hq).1)
         clear hown9 hgrow9 hat9 hlt9 HRow9
         go_wp2
         go_roundw
         case rel=>exact⟨k+1,acc ++ [T],hk2,by go_num,HPn,HA2,HO9,HB9⟩
         case measure=>simp[intOf]; omega
end
