import Derived.Test.YtmljdnlmpiklgaaGreatDoorLoadNode
namespace Go.Proofs.YtmljdnlmpiklgaaGreatDoor
open Go Go.RowKit Txt Sp
theorem q47z:∀(es:List Sp.Entry),(∀x∈es,x.may)→(es.flatMap slotL).length=16*es.length
 | [],_=>rfl
 | x :: r,h=>by
   rw[List.flatMap_cons,List.length_append,q39z (h x (List.mem_cons_self ..)),q47z r (fun y hy=>h y (List.mem_cons_of_mem _ hy)),List.length_cons]
   omega
theorem q55z {ws:List (List UInt8)} {es:List Sp.Entry} (h:allP q10z ws=some es):∀x∈es,x.may:=fun x hx=>by
 obtain⟨w,_,hw⟩:=allP_mem h x hx
 exact entryP_may hw
theorem padL_full {l:List UInt8} (h:l.length=64):padL l=l:=by
 unfold padL
 rw[h]
 show l ++ []=l
 rw[List.append_nil]
theorem padL_size {l:List UInt8} (h:l.length≤64):(ofL (padL l)).size=64:=by rw[ofL_size,padL_len h]
theorem entryP_dash {y:List UInt8} (h:y=[45]):q10z y=if Sp.Entry.may ⟨0,⟨#[]⟩⟩ then some ⟨0,⟨#[]⟩⟩ else none:=by
 subst h
 have:Sp.Entry.may ⟨0,⟨#[]⟩⟩:=Or.inl ⟨rfl,rfl⟩
 rw[if_pos this]
 rfl
theorem entryP_no1 {w:List UInt8} (hw:w≠[45]) (h:(Lib.cut w [58]).2.2=false):q10z w=none:=by
 rw[entryP_cut hw]
 generalize Lib.cut w [58]=t at h ⊢
 obtain⟨a,b,c⟩:=t
 cases h
 rfl
theorem entryP_no2 {w:List UInt8} (hw:w≠[45]) (h:numP (Lib.cut w [58]).1=none):q10z w=none:=by
 rw[entryP_cut hw]
 generalize Lib.cut w [58]=t at h ⊢
 obtain⟨a,b,c⟩:=t
 dsimp only at h
 cases c with
 | false=>rfl
 | true=>dsimp only; rw[h]
theorem entryP_no3 {w:List UInt8} (hw:w≠[45]) (h:q4z (Lib.cut w [58]).2.1=none):q10z w=none:=by
 rw[entryP_cut hw]
 generalize Lib.cut w [58]=t at h ⊢
 obtain⟨a,b,c⟩:=t
 dsimp only at h
 cases c with
 | false=>rfl
 | true=>dsimp only; rw[h]; cases numP a <;> rfl
theorem entryP_yes {w:List UInt8} {n:Nat} {l:List UInt8} (hw:w≠[45]) (h1:(Lib.cut w [58]).2.2=true) (h2:numP (Lib.cut w [58]).1=some n) (h3:q4z (Lib.cut w [58]).2.1=some l):q10z w=if Sp.Entry.may ⟨(n:Int),ofL l⟩ then some ⟨(n:Int),ofL l⟩ else none:=by
 rw[entryP_cut hw]
 generalize Lib.cut w [58]=t at h1 h2 h3 ⊢
 obtain⟨a,b,c⟩:=t
 dsimp only at h1 h2 h3
 subst h1
 dsimp only
 rw[h2,h3]
theorem undirP_len {ws:List (List UInt8)} (h:ws.length≠4):q27z ws=none:=by unfold q27z; rw[if_neg h]
theorem undirP_none {ws:List (List UInt8)} (h:allP q10z ws=none):q27z ws=none:=by
 unfold q27z
 rw[h]
 split <;> rfl
theorem undirP_some {ws:List (List UInt8)} {l:List Sp.Entry} (h4:ws.length=4) (h:allP q10z ws=some l):q27z ws=some (ofL (padL (l.flatMap slotL))):=by
 unfold q27z
 rw[if_pos h4,h]
 have:=q47z l (q55z h)
 have hl:=q32z h
 rw[padL_full (by rw[this,hl,h4])]
section
set_option maxHeartbeats 16000000
set_option maxRecDepth 20000 in
theorem dunlisted_any (w:World) (v:Value) (ws:List (List UInt8)) (hm:MaxOk w) (hv:Texts w v (ws.map ofL)) (hs:∀x∈ws,x.length≤4000000) :
 Calls Tryz.prog 44 #[v] w (q1z (q27z ws) w):=by
 by_cases h4:ws.length=4
 rotate_left
 ·obtain⟨ad,n,cap,rfl,HN,hn2,_⟩:=texts_facts hv
  have hn:n=ws.length:=by have:=HN.out; rw[List.length_map] at this; exact this
  have hno:=fun(w':World) (hb:Below w.heap.size w w')=>rd_no (w:=w) (undirP_len h4) ⟨#[]⟩ hb
  obtain⟨Q,hQ⟩:=zx (q1z (q27z ws) w)
  rw[hQ] at hno ⊢
  have q1:((n:Int) == 4)=false:=beq_eq_false_iff_ne.2 (by omega)
  have q2:((n:Int) != 4)=true:=by rw[bne,q1]; rfl
  have HNO:=zh hno
  clear hno
  clear hQ hv hs h4 hn HN hm
  go_enter Tryz.func44,Tryz.ntmps44
  go_wp2
  first | exact HNO.out _ (Below.refl _ _) | (go_ret2; exact HNO.out _ (Below.refl _ _))
 obtain⟨ad,n,cap,rfl,HN,hn2,HF⟩:=texts_facts hv
 have hn:n=4:=by have:=HN.out; rw[List.length_map,h4] at this; exact this
 subst hn
 have hno:=fun(h:allP q10z ws=none) (T:ByteArray) (w':World) (hb:Below w.heap.size w w')=>rd_no (w:=w) (undirP_none h) T hb
 have hyes:=fun(l:List Sp.Entry) (h:allP q10z ws=some l) (w':World) (hb:Below w.heap.size w w')=>q37z (w:=w) (undirP_some h4 h) hb
 obtain⟨Q,hQ⟩:=zx (q1z (q27z ws) w)
 rw[hQ] at hno hyes ⊢
 have hcut:=fun(W:World) (x:List UInt8) (hm:MaxOk W) (hx:x.length≤4000000)=>cutText_any (ofL x) 58 W hm (by rw[ofL_size]; omega)
 have hread:=fun(W:World) (x:List UInt8) (hx:x.length≤4000000)=>dread_any W (ofL x) (by rw[ofL_size]; omega)
 have hbytes:=fun(W:World) (x:List UInt8) (hx:x.length≤4000000)=>dbytes_any W (ofL x) (by rw[ofL_size]; omega)
 simp only[ofL_data] at hcut hread hbytes
 unfold q53z at hread
 unfold q25z at hbytes
 have hbl:=fun W:World=>fblank_any W
 rw[show Sp.blank=ofL (padL (([]:List Sp.Entry).flatMap slotL)) from rfl] at hbl
 have HM:=zh hm
 have HS:=zh hs
 have H4:=zh h4
 have HNO:=zh hno
 have HYES:=zh hyes
 have HCUT:=zh hcut
 have HREAD:=zh hread
 have HBYTES:=zh hbytes
 have HBL:=zh hbl
 clear hno hyes hcut hread hbytes hbl
 clear hQ hv hs h4 hm
 go_enter Tryz.func44,Tryz.ntmps44
 go_wp2_with fail
 refine(HBL.out _).mono ?_
 rintro e w1 ⟨rfl,hb1⟩
 have HB1:=zh (blN (Below.refl _ _) hb1)
 clear hb1
 go_wp2_with fail
 go_loopw [4,23] (fun t i wr=>∃(k:Nat) (es:List Sp.Entry),k≤4∧i = .int .i64 (k:Int)∧t = .string (ofL (padL (es.flatMap slotL)))∧Hid (allP q10z (ws.take k)=some es)∧Hid (es.length=k)∧Hid (Below w.heap.size w wr)) (fun _ i _=>4-(intOf i).toNat)
 case atStart=>exact⟨0,[],Nat.zero_le _,rfl,rfl,rfl,rfl,HB1⟩
 case round=>
  obtain⟨k,es,hk,rfl,rfl,HP,HLn,HB⟩:=hrel
  by_cases hlt:k<4
  ·have hlt2:(k:Int)<4:=by omega
   obtain⟨b,o,x,rfl,hb,hx,hc⟩:=HF.out k hlt
   rw[List.getElem?_map] at hx
   obtain⟨y,hy,rfl⟩:=Option.map_eq_some_iff.1 hx
   have c0:=(HB.out.cell (p:=⟨b,o+k,none⟩) hb).trans hc
   have hmem:=List.mem_of_getElem? hy
   have hysz:=HS.out y hmem
   have hnoe:=fun(h:q10z y=none)=>HNO.out (q46z hmem h) ⟨#[]⟩
   have htk:=take_step hy
   have hcu:=fun(W:World) (hm:MaxOk W)=>HCUT.out W y hm hysz
   obtain⟨X,hX⟩:=zx (ofL y)
   rw[hX] at c0 hcu
   have q0:(X.toList == [45])=decide (X=ofL [45]):=by
    have h:=list_eq X (ofL [45])
    rw[show(ofL [45]).toList=[45] by rw[Lib.toList_data]; rfl] at h
    exact h
   have q9:(X.toList != [45]) = !decide (X=ofL [45]):=by rw[bne,q0]
   obtain⟨W4,hW4⟩:=zx (wr.alloc (.cells #[.int .i64 0,.string ⟨#[]⟩] 114))
   have HB4:Hid (Below w.heap.size w W4):=by rw[←hW4]; exact bl1 HB.out _
   have HZ4:Hid (W4.heap[wr.heap.size]? = some (.cells #[.int .i64 0,.string ⟨#[]⟩] 114 (0,0))):=by rw[←hW4]; exact heapNew wr _
   by_cases hd:y=[45]
   ·have hdec:decide (X=ofL [45])=true:=decide_eq_true (by rw[←hX,hd])
    rw[hdec] at q0 q9
    clear hdec
    obtain⟨nI,hnI⟩:∃n:Int,0=n:=⟨_,rfl⟩
    obtain⟨NM,hNM⟩:∃n:ByteArray,⟨#[]⟩=n:=⟨_,rfl⟩
    have HE:=zh (entryP_dash hd)
    have HNS:Hid ((⟨#[]⟩:ByteArray).size≤maxLen):=by show(0:Nat)≤_; exact Nat.zero_le _
    rw[hnI,hNM] at HE
    rw[hNM] at HNS
    have HZX:Hid (W4.heap[wr.heap.size]? = some (.cells #[.int .i64 nI,.string NM] 114 (0,0))):=by rw[←hnI,←hNM]; exact HZ4.out
    have HBX:=HB4
    have HTK:=zh htk
    have HNOE:=zh hnoe
    clear hx hc hb hy hmem hysz hnoe htk hcu hX hd hnI hNM HZ4
    go_upto_region 15 with fail
    clear hW4 c0 q0 q9
    by_cases hmay:Sp.Entry.may ⟨nI,NM⟩
    rotate_left
    focus
     have HX:=zh (HNOE.out (HE.out.trans (if_neg hmay)))
     have hput:=fun(W:World) (hm:MaxOk W)=>eput_any W (k:Int) ⟨nI,NM⟩ hm HNS.out
     unfold EPut eV at hput
     rw[if_neg (by omega),if_neg hmay] at hput
     have HPUT:=zh hput
     clear hput
     clear hmay
     have x0:=zc 0 HZX.out
     have x1:=zc 1 HZX.out
     go_wp2_with fail
     refine(HPUT.out _ (HM.out.below HBX.out)).mono ?_
     rintro e w8 ⟨rfl,hb8⟩
     have HB8:=zh (blN HBX.out hb8)
     clear hb8 x0 x1
     go_wp2
     first | exact HX.out _ (bl1 HB8.out _) | (go_ret2; exact HX.out _ (bl1 HB8.out _))
    rotate_left
    focus
     have hput:=fun(W:World) (hm:MaxOk W)=>eput_any W (k:Int) ⟨nI,NM⟩ hm HNS.out
     unfold EPut eV at hput
     rw[if_neg (by omega),if_pos hmay] at hput
     obtain⟨p,hp⟩:=zx (16*k)
     rw[show(k:Int)*16=(p:Int) by omega] at hput
     have hel:=q47z es (q55z HP.out)
     rw[HLn.out,hp] at hel
     have hst:=patch_pad (q:=es.flatMap slotL) (x:=slotL ⟨nI,NM⟩) (by rw[hel,q39z hmay]; omega)
     rw[hel] at hst
     have HP2:Hid (allP q10z (ws.take (k+1))=some (es ++ [⟨nI,NM⟩])):=by
      show _=_
      rw[HTK.out]
      exact q38z HP.out (HE.out.trans (if_pos hmay))
     have HLn2:Hid ((es ++ [(⟨nI,NM⟩:Sp.Entry)]).length=k+1):=by show _=_; rw[List.length_append,HLn.out]; rfl
     have hap:(es ++ [(⟨nI,NM⟩:Sp.Entry)]).flatMap slotL=es.flatMap slotL ++ slotL ⟨nI,NM⟩:=by rw[List.flatMap_append,List.flatMap_cons,List.flatMap_nil,List.append_nil]
     rw[←hap] at hst
     have hts:=padL_size (l:=es.flatMap slotL) (by omega)
     have htd:(ofL (padL (es.flatMap slotL))).data.toList=padL (es.flatMap slotL):=ofL_data _
     obtain⟨S,hS⟩:=zx (ofL (slotL ⟨nI,NM⟩))
     have hSd:S.data.toList=slotL ⟨nI,NM⟩:=by rw[←hS,ofL_data]
     have hS16:S.size=16:=by rw[←hS,ofL_size,q39z hmay]
     rw[hS] at hput
     rw[←hSd] at hst
     obtain⟨T,hT⟩:=zx (ofL (padL (es.flatMap slotL)))
     rw[hT] at hts htd
     have hpt:=fun(W:World) (v:Value) (hv:Pats W v [((p:Int),S)])=>fpatched_any W T v [((p:Int),S)] hv hts (by simp) (by
      intro q hq
      rw[List.mem_singleton] at hq
      subst hq
      exact⟨by simp only; omega,by simp only[hS16]; decide,by simp only[hS16]; decide,by simp only[hS16]; omega⟩)
     have hpe:patchedL T.data.toList [((p:Int),S)]=patchL T.data.toList p S.data.toList:=rfl
     rw[hpe,htd,hst] at hpt
     obtain⟨T2,hT2⟩:=zx (ofL (padL ((es ++ [(⟨nI,NM⟩:Sp.Entry)]).flatMap slotL)))
     rw[hT2] at hpt
     rw[hT]
     have HTT:=zh hT2
     have HPUT:=zh hput
     have HPT:=zh hpt
     clear hput hpt
     clear hmay hel hst hap hts htd hS hSd hS16 hT hT2 hpe
     have x0:=zc 0 HZX.out
     have x1:=zc 1 HZX.out
     go_wp2_with fail
     refine(HPUT.out _ (HM.out.below HBX.out)).mono ?_
     rintro e w8 ⟨rfl,hb8⟩
     have HB8:=zh (blN HBX.out hb8)
     clear hb8 x0 x1
     obtain⟨W9,hW9⟩:=zx (w8.alloc (.cells #[.int .i64 (p:Int),.string S] 99))
     have HB9:Hid (Below w.heap.size w W9):=by rw[←hW9]; exact bl1 HB8.out _
     have hz9:W9.heap[w8.heap.size]? = some (.cells #[.int .i64 (p:Int),.string S] 99 (0,0)):=by rw[←hW9]; exact heapNew w8 _
     have p0:=zc 0 hz9
     have p1:=zc 1 hz9
     clear hz9
     go_wp2_with fail
     refine(HPT.out _ _ (pats_one (heapNew W9 _))).mono ?_
     rintro e w10 ⟨rfl,hb10⟩
     have HB10:=zh (blN (bl1 HB9.out _) hb10)
     clear hb10 p0 p1 hW9
     go_wp2
     go_roundw
     case rel=>exact⟨k+1,es ++ [⟨nI,NM⟩],by omega,by go_num,by rw[HTT.out],HP2,HLn2,HB10⟩
     case measure=>simp[intOf]; omega
   ·have hdec:decide (X=ofL [45])=false:=decide_eq_false (fun h=>hd (ofL_inj (hX.trans h)))
    rw[hdec] at q0 q9
    have hsz:=cutL_sizes y 58
    have l1:=entryP_no1 hd
    have l2:=entryP_no2 hd
    have l3:=entryP_no3 hd
    have l4:=fun(n:Nat) (l:List UInt8)=>entryP_yes (n:=n) (l:=l) hd
    obtain⟨⟨A,B,bb⟩,hC⟩:∃t,Lib.cut y [58]=t:=⟨_,rfl⟩
    rw[hC] at hcu hsz l1 l2 l3
    simp only[hC] at l4
    dsimp only at hcu hsz l1 l2 l3
    have hrd:=fun W:World=>HREAD.out W A (by omega)
    have hby:=fun W:World=>HBYTES.out W B (by omega)
    obtain⟨SA,hSA⟩:=zx (ofL A)
    obtain⟨SB,hSB⟩:=zx (ofL B)
    rw[hSA] at hcu hrd
    rw[hSB] at hcu hby
    obtain⟨nI,hnI⟩:∃n:Int,(((numP A).getD 0:Nat):Int)=n:=⟨_,rfl⟩
    obtain⟨b1,hb1⟩:=zx ((numP A).isSome)
    obtain⟨NM,hNM⟩:=zx (ofL ((q4z B).getD []))
    obtain⟨b2,hb2⟩:=zx ((q4z B).isSome)
    simp only[hnI,hb1] at hrd
    simp only[hNM,hb2] at hby
    have HNS:Hid (NM.size≤maxLen):=by
     show NM.size≤_
     rw[←hNM,ofL_size]
     cases hu:q4z B with
     | none=>show(0:Nat)≤_; exact Nat.zero_le _
     | some l=>have:=q51z B l hu; show l.length≤_; unfold maxLen; omega
    have HN1:Hid (b1=false→q10z y=none):=by
     intro h
     refine l2 ?_
     cases hu:numP A with
     | none=>rfl
     | some n=>rw[hu] at hb1; rw[←hb1] at h; cases h
    have HN2:Hid (b2=false→q10z y=none):=by
     intro h
     refine l3 ?_
     cases hu:q4z B with
     | none=>rfl
     | some n=>rw[hu] at hb2; rw[←hb2] at h; cases h
    have HE0:Hid (bb=true→b1=true→b2=true→q10z y=if Sp.Entry.may ⟨nI,NM⟩ then some ⟨nI,NM⟩ else none):=by
     intro h0 h1 h2
     cases hu:numP A with
     | none=>rw[hu] at hb1; rw[←hb1] at h1; cases h1
     | some n=>
       cases hw:q4z B with
       | none=>rw[hw] at hb2; rw[←hb2] at h2; cases h2
       | some l=>
         have h3:=l4 n l h0 hu hw
         rw[hu] at hnI
         rw[hw] at hNM
         rw[←hnI,←hNM]
         exact h3
    have HTK:=zh htk
    have HNOE:=zh hnoe
    have HCU:=zh hcu
    have HRD:=zh hrd
    have HBY:=zh hby
    have L1:=zh l1
    clear hcu hrd hby l1
    clear hx hc hb hy hmem hysz hnoe htk hX hd hdec hC hsz hSA hSB hnI hb1 hNM hb2 l2 l3 l4
    go_wp2_with fail
    clear hW4 c0 q0 q9
    refine(HCU.out _ (HM.out.below HB4.out)).mono ?_
    rintro e w5 ⟨rfl,hb5⟩
    have HB5:=zh (blN HB4.out hb5)
    have HZ5:=zh (heapOld hb5 HZ4.out)
    clear hb5 HZ4 HB4
    go_wp2_with fail
    refine(HRD.out _).mono ?_
    rintro e w6 ⟨rfl,hb6⟩
    have HB6:=zh (blN HB5.out hb6)
    have HZ6:=zh (heapOld hb6 HZ5.out)
    clear hb6 HZ5 HB5
    go_wp2_with fail
    refine(HBY.out _).mono ?_
    rintro e w7 ⟨rfl,hb7⟩
    have HB7:=zh (blN HB6.out hb7)
    have HZ7:=zh (heapOld hb7 HZ6.out)
    clear hb7 HZ6 HB6
    cases bb with
    | false=>
      have HX:=zh (HNOE.out (L1.out rfl))
      go_wp2
      first | exact HX.out _ HB7.out | (go_ret2; exact HX.out _ HB7.out)
    | true=>
      cases b1 with
      | false=>
        have HX:=zh (HNOE.out (HN1.out rfl))
        go_wp2
        first | exact HX.out _ HB7.out | (go_ret2; exact HX.out _ HB7.out)
      | true=>
        cases b2 with
        | false=>
          have HX:=zh (HNOE.out (HN2.out rfl))
          go_wp2
          first | exact HX.out _ HB7.out | (go_ret2; exact HX.out _ HB7.out)
        | true=>
          have HE:=zh (HE0.out rfl rfl rfl)
          clear HE0 HN1 HN2 L1
          have x0:=zc 0 HZ7.out
          have x1:=zc 1 HZ7.out
          have v0:w7.frozen? ⟨wr.heap.size,0,none⟩=false:=freeOf HZ7.out
          have v1:w7.frozen? ⟨wr.heap.size,1,none⟩=false:=freeOf HZ7.out
          have hz8:=setHeap_at (k:=1) (setHeap_at (k:=0) HZ7.out (.int .i64 nI)) (.string NM)
          have hb8:=(HB7.out.setCell (p:=⟨wr.heap.size,0,none⟩) HB.out.size (.int .i64 nI)).setCell (p:=⟨wr.heap.size,1,none⟩) HB.out.size (.string NM)
          obtain⟨W8,hW8⟩:=zx ((w7.setCell ⟨wr.heap.size,0,none⟩ (.int .i64 nI)).setCell ⟨wr.heap.size,1,none⟩ (.string NM))
          rw[hW8] at hz8 hb8
          have HZX:Hid (W8.heap[wr.heap.size]? = some (.cells #[.int .i64 nI,.string NM] 114 (0,0))):=hz8
          have HBX:=zh hb8
          clear hz8 hb8 HZ7 HB7
          go_upto_region 15 with fail
          clear hW8 x0 x1 v0 v1
          by_cases hmay:Sp.Entry.may ⟨nI,NM⟩
          rotate_left
          focus
           have HX:=zh (HNOE.out (HE.out.trans (if_neg hmay)))
           have hput:=fun(W:World) (hm:MaxOk W)=>eput_any W (k:Int) ⟨nI,NM⟩ hm HNS.out
           unfold EPut eV at hput
           rw[if_neg (by omega),if_neg hmay] at hput
           have HPUT:=zh hput
           clear hput
           clear hmay
           have x0:=zc 0 HZX.out
           have x1:=zc 1 HZX.out
           go_wp2_with fail
           refine(HPUT.out _ (HM.out.below HBX.out)).mono ?_
           rintro e w8 ⟨rfl,hb8⟩
           have HB8:=zh (blN HBX.out hb8)
           clear hb8 x0 x1
           go_wp2
           first | exact HX.out _ (bl1 HB8.out _) | (go_ret2; exact HX.out _ (bl1 HB8.out _))
          rotate_left
          focus
           have hput:=fun(W:World) (hm:MaxOk W)=>eput_any W (k:Int) ⟨nI,NM⟩ hm HNS.out
           unfold EPut eV at hput
           rw[if_neg (by omega),if_pos hmay] at hput
           obtain⟨p,hp⟩:=zx (16*k)
           rw[show(k:Int)*16=(p:Int) by omega] at hput
           have hel:=q47z es (q55z HP.out)
           rw[HLn.out,hp] at hel
           have hst:=patch_pad (q:=es.flatMap slotL) (x:=slotL ⟨nI,NM⟩) (by rw[hel,q39z hmay]; omega)
           rw[hel] at hst
           have HP2:Hid (allP q10z (ws.take (k+1))=some (es ++ [⟨nI,NM⟩])):=by
            show _=_
            rw[HTK.out]
            exact q38z HP.out (HE.out.trans (if_pos hmay))
           have HLn2:Hid ((es ++ [(⟨nI,NM⟩:Sp.Entry)]).length=k+1):=by show _=_; rw[List.length_append,HLn.out]; rfl
           have hap:(es ++ [(⟨nI,NM⟩:Sp.Entry)]).flatMap slotL=es.flatMap slotL ++ slotL ⟨nI,NM⟩:=by rw[List.flatMap_append,List.flatMap_cons,List.flatMap_nil,List.append_nil]
           rw[←hap] at hst
           have hts:=padL_size (l:=es.flatMap slotL) (by omega)
           have htd:(ofL (padL (es.flatMap slotL))).data.toList=padL (es.flatMap slotL):=ofL_data _
           obtain⟨S,hS⟩:=zx (ofL (slotL ⟨nI,NM⟩))
           have hSd:S.data.toList=slotL ⟨nI,NM⟩:=by rw[←hS,ofL_data]
           have hS16:S.size=16:=by rw[←hS,ofL_size,q39z hmay]
           rw[hS] at hput
           rw[←hSd] at hst
           obtain⟨T,hT⟩:=zx (ofL (padL (es.flatMap slotL)))
           rw[hT] at hts htd
           have hpt:=fun(W:World) (v:Value) (hv:Pats W v [((p:Int),S)])=>fpatched_any W T v [((p:Int),S)] hv hts (by simp) (by
            intro q hq
            rw[List.mem_singleton] at hq
            subst hq
            exact⟨by simp only; omega,by simp only[hS16]; decide,by simp only[hS16]; decide,by simp only[hS16]; omega⟩)
           have hpe:patchedL T.data.toList [((p:Int),S)]=patchL T.data.toList p S.data.toList:=rfl
           rw[hpe,htd,hst] at hpt
           obtain⟨T2,hT2⟩:=zx (ofL (padL ((es ++ [(⟨nI,NM⟩:Sp.Entry)]).flatMap slotL)))
           rw[hT2] at hpt
           rw[hT]
           have HTT:=zh hT2
           have HPUT:=zh hput
           have HPT:=zh hpt
           clear hput hpt
           clear hmay hel hst hap hts htd hS hSd hS16 hT hT2 hpe
           have x0:=zc 0 HZX.out
           have x1:=zc 1 HZX.out
           go_wp2_with fail
           refine(HPUT.out _ (HM.out.below HBX.out)).mono ?_
           rintro e w8 ⟨rfl,hb8⟩
           have HB8:=zh (blN HBX.out hb8)
           clear hb8 x0 x1
           obtain⟨W9,hW9⟩:=zx (w8.alloc (.cells #[.int .i64 (p:Int),.string S] 99))
           have HB9:Hid (Below w.heap.size w W9):=by rw[←hW9]; exact bl1 HB8.out _
           have hz9:W9.heap[w8.heap.size]? = some (.cells #[.int .i64 (p:Int),.string S] 99 (0,0)):=by rw[←hW9]; exact heapNew w8 _
           have p0:=zc 0 hz9
           have p1:=zc 1 hz9
           clear hz9
           go_wp2_with fail
           refine(HPT.out _ _ (pats_one (heapNew W9 _))).mono ?_
           rintro e w10 ⟨rfl,hb10⟩
           have HB10:=zh (blN (bl1 HB9.out _) hb10)
           clear hb10 p0 p1 hW9
           go_wp2
           go_roundw
           case rel=>exact⟨k+1,es ++ [⟨nI,NM⟩],by omega,by go_num,by rw[HTT.out],HP2,HLn2,HB10⟩
           case measure=>simp[intOf]; omega
  ·obtain rfl:k=4:=by omega
   have htk:ws.take 4=ws:=List.take_of_length_le (by rw[H4.out]; exact Nat.le_refl _)
   have hp:=HP.out
   rw[htk] at hp
   have HX:=zh (HYES.out es hp)
   have hlt2:¬(4:Int)<4:=by omega
   clear hp htk
   obtain⟨T,hT⟩:=zx (ofL (padL (es.flatMap slotL)))
   rw[hT] at HX ⊢
   clear hT
   go_wp2
   first | exact HX.out _ HB.out | (go_ret2; exact HX.out _ HB.out)
end
