import Derived.Test.YtmljdnlmpiklgaaGreatDoorRefUnhex
import Derived.Test.YtmljdnlmpiklgaaGreatDoorRefUnlease
namespace Go.Proofs.YtmljdnlmpiklgaaGreatDoor
open Go Go.RowKit Txt Sp
theorem entryP_len {y:List UInt8} (hw:y≠[45]) (h:(cutAt 58 y).length≠2):q10z y=none:=by
 unfold q10z
 rw[if_neg hw]
 generalize cutAt 58 y=l at h
 match l,h with
 | [],_=>rfl
 | [_],_=>rfl
 | _ :: _ :: _ :: _,_=>rfl
theorem entryP_cut2 {y a b:List UInt8} (hw:y≠[45]) (h:cutAt 58 y=[a,b]):q10z y=match numP a,q4z b with
 | some n,some t=>if Sp.Entry.may ⟨(n:Int),ofL t⟩ then some ⟨(n:Int),ofL t⟩ else none
 | _,_=>none:=by
 unfold q10z
 rw[if_neg hw,h]
 rfl
def UnRel (w:World) (b:Nat) (y:List UInt8) (wx:World):Prop:=∃(n:Int) (t:ByteArray),wx.heap[b]? = some (.cells #[.int .i64 n,.string t] 114 (0,0))∧Below w.heap.size w wx ∧
 (q10z y=if Sp.Entry.may ⟨n,t⟩ then some ⟨n,t⟩ else none)∧t.size≤maxLen
section
set_option maxHeartbeats 16000000
set_option maxRecDepth 20000 in
theorem rundir_any (w:World) (v:Value) (ws:List (List UInt8)) (hv:Texts w v (ws.map ofL)) (hs:∀x∈ws,x.length≤4000000) (hl:ws.length≤4000001) :
 Calls Tryz.prog 55 #[v] w (q1z (q27z ws) w):=by
 obtain⟨ad,n,cap,rfl,HN,hn2,HF⟩:=texts_facts hv
 have hn:n=ws.length:=by have:=HN.out; rw[List.length_map] at this; exact this
 have hno:=fun(h:allP q10z ws=none) (T:ByteArray) (w':World) (hb:Below w.heap.size w w')=>rd_no (w:=w) (undirP_none h) T hb
 have hno4:=fun(h:ws.length≠4) (T:ByteArray) (w':World) (hb:Below w.heap.size w w')=>rd_no (w:=w) (undirP_len h) T hb
 have hyes:=fun(h4:ws.length=4) (l:List Sp.Entry) (h:allP q10z ws=some l) (w':World) (hb:Below w.heap.size w w')=>q37z (w:=w) (undirP_some h4 h) hb
 obtain⟨Q,hQ⟩:=zx (q1z (q27z ws) w)
 rw[hQ] at hno hno4 hyes ⊢
 have hcut:=fun(W:World) (y:List UInt8) (hy:y.length≤4000000)=>show Calls Tryz.prog 20 #[.string (ofL y),.int .u8 58] W _ from rcut_any W (ofL y) 58 (by rw[ofL_size]; exact hy)
 have hread:=fun(W:World) (x:List UInt8) (hx:x.length≤4000000)=>rnum31_any W (ofL x) (by rw[ofL_size]; omega)
 have hbytes:=fun(W:World) (x:List UInt8) (hx:x.length≤4000000)=>runhex_any W (ofL x) (by rw[ofL_size]; omega)
 simp only[ofL_data] at hread hbytes
 unfold q25z at hbytes
 have HS:=zh hs
 have HNN:=zh hn
 have hl4:n≤4000001:=by omega
 have HNO:=zh hno
 have HNO4:=zh hno4
 have HYES:=zh hyes
 have HCUT:=zh hcut
 have HREAD:=zh hread
 have HBYTES:=zh hbytes
 clear hno hno4 hyes hcut hread hbytes
 clear hQ hv hs hl hn
 go_enter Tryz.func55,Tryz.ntmps55
 go_wp2_with fail
 go_loopw [4,5,6,7,8,9,10,11] (fun t i _ _ _ _ _ _ wr=>∃(k:Nat) (es:List Sp.Entry),k≤n∧i = .int .i64 (k:Int)∧t = .string (ofL (es.flatMap slotL))∧Hid (allP q10z (ws.take k)=some es)∧Hid (es.length=k)∧Hid (Below w.heap.size w wr)) (fun _ i _ _ _ _ _ _ _=>n-(intOf i).toNat)
 case atStart=>exact⟨0,[],Nat.zero_le _,rfl,rfl,rfl,rfl,Below.refl _ _⟩
 case round=>
  obtain⟨k,es,hk,rfl,rfl,HP,HLn,HB⟩:=hrel
  by_cases hlt:k<n
  ·obtain⟨b,o,x,rfl,hb,hx,hc⟩:=HF.out k hlt
   rw[List.getElem?_map] at hx
   obtain⟨y,hy,rfl⟩:=Option.map_eq_some_iff.1 hx
   have HC0:Hid (∀W,Below wr.heap.size wr W→W.cell? ⟨b,o+k,none⟩=some (.string (ofL y))):=fun W hW=>((blN HB.out hW).cell (p:=⟨b,o+k,none⟩) hb).trans hc
   have hmem:=List.mem_of_getElem? hy
   have hysz:=HS.out y hmem
   have hnoe:=fun(h:q10z y=none)=>HNO.out (q46z hmem h)
   have htk:=take_step hy
   have hcu:=fun(W:World)=>HCUT.out W y hysz
   obtain⟨X,hX⟩:=zx (ofL y)
   rw[hX] at HC0
   simp only[hX] at hcu
   obtain⟨nd,hnd⟩:=zx ((!decide (y=[45])))
   have q9:(!(X.toList == [45]))=nd:=by rw[←hnd,←hX,q20z y [45]]
   obtain⟨W4,hW4⟩:=zx (wr.alloc (.cells #[.int .i64 0,.string ⟨#[]⟩] 114))
   have HBW:Hid (Below wr.heap.size wr W4):=by rw[←hW4]; exact bl2 _
   have c0:=HC0.out W4 HBW.out
   have HZ4:Hid (W4.heap[wr.heap.size]? = some (.cells #[.int .i64 0,.string ⟨#[]⟩] 114 (0,0))):=by rw[←hW4]; exact heapNew wr _
   have HX4:=zh hX
   have HTK:=zh htk
   have HNOE:=zh hnoe
   have HCU:=zh hcu
   clear hcu
   clear hx hc hb hy hmem htk hnoe
   go_upto_region 6 with fail
   first | rw[hW4] | skip
   go_cut [22] (fun v wx=>v = .bool nd∧W4=wx)
   case first=>
    go_wp2
    go_meet
    case rel=>exact⟨by first | rfl | exact congrArg Value.bool q9,rfl⟩
   case rest=>
   obtain⟨rfl,rfl⟩:=hcut
   clear q9 c0
   go_upto_if 22 with fail
   go_cut [7,8,9] (fun _ _ _ wx=>UnRel wr wr.heap.size y wx)
   case first=>
    have c0:=HC0.out W4 HBW.out
    by_cases hd:y=[45]
    ·obtain rfl:nd=false:=by rw[←hnd,decide_eq_true hd]; rfl
     have HR:Hid (UnRel wr wr.heap.size y W4):=⟨0,⟨#[]⟩,HZ4.out,HBW.out,entryP_dash hd,Nat.zero_le _⟩
     clear hd hX hysz
     go_wp2
     go_meet
     case rel=>exact HR.out
    obtain rfl:nd=true:=by rw[←hnd,decide_eq_false hd]; rfl
    have hCl:=cutAt_count 58 y
    have hpm:=fun z (h:z∈cutAt 58 y)=>(q29z (c0:=58) h).2
    have hlen:=entryP_len hd
    have htwo:=fun a b=>entryP_cut2 (a:=a) (b:=b) hd
    have hct:q14z 58 X=(cutAt 58 y).map ofL:=by unfold q14z; rw[←hX,ofL_data]
    rw[hct] at HCU
    obtain⟨C,hC⟩:=zx (cutAt 58 y)
    rw[hC] at HCU hCl hpm hlen htwo
    have HBWr:Hid (Below w.heap.size w W4):=blN HB.out HBW.out
    clear hct hC hd hX
    go_wp2_with fail
    refine(HCU.out _).mono ?_
    rintro e w5 ⟨cv,rfl,ht5,hb5⟩
    have HB5:=zh (blN HBW.out hb5)
    have HZ5:=zh (heapOld hb5 HZ4.out)
    clear hb5 c0
    by_cases h2:C.length=2
    rotate_left
    ·have HX:=zh (HNOE.out (hlen h2) ⟨#[]⟩)
     obtain⟨ad5,n5,cap5,rfl,HN5,hn5,HF5⟩:=texts_facts ht5
     have hn5:n5≠2:=by rw[HN5.out,List.length_map]; exact h2
     have g1:((n5:Int) != 2)=true:=bne_iff_ne.2 (by omega)
     have g2:((n5:Int) == 2)=false:=beq_eq_false_iff_ne.2 (by omega)
     clear ht5 hn5 h2 hCl hpm hlen htwo HN5 HF5
     go_wp2
     first | exact HX.out _ (blN HB.out HB5.out) | (go_ret2; exact HX.out _ (blN HB.out HB5.out))
    obtain⟨pa,pb,rfl⟩:=two_of h2
    have hE:=htwo pa pb rfl
    have hpa:=hpm pa (by simp)
    have hpb:=hpm pb (by simp)
    have hrd:=fun W:World=>HREAD.out W pa (by omega)
    have hby:=fun W:World=>HBYTES.out W pb (by omega)
    obtain⟨b5,o5,cap5,hcv,h51,h52,hb5,hc5⟩:=ht5.open_ne (by simp)
    have hcv2:cv = .slice (some ⟨b5,o5,none⟩) 2 cap5:=hcv
    subst hcv2
    have d0:w5.cell? ⟨b5,o5,none⟩=some (.string (ofL pa)):=hc5 0 _ rfl
    have d1:w5.cell? ⟨b5,o5+1,none⟩=some (.string (ofL pb)):=hc5 1 _ rfl
    have HD0:Hid (∀W,Below w5.heap.size w5 W→W.cell? ⟨b5,o5,none⟩=some (.string (ofL pa))):=fun W hW=>(hW.cell (p:=⟨b5,o5,none⟩) hb5).trans d0
    have hpb4:pb.length≤4000000:=by omega
    obtain⟨SA,hSA⟩:=zx (ofL pa)
    obtain⟨SB,hSB⟩:=zx (ofL pb)
    rw[hSA] at HD0
    simp only[hSA] at hrd d0
    simp only[hSB] at hby d1
    have HRD:=zh hrd
    have HBY:=zh hby
    clear hrd hby
    clear h2 hCl hpm hlen htwo hpa hcv ht5 hb5 hc5 hSA hSB d0
    go_wp2_with fail
    refine(HBY.out _).mono ?_
    rintro e w6 ⟨rfl,hb6⟩
    have HB6:=zh (blN HB5.out hb6)
    have HZ6:=zh (heapOld hb6 HZ5.out)
    have d0:=HD0.out w6 hb6
    clear hb6 d1
    cases hu:q4z pb with
    | none=>
      have HX:=zh (HNOE.out (by rw[hE,hu]; cases numP pa <;> rfl) ⟨#[]⟩)
      clear hE hu
      go_wp2
      first | exact HX.out _ (blN HB.out HB6.out) | (go_ret2; exact HX.out _ (blN HB.out HB6.out))
    | some t=>
    have htl:=q51z pb t hu
    cases hm:numP pa with
    | none=>
      have HX:=zh (HNOE.out (by rw[hE,hm]) ⟨#[]⟩)
      have HRD2:Hid (∀W:World,Calls Tryz.prog 100 #[.string SA] W fun e w'=>e = .returned (.int .i64 (-1))∧w' = W):=by
       have h:=HRD.out
       rw[numR_none hm] at h
       exact h
      clear hE hu hm HRD
      go_wp2_with fail
      refine(HRD2.out _).mono ?_
      rintro e w7 ⟨rfl,rfl⟩
      go_wp2
      first | exact HX.out _ (blN HB.out HB6.out) | (go_ret2; exact HX.out _ (blN HB.out HB6.out))
    | some m=>
    have HRD2:Hid (∀W:World,Calls Tryz.prog 100 #[.string SA] W fun e w'=>e = .returned (.int .i64 (m:Int))∧w' = W):=by
     have h:=HRD.out
     rw[numR_some hm] at h
     exact h
    rw[hm,hu] at hE
    dsimp only at hE
    have g1:decide ((m:Int)<0)=false:=decide_eq_false (by omega)
    have htz:(ofL t).size≤maxLen:=by rw[ofL_size]; unfold maxLen; omega
    obtain⟨T,hT⟩:=zx (ofL t)
    have hT2:ofL ((some t).getD [])=T:=hT
    rw[hT] at hE htz
    rw[hT2]
    have hs1:=setHeap_at (k:=0) HZ6.out (.int .i64 (m:Int))
    have hs2:=setHeap_at (k:=1) hs1 (.string T)
    have x0:=zc 0 HZ6.out
    have x1:=zc 1 HZ6.out
    have v0:w6.frozen? ⟨wr.heap.size,0,none⟩=false:=freeOf HZ6.out
    have v1:w6.frozen? ⟨wr.heap.size,1,none⟩=false:=freeOf HZ6.out
    have hbE:=(HB6.out.setCell (p:=⟨wr.heap.size,0,none⟩) (Nat.le_refl _) (.int .i64 (m:Int))).setCell (p:=⟨wr.heap.size,1,none⟩) (Nat.le_refl _) (.string T)
    have HR:Hid (UnRel wr wr.heap.size y ((w6.setCell ⟨wr.heap.size,0,none⟩ (.int .i64 (m:Int))).setCell ⟨wr.heap.size,1,none⟩ (.string T))):=⟨(m:Int),T,hs2,hbE,hE,htz⟩
    clear hE hu hm HRD htl hT hT2 hs1 hs2 hbE htz
    go_wp2_with fail
    refine(HRD2.out _).mono ?_
    rintro e w7 ⟨rfl,rfl⟩
    go_wp2_with fail
    refine(HRD2.out _).mono ?_
    rintro e w7 ⟨rfl,rfl⟩
    go_wp2
    go_meet
    case rel=>exact HR.out
   case rest=>
   obtain⟨nI,NM,hz,hbx,hE,hNS⟩:=hcut
   have HBX:Hid (Below w.heap.size w wc):=blN HB.out hbx
   have x0:=zc 0 hz
   have x1:=zc 1 hz
   have t1:(k:Int).tmod 4=((k % 4:Nat):Int):=by rw[Int.tmod_eq_emod_of_nonneg (by omega)]; omega
   have t2:(k:Int) % 4=((k % 4:Nat):Int):=by omega
   have t3:IntKind.i64.wrap ((k % 4:Nat):Int)=((k % 4:Nat):Int):=IntWalk.i64_in _ (by omega)
   have hput:=fun W:World=>reput_any W ((k % 4:Nat):Int) ⟨nI,NM⟩ hNS
   unfold EPut eV at hput
   rw[if_neg (by omega)] at hput
   clear HC0 HBW HZ4 HX4 hz hbx HCU hX hysz hnd
   obtain⟨r,hr⟩:=zx (k % 4)
   rw[hr] at t1 t2 t3 hput
   by_cases hmay:Sp.Entry.may ⟨nI,NM⟩
   rotate_left
   ·have HX:=zh (HNOE.out (hE.trans (if_neg hmay)) ⟨#[]⟩)
    rw[if_neg hmay] at hput
    have HPUT:=zh hput
    clear hput
    clear hE hmay hNS hr
    go_wp2_with fail
    refine(HPUT.out _).mono ?_
    rintro e w8 ⟨rfl,hb8⟩
    have HB8:=zh (blN HBX.out hb8)
    clear hb8 x0 x1
    go_wp2
    first | exact HX.out _ (bl1 HB8.out _) | (go_ret2; exact HX.out _ (bl1 HB8.out _))
   rw[if_pos hmay] at hput
   have HP2:Hid (allP q10z (ws.take (k+1))=some (es ++ [⟨nI,NM⟩])):=by
    show _=_
    rw[HTK.out]
    exact q38z HP.out (hE.trans (if_pos hmay))
   have HLn2:Hid ((es ++ [(⟨nI,NM⟩:Sp.Entry)]).length=k+1):=by show _=_; rw[List.length_append,HLn.out]; rfl
   have hap:(es ++ [(⟨nI,NM⟩:Sp.Entry)]).flatMap slotL=es.flatMap slotL ++ slotL ⟨nI,NM⟩:=by rw[List.flatMap_append,List.flatMap_cons,List.flatMap_nil,List.append_nil]
   have hel:=q47z es (q55z HP.out)
   rw[HLn.out] at hel
   have hcat:=text_cat (es.flatMap slotL) (slotL ⟨nI,NM⟩)
   rw[←hap] at hcat
   have s1:(ofL (es.flatMap slotL)).size=16*k:=by rw[ofL_size,hel]
   have s2:(ofL (slotL ⟨nI,NM⟩)).size=16:=by rw[ofL_size,q39z hmay]
   obtain⟨S,hS⟩:=zx (ofL (slotL ⟨nI,NM⟩))
   obtain⟨A,hA⟩:=zx (ofL (es.flatMap slotL))
   obtain⟨C,hC⟩:=zx (ofL ((es ++ [(⟨nI,NM⟩:Sp.Entry)]).flatMap slotL))
   rw[hS] at hput hcat s2
   rw[hA] at hcat s1 ⊢
   rw[hC] at hcat
   have HCC:=zh hC
   have hlim:¬9223372036854775807<A.size+S.size:=by omega
   obtain⟨p,hp⟩:∃p:Int,(r:Int)*16=p:=⟨_,rfl⟩
   rw[hp] at hput
   have HPUT:=zh hput
   clear hput
   clear hE hmay hNS hr hap hel s1 s2 hS hA hC hp
   go_wp2_with fail
   refine(HPUT.out _).mono ?_
   rintro e w8 ⟨rfl,hb8⟩
   have HB8:=zh (blN HBX.out hb8)
   clear hb8 x0 x1
   obtain⟨W9,hW9⟩:=zx (w8.alloc (.cells #[.int .i64 p,.string S] 99))
   have HB9:Hid (Below w.heap.size w W9):=by rw[←hW9]; exact bl1 HB8.out _
   have hz9:W9.heap[w8.heap.size]? = some (.cells #[.int .i64 p,.string S] 99 (0,0)):=by rw[←hW9]; exact heapNew w8 _
   have p0:=zc 0 hz9
   have p1:=zc 1 hz9
   clear hz9
   go_wp2
   go_roundw
   case rel=>exact⟨k+1,es ++ [⟨nI,NM⟩],by omega,by go_num,by rw[HCC.out],HP2,HLn2,HB9⟩
   case measure=>simp[intOf]; omega
  ·have hkn:k=n:=by omega
   have htk:ws.take k=ws:=List.take_of_length_le (by rw[hkn,HNN.out]; exact Nat.le_refl _)
   have hp:=HP.out
   rw[htk] at hp
   have hel:=q47z es (q55z hp)
   by_cases h4:n=4
   ·have hy:=HYES.out (by rw[←HNN.out]; exact h4) es hp
    have hpd:padL (es.flatMap slotL)=es.flatMap slotL:=padL_full (by rw[hel,HLn.out,hkn,h4])
    rw[hpd] at hy
    have HX:=zh hy
    subst h4
    clear htk hp hel hy hpd hkn
    go_wp2
    first | exact HX.out _ HB.out | (go_ret2; exact HX.out _ HB.out)
   ·have HX:=zh (HNO4.out (by rw[←HNN.out]; exact h4))
    have g1:((n:Int) == 4)=false:=beq_eq_false_iff_ne.2 (by omega)
    have g2:(n == 4)=false:=beq_eq_false_iff_ne.2 h4
    clear htk hp hel hkn h4
    go_wp2
    first | exact HX.out _ _ HB.out | (go_ret2; exact HX.out _ _ HB.out)
end
