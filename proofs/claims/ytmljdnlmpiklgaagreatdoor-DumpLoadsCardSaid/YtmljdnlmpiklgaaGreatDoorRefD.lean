import Derived.Test.YtmljdnlmpiklgaaGreatDoorRefB
import Derived.Test.YtmljdnlmpiklgaaGreatDoorInodeDec
set_option maxRecDepth 20000
set_option maxHeartbeats 8000000
namespace Go.Proofs.YtmljdnlmpiklgaaGreatDoor
open Go Go.RowKit Txt Sp
section
theorem remay_any (w:World) (x:Sp.Entry) (hs:x.name.size≤maxLen):Calls Tryz.prog 146 #[eV x] w fun e w'=>e = .returned (.bool (decide x.may))∧Below w.heap.size w w':=by
 obtain⟨n,s⟩:=x
 unfold eV
 simp only at hs ⊢
 by_cases h0:n=0
 ·subst h0
  have q:=list_eq s ⟨#[]⟩
  have hd:decide (Sp.Entry.may ⟨0,s⟩)=decide (s=⟨#[]⟩):=decide_eq_decide.2 ⟨fun h=>by
   rcases h with ⟨_,h⟩ | ⟨h,_⟩
   ·exact ByteArray.ext (Array.eq_empty_of_size_eq_zero h)
   ·simp only at h; omega,fun h=>Or.inl ⟨rfl,by rw[h]; rfl⟩⟩
  rw[hd]
  have f:s.toList.isEmpty=decide (s=⟨#[]⟩):=by
   rw[←q,show(⟨#[]⟩:ByteArray).toList=[] by rw[Lib.toList_data]]
   cases s.toList <;> rfl
  obtain⟨d,hdd⟩:=zx (decide (s=⟨#[]⟩))
  rw[hdd] at f ⊢
  clear q hd hdd hs
  go_enter Tryz.func146,Tryz.ntmps146
  go_wp2
  go_ret
  exact⟨rfl,bl2 _⟩
 have f0:(n == 0)=false:=beq_eq_false_iff_ne.2 h0
 by_cases h1:1≤n
 rotate_left
 ·have hd:decide (Sp.Entry.may ⟨n,s⟩)=false:=decide_eq_false (fun h=>by
   rcases h with ⟨h,_⟩ | ⟨h,_⟩
   ·exact h0 h
   ·exact h1 h)
  rw[hd]
  clear hd hs h0
  go_enter Tryz.func146,Tryz.ntmps146
  go_wp2
  go_ret
  exact⟨rfl,bl2 _⟩
 by_cases h2:n≤65535
 rotate_left
 ·have hd:decide (Sp.Entry.may ⟨n,s⟩)=false:=decide_eq_false (fun h=>by
   rcases h with ⟨h,_⟩ | ⟨_,h,_⟩
   ·exact h0 h
   ·exact h2 h)
  rw[hd]
  clear hd hs h0
  go_enter Tryz.func146,Tryz.ntmps146
  go_wp2
  go_ret
  exact⟨rfl,bl2 _⟩
 have hd:decide (Sp.Entry.may ⟨n,s⟩)=nameB s:=by
  apply Bool.eq_iff_iff.2
  rw[decide_eq_true_iff]
  constructor
  ·rintro(⟨h,_⟩ | ⟨_,_,h⟩)
   ·exact absurd h h0
   ·exact h
  ·intro h
   exact Or.inr ⟨h1,h2,h⟩
 rw[hd]
 have hn:=fun W:World=>refName_any s W hs
 obtain⟨b,hb⟩:=zx (nameB s)
 rw[hb] at hn ⊢
 have HN:=zh hn
 clear hn
 clear hd hb hs h0
 go_enter Tryz.func146,Tryz.ntmps146
 go_wp2_with fail
 refine(HN.out _).mono ?_
 rintro e w1 ⟨rfl,rfl⟩
 go_wp2
 go_ret
 exact⟨rfl,bl2 _⟩
end
section
theorem retext_any (w:World) (n:Nat) (s:ByteArray) (hs:s.size≤13):Calls Tryz.prog 147 #[.agg #[.int .i64 (n:Int),.string s]] w fun e w'=>e = .returned (.string (ofL (slotL ⟨(n:Int),s⟩)))∧Below w.heap.size w w':=by
 have ht:=fun W:World=>rtext_any W n 2 (by decide)
 have hsl:slotL ⟨(n:Int),s⟩=textL 2 n ++ [UInt8.ofNat s.size] ++ s.data.toList ++ zeros (16-(3+s.size)):=rfl
 rw[hsl]
 have hc1:=text_cat (textL 2 n) [UInt8.ofNat s.size]
 have hc2:=text_cat (textL 2 n ++ [UInt8.ofNat s.size]) s.data.toList
 rw[data_ofL] at hc2
 obtain⟨m,hm⟩:=zx (16-(3+s.size))
 rw[hm]
 have hc3:=text_cat (textL 2 n ++ [UInt8.ofNat s.size] ++ s.data.toList) (zeros m)
 have hdl:s.data.toList.length=s.size:=Array.length_toList
 have s1:(ofL (textL 2 n)).size=2:=by rw[ofL_size,textL_length]
 have s2:(ofL [UInt8.ofNat s.size]).size=1:=by rw[ofL_size]; rfl
 have s3:(ofL (textL 2 n ++ [UInt8.ofNat s.size])).size=3:=by rw[ofL_size,List.length_append,textL_length]; rfl
 have s4:(ofL (textL 2 n ++ [UInt8.ofNat s.size] ++ s.data.toList)).size=3+s.size:=by
  rw[ofL_size,List.length_append,List.length_append,textL_length,hdl]
  rfl
 have s5:(ofL (zeros m)).size=m:=by rw[ofL_size,zeros_length]
 obtain⟨c,hcs⟩:∃c:Nat,s.size=c:=⟨_,rfl⟩
 have hcvb:∀W b,W.heap[b]? = some (.cells #[.int .u8 (c:Int)] 5 (0,0))→(convert 36 9 (.slice (some ⟨b,0,none⟩) 1 1)).run Tryz.prog W = .ok (.string (ofL [UInt8.ofNat s.size])) W:=fun W b hb=>by
  exact bytes_text (l:=[UInt8.ofNat s.size]) (src:=36) (dst:=9) Tryz.underlying36 Tryz.underlying5 Tryz.underlying9 hb (fun j hj=>by
   match j,hj with
   | 0,_=>
     show some (Value.int .u8 (c:Int))=some (.int .u8 ((UInt8.ofNat s.size).toNat:Int))
     rw[UInt8.toNat_ofNat',Nat.mod_eq_of_lt (by omega),hcs]) 1
 obtain⟨A,hA⟩:=zx (ofL (textL 2 n))
 obtain⟨B,hB⟩:=zx (ofL [UInt8.ofNat s.size])
 obtain⟨C,hC⟩:=zx (ofL (textL 2 n ++ [UInt8.ofNat s.size]))
 obtain⟨D,hD⟩:=zx (ofL (textL 2 n ++ [UInt8.ofNat s.size] ++ s.data.toList))
 obtain⟨Z,hZ⟩:=zx (ofL (zeros m))
 obtain⟨R,hR⟩:=zx (ofL (textL 2 n ++ [UInt8.ofNat s.size] ++ s.data.toList ++ zeros m))
 rw[hA] at hc1 s1 ht
 rw[hB] at hc1 s2 hcvb
 rw[hC] at hc1 hc2 s3
 rw[hD] at hc2 hc3 s4
 rw[hZ] at hc3 s5
 rw[hR] at hc3 ⊢
 have HCB:=zh hcvb
 have HCV:Hid (∀W:World,(convert 36 9 (.slice (some ⟨W.heap.size,0,none⟩) 1 1)).run Tryz.prog (W.alloc (.cells #[.int .u8 (c:Int)] 5)) = .ok (.string B) (W.alloc (.cells #[.int .u8 (c:Int)] 5))):=fun W=>hcvb _ _ (heapNew W _)
 have HZc:Hid (ofL (zeros m)=Z):=hZ
 have HM:Hid (16-(3+c)=m):=by rw[←hcs]; exact hm
 have HD:Hid (D.size=3+c):=by rw[←hcs]; exact s4
 have hl1:¬9223372036854775807<A.size+B.size:=by omega
 have hl2:¬9223372036854775807<C.size+s.size:=by omega
 have hl3:¬9223372036854775807<D.size+Z.size:=by omega
 have m1:IntKind.u8.wrap (s.size:Int)=(c:Int):=by rw[hcs]; exact IntWalk.u8_in _ (by omega)
 obtain⟨x,hx⟩:∃x:Int,(n:Int)=x:=⟨_,rfl⟩
 rw[hx] at ht ⊢
 obtain⟨W0,hW0⟩:=zx (w.alloc (.cells #[.int .i64 x,.string s] 114))
 have hz:W0.heap[w.heap.size]? = some (.cells #[.int .i64 x,.string s] 114 (0,0)):=by rw[←hW0]; exact heapNew w _
 have HB0:Hid (Below w.heap.size w W0):=by rw[←hW0]; exact bl2 _
 have HK:Hid (∀W,Below W0.heap.size W0 W→W.cell? ⟨w.heap.size,0,none⟩=some (.int .i64 x)∧W.cell? ⟨w.heap.size,1,none⟩=some (.string s)):=fun W hW=>⟨cellOf (heapOld hW hz) rfl,cellOf (heapOld hW hz) rfl⟩
 have HS:=zh hs
 have HCS:=zh hcs
 have HT:=zh ht
 clear ht
 clear hA hB hC hD hZ hR hz hsl s1 s2 s3 s4 s5 hx hcvb hm hdl hs hcs
 go_enter Tryz.func147,Tryz.ntmps147
 go_wp2_with fail
 obtain⟨ca,cb⟩:=HK.out W0 (Below.refl _ _)
 have hca:=fun o=>(HK.out (W0.alloc o) (bl2 o)).1
 have hcb:=fun o=>(HK.out (W0.alloc o) (bl2 o)).2
 have hcw:=HCV.out W0
 have hcw2:(convert 36 9 (.slice (some ⟨W0.heap.size,0,none⟩) 1 1)).run Tryz.prog (W0.alloc (.cells #[.int .u8 (c:Int)] 5)).drew = .ok (.string B) (W0.alloc (.cells #[.int .u8 (c:Int)] 5)).drew:=HCV.out W0.drew
 go_cut [3] (fun v wx=>v = .string D∧Hid (Below W0.heap.size W0 wx))
 case first=>
  go_region_law (first
   | (go_simp
      go_at_call 141
      refine(HT.out _).mono ?_
      rintro e w1 ⟨rfl,hb1⟩
      have HB1:Hid (Below W0.heap.size W0 w1):=blN (by repeat' first | with_reducible exact Below.refl _ _ | with_reducible refine blD ?_ | with_reducible refine bl1 ?_ _) hb1
      obtain⟨cc,cd⟩:=HK.out w1 HB1.out
      have hce:=fun o=>(HK.out (w1.alloc o) (bl1 HB1.out o)).1
      have hcf:=fun o=>(HK.out (w1.alloc o) (bl1 HB1.out o)).2
      have hcx:=HCV.out w1
      try have hcy:=HCB.out w1 _ (heapOld hb1 (heapNew W0 _))
      clear hb1))
  all_goals
   go_wp2
   go_meet
   case rel=>exact⟨rfl,by show Below _ _ _; repeat' first | with_reducible exact HB1.out | with_reducible refine blD ?_ | with_reducible refine bl1 ?_ _⟩
 case rest=>
 obtain⟨rfl,HBc⟩:=hcut
 obtain⟨ia,ib,ic,id,ie⟩:=info_parts infoU8
 have hmk:=run_make_bytes (P:=Tryz.prog) wc Tryz.underlying36 ib ic id ie m (by have:=HM.out; omega)
 have hcv:=run_bytes_text (P:=Tryz.prog) (wc.alloc (bytesO (zeros m) 5 (0,0))) (src:=36) (dst:=9) (z:=[]) (l:=zeros m) (n:=m) Tryz.underlying36 Tryz.underlying5 Tryz.underlying9 (by rw[List.append_nil]; exact heapNew wc _) (zeros_length m).symm m
 rw[HZc.out] at hcv
 obtain⟨W1,hW1⟩:=zx (wc.alloc (bytesO (zeros m) 5 (0,0)))
 have HB1:Hid (Below W0.heap.size W0 W1):=by rw[←hW1]; exact bl1 HBc.out _
 rw[hW1] at hmk hcv
 have e1:IntKind.i64.wrap (16-(D.size:Int))=(m:Int):=by
  have:=HD.out
  have:=HM.out
  have:=HCS.out
  have:=HS.out
  rw[IntWalk.i64_in _ (by omega)]
  omega
 clear hW1 ca cb hca hcb hcw hcw2 ia ib ic id ie
 go_wp2
 first | exact⟨rfl,blN HB0.out HB1.out⟩ | (go_ret; exact⟨rfl,blN HB0.out HB1.out⟩)
end
section
theorem reput_any (w:World) (at_:Int) (x:Sp.Entry) (hs:x.name.size≤maxLen):Calls Tryz.prog 107 #[.int .i64 at_,eV x] w (EPut at_ x w):=by
 have hmay:=fun(W:World)=>remay_any W x hs
 have hsl:∀(W:World) (_:x.may),Calls Tryz.prog 147 #[eV x] W fun e w'=>e = .returned (.string (ofL (slotL x)))∧Below W.heap.size W w':=fun W h=>by
  obtain⟨n,s⟩:=x
  obtain⟨h0,h1,h2⟩:=may_bd h
  simp only at h0 h1 h2
  have hh:=retext_any W n.toNat s h2
  rw[Int.toNat_of_nonneg h0] at hh
  exact hh
 have hN1:∀w',at_<0∨4≤at_→Below w.heap.size w w'→EPut at_ x w (.returned (.tuple #[.agg #[.int .i64 0,.string ⟨#[]⟩],.int .i64 1])) w':=fun w' h hb=>⟨by rw[if_pos h],hb⟩
 have hN2:∀w',¬(at_<0∨4≤at_)→¬x.may→Below w.heap.size w w'→EPut at_ x w (.returned (.tuple #[.agg #[.int .i64 0,.string ⟨#[]⟩],.int .i64 70])) w':=fun w' h h2 hb=>⟨by rw[if_neg h,if_neg h2],hb⟩
 have hY:∀w',¬(at_<0∨4≤at_)→x.may→Below w.heap.size w w'→EPut at_ x w (.returned (.tuple #[.agg #[.int .i64 (at_*16),.string (ofL (slotL x))],.int .i64 0])) w':=fun w' h h2 hb=>⟨by rw[if_neg h,if_pos h2],hb⟩
 have HNA:=zh hN1
 have HNB:=zh hN2
 have HYY:=zh hY
 obtain⟨T,hT⟩:=zx (ofL (slotL x))
 rw[hT] at hsl HYY
 have HMAY:=zh hmay
 have HSL:=zh hsl
 have HD:Hid ((decide x.may=true→x.may)∧(decide x.may=false→¬x.may)):=⟨of_decide_eq_true,of_decide_eq_false⟩
 obtain⟨n,s⟩:=x
 unfold eV at HMAY HSL ⊢
 simp only at HMAY HSL ⊢
 obtain⟨Q,hQ⟩:=zx (EPut at_ ⟨n,s⟩ w)
 obtain⟨M,hM⟩:=zx (Sp.Entry.may ⟨n,s⟩)
 rw[hQ] at HNA HNB HYY ⊢
 clear hN1 hN2 hY hmay hsl hT hs hQ
 by_cases h0:at_<0
 ·clear HNB HYY HMAY HSL
  go_enter Tryz.func107,Tryz.ntmps107
  go_wp2
  refine bodyPost_ret (v:=.tuple #[.agg #[.int .i64 0,.string ⟨#[]⟩],.int .i64 1]) (by simp[results,Tryz.results107,go_sem]) rfl ?_
  exact HNA.out _ (Or.inl h0) (bl1 (bl2 _) _)
 by_cases h4:4≤at_
 ·clear HNB HYY HMAY HSL
  go_enter Tryz.func107,Tryz.ntmps107
  go_wp2
  refine bodyPost_ret (v:=.tuple #[.agg #[.int .i64 0,.string ⟨#[]⟩],.int .i64 1]) (by simp[results,Tryz.results107,go_sem]) rfl ?_
  exact HNA.out _ (Or.inr h4) (bl1 (bl2 _) _)
 have HAt:Hid (¬(at_<0∨4≤at_)):=zh (by omega)
 cases hd:decide (Sp.Entry.may ⟨n,s⟩) with
 | false=>
   have HG:=zh (HNB.out · HAt.out (HD.out.2 hd))
   rw[hd] at HMAY
   clear hd HNA HNB HYY HSL HD hM
   go_enter Tryz.func107,Tryz.ntmps107
   go_wp2_with fail
   refine(HMAY.out _).mono ?_
   rintro e w1 ⟨rfl,hb1⟩
   obtain⟨hbl,hz0,hz1⟩:=boxes2 hb1
   have HB1:=zh hbl
   have y0:=zc 0 hz1
   have y1:=zc 1 hz1
   have v0:w1.frozen? ⟨w.heap.size+1,0,none⟩=false:=freeOf hz1
   have v1:w1.frozen? ⟨w.heap.size+1,1,none⟩=false:=freeOf hz1
   have HW:=zh (put2 hz1 (.int .i64 0) (.string ⟨#[]⟩))
   clear hb1 hbl hz0 hz1
   go_wp2
   obtain⟨Wf,hWf⟩:=zx ((w1.setCell ⟨w.heap.size+1,0,none⟩ (.int .i64 0)).setCell ⟨w.heap.size+1,1,none⟩ (.string ⟨#[]⟩))
   have hb4:Below w.heap.size w Wf:=by rw[←hWf]; exact(HB1.out.setCell (by simp) _).setCell (by simp) _
   have hw4:=HW.out
   rw[hWf] at hw4 ⊢
   have y0:=zc 0 hw4
   have y1:=zc 1 hw4
   refine bodyPost_ret (v:=.tuple #[.agg #[.int .i64 0,.string ⟨#[]⟩],.int .i64 70]) (by simp[results,Tryz.results107,go_sem,y0,y1]) rfl ?_
   exact HG.out _ hb4
 | true=>
   have HG:=zh (HYY.out · HAt.out (HD.out.1 hd))
   have HSL2:=zh (fun W=>HSL.out W (HD.out.1 hd))
   rw[hd] at HMAY
   have e16:IntKind.i64.wrap (at_*16)=at_*16:=IntWalk.i64_in _ (by omega)
   clear hd HNA HNB HYY HSL HD hM
   go_enter Tryz.func107,Tryz.ntmps107
   go_wp2_with fail
   refine(HMAY.out _).mono ?_
   rintro e w1 ⟨rfl,hb1⟩
   obtain⟨hbl,hz0,hz1⟩:=boxes2 hb1
   have HB1:=zh hbl
   have HZ1:=zh hz1
   have k0:=zc 0 hz0
   have k1:=zc 1 hz0
   clear hb1 hbl hz0 hz1
   go_wp2_with fail
   clear k0 k1
   refine(HSL2.out _).mono ?_
   rintro e w2 ⟨rfl,hb2⟩
   have HB2:=zh (blN HB1.out hb2)
   have hz1:=heapOld hb2 HZ1.out
   have y0:=zc 0 hz1
   have y1:=zc 1 hz1
   have v0:w2.frozen? ⟨w.heap.size+1,0,none⟩=false:=freeOf hz1
   have v1:w2.frozen? ⟨w.heap.size+1,1,none⟩=false:=freeOf hz1
   have HW:=zh (put2 hz1 (.int .i64 (at_*16)) (.string T))
   clear hb2 hz1
   go_wp2
   obtain⟨Wf,hWf⟩:=zx ((w2.setCell ⟨w.heap.size+1,0,none⟩ (.int .i64 (at_*16))).setCell ⟨w.heap.size+1,1,none⟩ (.string T))
   have hb4:Below w.heap.size w Wf:=by rw[←hWf]; exact(HB2.out.setCell (by simp) _).setCell (by simp) _
   have hw4:=HW.out
   rw[hWf] at hw4 ⊢
   have y0:=zc 0 hw4
   have y1:=zc 1 hw4
   refine bodyPost_ret (v:=.tuple #[.agg #[.int .i64 (at_*16),.string T],.int .i64 0]) (by simp[results,Tryz.results107,go_sem,y0,y1]) rfl ?_
   exact HG.out _ hb4
end
section
theorem rblock_any (w:World) (g:Sp.Geom) (n:Int):Calls Tryz.prog 203 #[gV g,.int .i64 n] w fun e w'=>e = .returned (.bool (decide (blockOk g n)))∧Below w.heap.size w w':=by
 by_cases h0:n=0
 ·rw[decide_eq_true (p:=blockOk g n) (Or.inl h0)]
  subst h0
  obtain⟨ga,gb,gc⟩:=g
  unfold gV
  go_enter Tryz.func203,Tryz.ntmps203
  go_wp2
  go_ret
  exact⟨rfl,bl2 _⟩
 have f0:(n == 0)=false:=beq_eq_false_iff_ne.2 h0
 have hw:=fun W:World=>rgwhat_any W g n
 unfold RWhatPost at hw
 have hd:decide (blockOk g n)=((g.what n).2.2 == 0 && (g.what n).1 == 6):=by
  rw[Bool.eq_iff_iff,decide_eq_true_iff,Bool.and_eq_true,beq_iff_eq,beq_iff_eq]
  unfold blockOk
  exact⟨fun h=>h.resolve_left h0,Or.inr⟩
 rw[hd]
 obtain⟨x,hx⟩:=zx ((g.what n).1)
 obtain⟨y,hy⟩:=zx ((g.what n).2.1)
 obtain⟨z,hz⟩:=zx ((g.what n).2.2)
 rw[hx,hy,hz] at hw
 rw[hx,hz]
 clear hx hy hz hd h0
 obtain⟨ga,gb,gc⟩:=g
 unfold gV at hw ⊢
 have HW:=zh hw
 clear hw
 obtain⟨W0,hW0⟩:=zg w ga gb gc
 have hk:=g_keep hW0
 have HB0:=zh hk.1
 have HK:=zh hk.2
 clear hk
 obtain⟨z0,z1,z2⟩:=HK.out W0 (Below.refl _ _)
 go_enter Tryz.func203,Tryz.ntmps203
 go_wp2_with fail
 refine(HW.out _).mono ?_
 rintro e w1 ⟨rfl,hb1⟩
 have HB1:=zh (blN (Below.refl _ _) hb1)
 clear hb1
 clear z0 z1 z2
 by_cases hz:z=0
 ·have f1:(z == 0)=true:=beq_iff_eq.2 hz
  clear hz
  go_wp2
  go_ret
  exact⟨by simp[f1],blN HB0.out HB1.out⟩
 ·have f1:(z == 0)=false:=beq_eq_false_iff_ne.2 hz
  clear hz
  go_wp2
  go_ret
  exact⟨by simp[f1],blN HB0.out HB1.out⟩
theorem iA_at (k l z p ge d0 d1 d2 d3 d4 d5 d6 d7 m:Int):∀j,j<8→(iA k l z p ge d0 d1 d2 d3 d4 d5 d6 d7 m)[5+j]? = some (.int .i64 ([d0,d1,d2,d3,d4,d5,d6,d7].getD j 0))
 | 0,_=>rfl
 | 1,_=>rfl
 | 2,_=>rfl
 | 3,_=>rfl
 | 4,_=>rfl
 | 5,_=>rfl
 | 6,_=>rfl
 | 7,_=>rfl
 | j+8,h=>absurd h (by omega)
theorem eight_at (d0 d1 d2 d3 d4 d5 d6 d7:Int):∀j,j<8→[d0,d1,d2,d3,d4,d5,d6,d7][j]? = some ([d0,d1,d2,d3,d4,d5,d6,d7].getD j 0)
 | 0,_=>rfl
 | 1,_=>rfl
 | 2,_=>rfl
 | 3,_=>rfl
 | 4,_=>rfl
 | 5,_=>rfl
 | 6,_=>rfl
 | 7,_=>rfl
 | j+8,h=>absurd h (by omega)
theorem rblocks_any (w:World) (g:Sp.Geom) (k l z p ge d0 d1 d2 d3 d4 d5 d6 d7 m:Int):Calls Tryz.prog 182 #[gV g,.agg (iA k l z p ge d0 d1 d2 d3 d4 d5 d6 d7 m)] w fun e w'=>e = .returned (.bool (decide ((iN k l z p ge d0 d1 d2 d3 d4 d5 d6 d7 m).blocks g)))∧Below w.heap.size w w':=by
 have hblk:=fun(W:World) (n:Int)=>rblock_any W g n
 have hat:=iA_at k l z p ge d0 d1 d2 d3 d4 d5 d6 d7 m
 have hei:=eight_at d0 d1 d2 d3 d4 d5 d6 d7
 have hm13:(iA k l z p ge d0 d1 d2 d3 d4 d5 d6 d7 m)[13]? = some (.int .i64 m):=rfl
 have hd:∀b:Bool,(b=true↔(∀x∈[d0,d1,d2,d3,d4,d5,d6,d7],blockOk g x)∧blockOk g m)→b=decide ((iN k l z p ge d0 d1 d2 d3 d4 d5 d6 d7 m).blocks g):=fun b hb=>by
  rw[Bool.eq_iff_iff,hb,decide_eq_true_iff]
  rfl
 have hl8:[d0,d1,d2,d3,d4,d5,d6,d7].length=8:=rfl
 obtain⟨D,hD⟩:=zx ([d0,d1,d2,d3,d4,d5,d6,d7])
 rw[hD] at hat hei hd hl8
 obtain⟨A,hA⟩:=zx (iA k l z p ge d0 d1 d2 d3 d4 d5 d6 d7 m)
 obtain⟨R,hR⟩:=zx (decide ((iN k l z p ge d0 d1 d2 d3 d4 d5 d6 d7 m).blocks g))
 rw[hR] at hd ⊢
 have HOk:Hid (∀x,decide (blockOk g x)=true↔blockOk g x):=fun x=>decide_eq_true_iff
 rw[hA] at hat hm13
 obtain⟨P,hP⟩:∃P:Int→Prop,(fun x=>blockOk g x)=P:=⟨_,rfl⟩
 have hPe:∀x,blockOk g x=P x:=fun x=>by rw[←hP]
 have HAt:=zh hat
 have HEi:=zh hei
 have HD:=zh hd
 have HMd:=zh hm13
 have HL:=zh hl8
 clear hR hat hei hd hm13 hD hl8 hP hPe
 obtain⟨ga,gb,gc⟩:=g
 unfold gV at hblk ⊢
 have HBLK:=zh hblk
 clear hblk
 unfold iA
 obtain⟨W1,hW1⟩:=zx ((w.alloc (.cells #[.int .i64 ga,.int .i64 gb,.int .i64 gc] 23)).alloc (.cells A 71))
 obtain⟨hb0,hx0,hx1⟩:=boxes2 (w:=w) (a:=.cells #[.int .i64 ga,.int .i64 gb,.int .i64 gc] 23) (b:=.cells A 71) (w1:=W1) (by rw[hW1]; exact Below.refl _ _)
 have HB1:=zh hb0
 have HKg:Hid (∀W,Below W1.heap.size W1 W→W.cell? ⟨w.heap.size,0,none⟩=some (.int .i64 ga)∧W.cell? ⟨w.heap.size,1,none⟩=some (.int .i64 gb)∧W.cell? ⟨w.heap.size,2,none⟩=some (.int .i64 gc)):=fun W hW=>⟨cellOf (heapOld hW hx0) rfl,cellOf (heapOld hW hx0) rfl,cellOf (heapOld hW hx0) rfl⟩
 have HKd:Hid (∀j,j<8→∀W,Below W1.heap.size W1 W→W.cell? ⟨w.heap.size+1,5+j,none⟩=some (.int .i64 (D.getD j 0))):=fun j hj W hW=>cellOf (heapOld hW hx1) (HAt.out j hj)
 have HKm:Hid (∀W,Below W1.heap.size W1 W→W.cell? ⟨w.heap.size+1,13,none⟩=some (.int .i64 m)):=fun W hW=>cellOf (heapOld hW hx1) HMd.out
 clear hb0 hx0 hx1
 rw[←hA] at hW1
 unfold iA at hW1
 clear hA
 go_enter Tryz.func182,Tryz.ntmps182
 go_wp2
 have HA0:Hid (∀x∈D.take 0,blockOk ⟨ga,gb,gc⟩ x):=zh (by simp)
 have HBr:Hid (Below W1.heap.size W1 W1):=Below.refl _ _
 go_loopw [5] (fun i wr=>∃j:Nat,j≤8∧i = .int .i64 (j:Int)∧Hid (∀x∈D.take j,blockOk ⟨ga,gb,gc⟩ x)∧Hid (Below W1.heap.size W1 wr)) (fun i _=>8-(intOf i).toNat)
 case atStart=>exact⟨0,Nat.zero_le _,rfl,HA0,HBr⟩
 case round=>
  obtain⟨j,hj,rfl,HAj,HB⟩:=hrel
  clear hW1
  by_cases hj8:j<8
  ·have hj1:(j:Int)<8:=by omega
   have hkd:=HKd.out j hj8
   have hei:=HEi.out j hj8
   obtain⟨x,hx⟩:=zx (D.getD j 0)
   rw[hx] at hkd hei
   have HEx:=zh hei
   have HKk:Hid (∀W,Below W1.heap.size W1 W→W.cell? ⟨w.heap.size,0,none⟩=some (.int .i64 ga)∧W.cell? ⟨w.heap.size,1,none⟩=some (.int .i64 gb)∧W.cell? ⟨w.heap.size,2,none⟩=some (.int .i64 gc)∧W.cell? ⟨w.heap.size+1,5+j,none⟩=some (.int .i64 x)):=fun W hW=>⟨(HKg.out W hW).1,(HKg.out W hW).2.1,(HKg.out W hW).2.2,hkd W hW⟩
   have hbx:=fun W:World=>HBLK.out W x
   obtain⟨b,hbb⟩:=zx (decide (blockOk ⟨ga,gb,gc⟩ x))
   have HBB:=zh (HOk.out x)
   rw[hbb] at hbx HBB
   have HBX:=zh hbx
   clear hbx
   clear hkd hei hx hbb
   go_upto_region 4 with fail
   go_region_held3 (fun W=>W.cell? ⟨w.heap.size,0,none⟩=some (.int .i64 ga)∧W.cell? ⟨w.heap.size,1,none⟩=some (.int .i64 gb)∧W.cell? ⟨w.heap.size,2,none⟩=some (.int .i64 gc)∧W.cell? ⟨w.heap.size+1,5+j,none⟩=some (.int .i64 x))
    ((refine HKk.out _ ?_; repeat' first | with_reducible exact HB.out | with_reducible exact HB2.out | with_reducible refine blD ?_ | with_reducible refine bl1 ?_ _))
    (first
      | (go_at_call 203
         refine(HBX.out _).mono ?_
         rintro e w2 ⟨rfl,hb2⟩
         have HB2:Hid (Below W1.heap.size W1 w2):=blN (by repeat' first | with_reducible exact HB.out | with_reducible refine blD ?_ | with_reducible refine bl1 ?_ _) hb2
         clear hb2
         simp only))
   all_goals
    cases b
    ·have HF:Hid (false=R):=HD.out false ⟨fun h=>absurd h (by decide),fun h=>absurd (HBB.out.2 (h.1 x (List.mem_of_getElem? HEx.out))) (by decide)⟩
     go_wp2
     go_ret
     exact⟨ret_b HF.out,blN HB1.out HB2.out⟩
    ·have HA2:=zh (take_all HAj.out HEx.out (HBB.out.1 rfl))
     go_wp2
     go_roundw
     case rel=>exact⟨j+1,by omega,by go_num,HA2,HB2⟩
     case measure=>simp[intOf]; omega
  ·obtain rfl:j=8:=by omega
   have hall:∀x∈D,blockOk ⟨ga,gb,gc⟩ x:=by
    have:=HAj.out
    rwa [List.take_of_length_le (by rw[HL.out]; exact Nat.le_refl _)] at this
   have hbx:=fun W:World=>HBLK.out W m
   obtain⟨b,hbb⟩:=zx (decide (blockOk ⟨ga,gb,gc⟩ m))
   have hbm:=HOk.out m
   rw[hbb] at hbx hbm
   have HF:Hid (b=R):=HD.out b ⟨fun h=>⟨hall,hbm.1 h⟩,fun h=>hbm.2 h.2⟩
   obtain⟨z0,z1,z2⟩:=HKg.out wr HB.out
   have z3:=HKm.out wr HB.out
   have HBX:=zh hbx
   clear hbx
   clear hbb hbm hall
   go_wp2_with fail
   refine(HBX.out _).mono ?_
   rintro e w2 ⟨rfl,hb2⟩
   have HB2:=zh (blN HB.out hb2)
   clear hb2 z0 z1 z2 z3
   go_wp2
   go_ret
   exact⟨ret_b HF.out,blN HB1.out HB2.out⟩
end
theorem eql_inode (l z p ge d0 d1 d2 d3 d4 d5 d6 d7 m:Int) (w:World):(binOp .eql 71 (.agg (iA 0 l z p ge d0 d1 d2 d3 d4 d5 d6 d7 m)) (.agg (iA 0 0 0 0 ge 0 0 0 0 0 0 0 0 0))).run Tryz.prog w = .ok (.bool (decide (l=0∧z=0∧p=0∧(d0=0∧d1=0∧d2=0∧d3=0∧d4=0∧d5=0∧d6=0∧d7=0)∧m=0))) w:=by
 have u3:=Tryz.underlying3
 have a3:=Tryz.isAgg3
 have z3:=Tryz.sizeOf3
 have hS:Tryz.prog.underlying 71=some (.struct (Tryz.prog.fieldsOf 71)):=by kernel_rfl
 have hp:Tryz.prog.stoodInHeld 71=false:=by kernel_rfl
 have h8:=eq_arr8 d0 d1 d2 d3 d4 d5 d6 d7
 have e:∀a b c x y:Prop,∀(_:Decidable a) (_:Decidable b) (_:Decidable c) (_:Decidable x) (_:Decidable y),decide (a∧b∧c∧x∧y)=(decide a && (decide b && (decide c && (decide x && decide y)))):=fun a b c x y _ _ _ _ _=>by simp
 rw[e]
 obtain⟨D,hD⟩:=zx (decide (d0=0∧d1=0∧d2=0∧d3=0∧d4=0∧d5=0∧d6=0∧d7=0))
 rw[hD] at h8 ⊢
 clear hD e
 unfold iA
 rw[run_eql_struct,show(10000:Nat)=9999+1 from rfl,run_equalIn_agg w 9999 _ _ _ hS hp]
 simp only[Program.fieldsOf,Tryz.underlying71]
 go_simp
 by_cases h0:l=0
 rotate_left
 ·simp[h0]
 by_cases h1:z=0
 rotate_left
 ·simp[h0,h1]
 by_cases h2:p=0
 rotate_left
 ·simp[h0,h1,h2]
 by_cases h3:m=0
 ·cases D <;> simp[h0,h1,h2,h3]
 ·cases D <;> simp[h0,h1,h2,h3]
def kindOk (g:Sp.Geom) (n:Sp.Inode):Prop:=(n.kind=0∧n.links=0∧n.size=0∧n.parent=0∧(∀b∈n.direct,b=0)∧n.more=0)∨(n.kind=1∧n.parent=0)∨(n.kind=2∧n.size % 64=0∧1≤n.parent∧n.parent≤g.many)
theorem fits_iff (g:Sp.Geom) (n:Sp.Inode):n.fits g↔kindOk g n∧(0≤n.links∧n.links≤255∧0≤n.size∧n.size≤2560∧0≤n.gen∧n.gen≤65535)∧n.blocks g:=by
 unfold Sp.Inode.fits kindOk
 constructor
 ·rintro⟨h1,h2,h3,h4,h5,h6,h7⟩
  rcases h7 with ⟨a,b,c,d,e,f⟩ | ⟨a,b,c⟩ | ⟨a,b,c,d,e⟩
  ·exact⟨Or.inl ⟨a,b,c,d,e,f⟩,⟨h3,h4,h5,h6,h1,h2⟩,fun x hx=>Or.inl (e x hx),Or.inl f⟩
  ·exact⟨Or.inr (Or.inl ⟨a,b⟩),⟨h3,h4,h5,h6,h1,h2⟩,c⟩
  ·exact⟨Or.inr (Or.inr ⟨a,b,c,d⟩),⟨h3,h4,h5,h6,h1,h2⟩,e⟩
 ·rintro⟨h7,⟨h3,h4,h5,h6,h1,h2⟩,hb⟩
  refine⟨h1,h2,h3,h4,h5,h6,?_⟩
  rcases h7 with h | ⟨a,b⟩ | ⟨a,b,c,d⟩
  ·exact Or.inl h
  ·exact Or.inr (Or.inl ⟨a,b,hb⟩)
  ·exact Or.inr (Or.inr ⟨a,b,c,d,hb⟩)
section
theorem rncheck_any (w:World) (g:Sp.Geom) (k l z p ge d0 d1 d2 d3 d4 d5 d6 d7 m:Int):Calls Tryz.prog 144 #[gV g,.agg (iA k l z p ge d0 d1 d2 d3 d4 d5 d6 d7 m)] w fun e w'=>e = .returned (.int .i64 ((iN k l z p ge d0 d1 d2 d3 d4 d5 d6 d7 m).check g))∧Below w.heap.size w w':=by
 have hch:=fun W:World=>rgcheck_any W g
 have hino:=fun W:World=>rginodes_any W g
 have hblk:=fun W:World=>rblocks_any W g k l z p ge d0 d1 d2 d3 d4 d5 d6 d7 m
 have hfit:=fits_iff g (iN k l z p ge d0 d1 d2 d3 d4 d5 d6 d7 m)
 have heq:=eql_inode l z p ge d0 d1 d2 d3 d4 d5 d6 d7 m
 have HBB:Hid (decide ((iN k l z p ge d0 d1 d2 d3 d4 d5 d6 d7 m).blocks g)=true↔(iN k l z p ge d0 d1 d2 d3 d4 d5 d6 d7 m).blocks g):=decide_eq_true_iff
 obtain⟨b,hbb⟩:=zx (decide ((iN k l z p ge d0 d1 d2 d3 d4 d5 d6 d7 m).blocks g))
 rw[hbb] at hblk HBB
 clear hbb
 by_cases hg:g.ok
 rotate_left
 ·rw[Geom.check_no hg] at hch
  have hr:(iN k l z p ge d0 d1 d2 d3 d4 d5 d6 d7 m).check g=4:=if_neg hg
  rw[hr]
  clear hg hr hfit hblk hino heq HBB
  obtain⟨ga,gb,gc⟩:=g
  unfold gV at hch ⊢
  unfold iA
  have HCH:=zh hch
  clear hch
  go_enter Tryz.func144,Tryz.ntmps144
  go_wp2_with fail
  refine(HCH.out _).mono ?_
  rintro e w1 ⟨rfl,hb1⟩
  have HB1:=zh (boxes2 hb1).1
  clear hb1
  go_wp2
  go_ret
  exact⟨rfl,HB1.out⟩
 rw[Geom.check_ok hg] at hch
 have hc0:(iN k l z p ge d0 d1 d2 d3 d4 d5 d6 d7 m).check g=if(iN k l z p ge d0 d1 d2 d3 d4 d5 d6 d7 m).fits g then 0 else 60:=if_pos hg
 obtain⟨B,hB⟩:=zx ((iN k l z p ge d0 d1 d2 d3 d4 d5 d6 d7 m).blocks g)
 obtain⟨K,hK⟩:=zx (kindOk g (iN k l z p ge d0 d1 d2 d3 d4 d5 d6 d7 m))
 have HK:=zh hK
 rw[hB,hK] at hfit
 rw[hB] at HBB
 change _↔K∧(0≤l∧l≤255∧0≤z∧z≤2560∧0≤ge∧ge≤65535)∧B at hfit
 have HNo:Hid (¬(K∧(0≤l∧l≤255∧0≤z∧z≤2560∧0≤ge∧ge≤65535)∧B)→∀w',Below w.heap.size w w'→(fun(e:Ending) (w':World)=>e = .returned (.int .i64 ((iN k l z p ge d0 d1 d2 d3 d4 d5 d6 d7 m).check g))∧Below w.heap.size w w') (.returned (.int .i64 60)) w'):=fun h w' hb=>⟨by rw[hc0,if_neg (fun h2=>h (hfit.1 h2))],hb⟩
 have HYes:Hid (K∧(0≤l∧l≤255∧0≤z∧z≤2560∧0≤ge∧ge≤65535)∧B→∀w',Below w.heap.size w w'→(fun(e:Ending) (w':World)=>e = .returned (.int .i64 ((iN k l z p ge d0 d1 d2 d3 d4 d5 d6 d7 m).check g))∧Below w.heap.size w w') (.returned (.int .i64 0)) w'):=fun h w' hb=>⟨by rw[hc0,if_pos (hfit.2 h)],hb⟩
 obtain⟨Q,hQ⟩:∃Q,(fun(e:Ending) (w':World)=>e = .returned (.int .i64 ((iN k l z p ge d0 d1 d2 d3 d4 d5 d6 d7 m).check g))∧Below w.heap.size w w')=Q:=⟨_,rfl⟩
 rw[hQ] at HNo HYes ⊢
 obtain⟨many,hmany⟩:=zx (g.many)
 rw[hmany] at hino
 have HKd:Hid (K↔(k=0∧l=0∧z=0∧p=0∧(d0=0∧d1=0∧d2=0∧d3=0∧d4=0∧d5=0∧d6=0∧d7=0)∧m=0)∨(k=1∧p=0)∨(k=2∧z % 64=0∧1≤p∧p≤many)):=by
  show K↔_
  rw[←hK,←hmany]
  unfold kindOk iN
  simp only[List.mem_cons,List.not_mem_nil,or_false,forall_eq_or_imp,forall_eq]
 clear hc0 hfit hB hK hQ hg HK hmany
 obtain⟨ga,gb,gc⟩:=g
 unfold gV at hch hino hblk ⊢
 unfold iA at hblk heq ⊢
 obtain⟨W1,hW1⟩:=zx ((w.alloc (.cells #[.int .i64 ga,.int .i64 gb,.int .i64 gc] 23)).alloc (.cells #[.int .i64 k,.int .i64 l,.int .i64 z,.int .i64 p,.int .i64 ge,.int .i64 d0,.int .i64 d1,.int .i64 d2,.int .i64 d3,.int .i64 d4,.int .i64 d5,.int .i64 d6,.int .i64 d7,.int .i64 m] 71))
 obtain⟨hb0,hx0,hx1⟩:=boxes2 (w:=w) (a:=.cells #[.int .i64 ga,.int .i64 gb,.int .i64 gc] 23) (b:=.cells #[.int .i64 k,.int .i64 l,.int .i64 z,.int .i64 p,.int .i64 ge,.int .i64 d0,.int .i64 d1,.int .i64 d2,.int .i64 d3,.int .i64 d4,.int .i64 d5,.int .i64 d6,.int .i64 d7,.int .i64 m] 71) (w1:=W1) (by rw[hW1]; exact Below.refl _ _)
 have HBw:=zh hb0
 have HX0:=zh hx0
 have HX1:=zh hx1
 have y0:=zc 0 hx0
 have y1:=zc 1 hx0
 have y2:=zc 2 hx0
 have HCH:=zh hch
 have HINO:=zh hino
 have HBLK:=zh hblk
 clear hch hino hblk
 clear hb0 hx0 hx1
 go_enter Tryz.func144,Tryz.ntmps144
 go_wp2_with fail
 refine(HCH.out _).mono ?_
 rintro e w2 ⟨rfl,hb2⟩
 have HBx:Hid (Below W1.heap.size W1 w2):=hb2
 have hg2:=heapOld hb2 HX0.out
 have hn2:=heapOld hb2 HX1.out
 clear y0 y1 y2
 have y0:=zc 0 hg2
 have y1:=zc 1 hg2
 have y2:=zc 2 hg2
 have n0:=zc 0 hn2
 have n1:=zc 1 hn2
 have n2:=zc 2 hn2
 have n3:=zc 3 hn2
 have n4:=zc 4 hn2
 have n5:=zc 5 hn2
 have n6:=zc 6 hn2
 have n7:=zc 7 hn2
 have n8:=zc 8 hn2
 have n9:=zc 9 hn2
 have n10:=zc 10 hn2
 have n11:=zc 11 hn2
 have n12:=zc 12 hn2
 have n13:=zc 13 hn2
 clear hb2 hg2 hn2 hW1
 by_cases k0:k=0
 ·subst k0
  obtain⟨q,hq⟩:∃q:Bool,decide (l=0∧z=0∧p=0∧(d0=0∧d1=0∧d2=0∧d3=0∧d4=0∧d5=0∧d6=0∧d7=0)∧m=0)=q:=⟨_,rfl⟩
  rw[hq] at heq
  cases q
  ·have hz:=of_decide_eq_false hq
   have HKn:Hid (¬K):=fun h=>by
    rcases HKd.out.1 h with h | h | h
    ·exact hz h.2
    ·omega
    ·omega
   clear hz hq
   go_wp2
   all_goals first
    | exact HNo.out (fun h=>HKn.out h.1) _ (blN HBw.out HBx.out)
    | (go_ret; exact HNo.out (fun h=>HKn.out h.1) _ (blN HBw.out HBx.out))
  ·have hz:=of_decide_eq_true hq
   have HKo:Hid K:=HKd.out.2 (Or.inl ⟨rfl,hz⟩)
   clear hz hq
   go_wp2_with fail
   all_goals first
    | exact HNo.out (fun h=>by have:=h.2.1; omega) _ (blN HBw.out HBx.out)
    | (go_ret; exact HNo.out (fun h=>by have:=h.2.1; omega) _ (blN HBw.out HBx.out))
    | (refine(HBLK.out _).mono ?_
       rintro e w5 ⟨rfl,hb5⟩
       have HB5:=zh (blN HBx.out hb5)
       clear hb5
       cases b
       ·go_wp2
        first | exact HNo.out (fun h=>absurd (HBB.out.2 h.2.2) (by decide)) _ (blN HBw.out HB5.out) | (go_ret; exact HNo.out (fun h=>absurd (HBB.out.2 h.2.2) (by decide)) _ (blN HBw.out HB5.out))
       ·go_wp2
        first | exact HYes.out ⟨HKo.out,by omega,HBB.out.1 (by first | rfl | trivial)⟩ _ (blN HBw.out HB5.out) | (go_ret; exact HYes.out ⟨HKo.out,by omega,HBB.out.1 (by first | rfl | trivial)⟩ _ (blN HBw.out HB5.out)))
 by_cases k1:k=1
 ·subst k1
  by_cases hp:p=0
  ·have f1:(p == 0)=true:=beq_iff_eq.2 hp
   have HKo:Hid K:=HKd.out.2 (Or.inr (Or.inl ⟨rfl,hp⟩))
   clear hp k0
   go_wp2_with fail
   all_goals first
    | exact HNo.out (fun h=>by have:=h.2.1; omega) _ (blN HBw.out HBx.out)
    | (go_ret; exact HNo.out (fun h=>by have:=h.2.1; omega) _ (blN HBw.out HBx.out))
    | (refine(HBLK.out _).mono ?_
       rintro e w5 ⟨rfl,hb5⟩
       have HB5:=zh (blN HBx.out hb5)
       clear hb5
       cases b
       ·go_wp2
        first | exact HNo.out (fun h=>absurd (HBB.out.2 h.2.2) (by decide)) _ (blN HBw.out HB5.out) | (go_ret; exact HNo.out (fun h=>absurd (HBB.out.2 h.2.2) (by decide)) _ (blN HBw.out HB5.out))
       ·go_wp2
        first | exact HYes.out ⟨HKo.out,by omega,HBB.out.1 (by first | rfl | trivial)⟩ _ (blN HBw.out HB5.out) | (go_ret; exact HYes.out ⟨HKo.out,by omega,HBB.out.1 (by first | rfl | trivial)⟩ _ (blN HBw.out HB5.out)))
  ·have f1:(p == 0)=false:=beq_eq_false_iff_ne.2 hp
   have HKn:Hid (¬K):=fun h=>by
    rcases HKd.out.1 h with h | h | h
    ·omega
    ·exact hp h.2
    ·omega
   clear hp k0
   go_wp2
   all_goals first
    | exact HNo.out (fun h=>HKn.out h.1) _ (blN HBw.out HBx.out)
    | (go_ret; exact HNo.out (fun h=>HKn.out h.1) _ (blN HBw.out HBx.out))
 by_cases k2:k=2
 ·subst k2
  obtain⟨t,ht⟩:=zx (z.tmod 64)
  have htz:(t=0↔z % 64=0)∧-64<t∧t<64:=by
   by_cases h:0≤z
   ·have e:=Int.tmod_eq_emod_of_nonneg (b:=64) h
    omega
   ·have e:z.tmod 64 = -((-z).tmod 64):=by rw[Int.neg_tmod,Int.neg_neg]
    have e2:=Int.tmod_eq_emod_of_nonneg (a:=-z) (b:=64) (by omega)
    omega
  have ew:IntKind.i64.wrap t=t:=IntWalk.i64_in _ (by omega)
  by_cases h64:z % 64=0
  rotate_left
  ·have ft:(t == 0)=false:=beq_eq_false_iff_ne.2 (fun h=>h64 (htz.1.1 h))
   have HKn:Hid (¬K):=fun h=>by
    rcases HKd.out.1 h with h | h | h
    ·omega
    ·omega
    ·exact h64 h.2.1
   clear h64 htz k0 k1
   go_wp2_with fail
   go_quiet (fail)
   rename_i nq
   obtain⟨w3,hw3⟩:=zx (w2.drewN nq)
   have HBy:=HBx
   clear HBx
   have HBx:Hid (Below W1.heap.size W1 w3):=by rw[←hw3]; exact below_drewN HBy.out nq
   rw[hw3]
   clear hw3 HBy y0 y1 y2 n0 n1 n2 n3 n4 n5 n6 n7 n8 n9 n10 n11 n12 n13
   have hg3:=heapOld HBx.out HX0.out
   have hn3:=heapOld HBx.out HX1.out
   have y0:=zc 0 hg3
   have y1:=zc 1 hg3
   have y2:=zc 2 hg3
   have n0:=zc 0 hn3
   have n1:=zc 1 hn3
   have n2:=zc 2 hn3
   have n3:=zc 3 hn3
   have n4:=zc 4 hn3
   have n5:=zc 5 hn3
   have n6:=zc 6 hn3
   have n7:=zc 7 hn3
   have n8:=zc 8 hn3
   have n9:=zc 9 hn3
   have n10:=zc 10 hn3
   have n11:=zc 11 hn3
   have n12:=zc 12 hn3
   have n13:=zc 13 hn3
   clear hg3 hn3
   go_wp2
   all_goals first
    | exact HNo.out (fun h=>HKn.out h.1) _ (blN HBw.out HBx.out)
    | (go_ret; exact HNo.out (fun h=>HKn.out h.1) _ (blN HBw.out HBx.out))
  have ft:(t == 0)=true:=beq_iff_eq.2 (htz.1.2 h64)
  by_cases hp1:1≤p
  rotate_left
  ·have HKn:Hid (¬K):=fun h=>by
    rcases HKd.out.1 h with h | h | h
    ·omega
    ·omega
    ·exact hp1 h.2.2.1
   have hp2:decide (p≥1)=false:=decide_eq_false hp1
   have hp3:decide (1≤p)=false:=decide_eq_false hp1
   have hp4:¬1≤p:=hp1
   clear h64 htz k0 k1 hp1
   go_wp2_with fail
   go_quiet (fail)
   rename_i nq
   obtain⟨w3,hw3⟩:=zx (w2.drewN nq)
   have HBy:=HBx
   clear HBx
   have HBx:Hid (Below W1.heap.size W1 w3):=by rw[←hw3]; exact below_drewN HBy.out nq
   rw[hw3]
   clear hw3 HBy y0 y1 y2 n0 n1 n2 n3 n4 n5 n6 n7 n8 n9 n10 n11 n12 n13
   have hg3:=heapOld HBx.out HX0.out
   have hn3:=heapOld HBx.out HX1.out
   have y0:=zc 0 hg3
   have y1:=zc 1 hg3
   have y2:=zc 2 hg3
   have n0:=zc 0 hn3
   have n1:=zc 1 hn3
   have n2:=zc 2 hn3
   have n3:=zc 3 hn3
   have n4:=zc 4 hn3
   have n5:=zc 5 hn3
   have n6:=zc 6 hn3
   have n7:=zc 7 hn3
   have n8:=zc 8 hn3
   have n9:=zc 9 hn3
   have n10:=zc 10 hn3
   have n11:=zc 11 hn3
   have n12:=zc 12 hn3
   have n13:=zc 13 hn3
   clear hg3 hn3
   go_wp2
   all_goals first
    | exact HNo.out (fun h=>HKn.out h.1) _ (blN HBw.out HBx.out)
    | (go_ret; exact HNo.out (fun h=>HKn.out h.1) _ (blN HBw.out HBx.out))
  have HKc:Hid (∀W,Below W1.heap.size W1 W→W.cell? ⟨w.heap.size,0,none⟩=some (.int .i64 ga)∧W.cell? ⟨w.heap.size,1,none⟩=some (.int .i64 gb)∧W.cell? ⟨w.heap.size,2,none⟩=some (.int .i64 gc)∧W.cell? ⟨w.heap.size+1,2,none⟩=some (.int .i64 z)∧W.cell? ⟨w.heap.size+1,3,none⟩=some (.int .i64 p)):=fun W hW=>⟨cellOf (heapOld hW HX0.out) rfl,cellOf (heapOld hW HX0.out) rfl,cellOf (heapOld hW HX0.out) rfl,cellOf (heapOld hW HX1.out) rfl,cellOf (heapOld hW HX1.out) rfl⟩
  have HKi:Hid (K↔p≤many):=⟨fun h=>by
   rcases HKd.out.1 h with h | h | h
   ·omega
   ·omega
   ·exact h.2.2.2,fun h=>HKd.out.2 (Or.inr (Or.inr ⟨rfl,h64,hp1,h⟩))⟩
  clear htz k0 k1 h64
  go_wp2_with fail
  go_region_held3 (fun W=>W.cell? ⟨w.heap.size,0,none⟩=some (.int .i64 ga)∧W.cell? ⟨w.heap.size,1,none⟩=some (.int .i64 gb)∧W.cell? ⟨w.heap.size,2,none⟩=some (.int .i64 gc)∧W.cell? ⟨w.heap.size+1,2,none⟩=some (.int .i64 z)∧W.cell? ⟨w.heap.size+1,3,none⟩=some (.int .i64 p))
   ((refine HKc.out _ ?_; repeat' first | with_reducible exact HBx.out | with_reducible exact HB3.out | with_reducible refine blD ?_ | with_reducible refine bl1 ?_ _))
   (first
     | (go_at_call 181
        refine(HINO.out _).mono ?_
        rintro e w3 ⟨rfl,hb3⟩
        have HB3:Hid (Below W1.heap.size W1 w3):=blN (by repeat' first | with_reducible exact HBx.out | with_reducible refine blD ?_ | with_reducible refine bl1 ?_ _) hb3
        clear hb3
        simp only))
  clear HBx y0 y1 y2 n0 n1 n2 n3 n4 n5 n6 n7 n8 n9 n10 n11 n12 n13
  have HBx:=HB3
  have hg3:=heapOld HBx.out HX0.out
  have hn3:=heapOld HBx.out HX1.out
  have y0:=zc 0 hg3
  have y1:=zc 1 hg3
  have y2:=zc 2 hg3
  have n0:=zc 0 hn3
  have n1:=zc 1 hn3
  have n2:=zc 2 hn3
  have n3:=zc 3 hn3
  have n4:=zc 4 hn3
  have n5:=zc 5 hn3
  have n6:=zc 6 hn3
  have n7:=zc 7 hn3
  have n8:=zc 8 hn3
  have n9:=zc 9 hn3
  have n10:=zc 10 hn3
  have n11:=zc 11 hn3
  have n12:=zc 12 hn3
  have n13:=zc 13 hn3
  clear hg3 hn3
  by_cases hpm:p≤many
  ·have HKo:Hid K:=HKi.out.2 hpm
   have fpm:decide (p≤many)=true:=decide_eq_true hpm
   clear hpm
   go_wp2_with fail
   all_goals first
    | exact HNo.out (fun h=>by have:=h.2.1; omega) _ (blN HBw.out HBx.out)
    | (go_ret; exact HNo.out (fun h=>by have:=h.2.1; omega) _ (blN HBw.out HBx.out))
    | (refine(HBLK.out _).mono ?_
       rintro e w5 ⟨rfl,hb5⟩
       have HB5:=zh (blN HBx.out hb5)
       clear hb5
       cases b
       ·go_wp2
        first | exact HNo.out (fun h=>absurd (HBB.out.2 h.2.2) (by decide)) _ (blN HBw.out HB5.out) | (go_ret; exact HNo.out (fun h=>absurd (HBB.out.2 h.2.2) (by decide)) _ (blN HBw.out HB5.out))
       ·go_wp2
        first | exact HYes.out ⟨HKo.out,by omega,HBB.out.1 (by first | rfl | trivial)⟩ _ (blN HBw.out HB5.out) | (go_ret; exact HYes.out ⟨HKo.out,by omega,HBB.out.1 (by first | rfl | trivial)⟩ _ (blN HBw.out HB5.out)))
  ·have HKn:Hid (¬K):=fun h=>hpm (HKi.out.1 h)
   have fpm:decide (p≤many)=false:=decide_eq_false hpm
   clear hpm
   go_wp2
   all_goals first
    | exact HNo.out (fun h=>HKn.out h.1) _ (blN HBw.out HBx.out)
    | (go_ret; exact HNo.out (fun h=>HKn.out h.1) _ (blN HBw.out HBx.out))
 ·have f0:(k == 0)=false:=beq_eq_false_iff_ne.2 k0
  have f1:(k == 1)=false:=beq_eq_false_iff_ne.2 k1
  have f2:(k == 2)=false:=beq_eq_false_iff_ne.2 k2
  have HKn:Hid (¬K):=fun h=>by
   rcases HKd.out.1 h with h | h | h
   ·exact k0 h.1
   ·exact k1 h.1
   ·exact k2 h.1
  clear k0 k1 k2
  go_wp2
  all_goals first
   | exact HNo.out (fun h=>HKn.out h.1) _ (blN HBw.out HBx.out)
   | (go_ret; exact HNo.out (fun h=>HKn.out h.1) _ (blN HBw.out HBx.out))
end
