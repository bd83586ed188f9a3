import Derived.Test.YtmljdnlmpiklgaaGreatDoorRefA
set_option maxRecDepth 20000
set_option maxHeartbeats 8000000
namespace Go.Proofs.YtmljdnlmpiklgaaGreatDoor
open Go Go.RowKit Txt Sp
section
theorem rpadded_any (w:World) (l:List UInt8) (hl:l.length≤64):Calls Tryz.prog 140 #[.string (ofL l)] w fun e w'=>e = .returned (.string (ofL (padL l)))∧Below w.heap.size w w':=by
 obtain⟨ia,ib,ic,id,ie⟩:=info_parts infoU8
 obtain⟨n,hn⟩:=zx (64-l.length)
 have hmk:=run_make_bytes (P:=Tryz.prog) w Tryz.underlying36 ib ic id ie n (by omega)
 have hcv:=run_bytes_text (P:=Tryz.prog) (w.alloc (bytesO (zeros n) 5 (0,0))) (src:=36) (dst:=9) (z:=[]) (l:=zeros n) (n:=n) Tryz.underlying36 Tryz.underlying5 Tryz.underlying9 (by rw[List.append_nil]; exact heapNew w _) (zeros_length n).symm n
 have hcat:=text_cat l (zeros n)
 have hp:l ++ zeros n=padL l:=by unfold padL; rw[hn]
 rw[hp] at hcat
 have hz:(ofL l).size=l.length:=ofL_size l
 have hzz:(ofL (zeros n)).size=n:=by rw[ofL_size,zeros_length]
 obtain⟨L,hL⟩:=zx (ofL l)
 obtain⟨Z,hZ⟩:=zx (ofL (zeros n))
 obtain⟨P,hP⟩:=zx (ofL (padL l))
 obtain⟨W1,hW1⟩:=zx (w.alloc (bytesO (zeros n) 5 (0,0)))
 have HB:Hid (Below w.heap.size w W1):=by rw[←hW1]; exact bl2 _
 rw[hL] at hcat hz ⊢
 rw[hZ] at hcat hzz hcv
 rw[hP] at hcat ⊢
 rw[hW1] at hmk hcv
 have e1:IntKind.i64.wrap (64-(L.size:Int))=(n:Int):=by rw[IntWalk.i64_in _ (by omega)]; omega
 have hlim:¬9223372036854775807<L.size+Z.size:=by omega
 clear hL hZ hP hW1 ia ib ic id ie hp hz hzz hn hl
 go_enter Tryz.func140,Tryz.ntmps140
 go_wp2
 go_ret
 exact⟨rfl,HB.out⟩
theorem rone_any (w:World) (g:Sp.Geom) (h1:0≤g.groups∧g.groups≤255) (h2:0≤g.inodes∧g.inodes≤255) (h3:0≤g.blocks∧g.blocks≤255):Calls Tryz.prog 101 #[gV g] w fun e w'=>e = .returned (.string (superB g))∧Below w.heap.size w w':=by
 have hp:=fun(W:World)=>rpadded_any W ([67,85,84,87] ++ [byteB g.groups,byteB g.inodes,byteB g.blocks]) (by show(7:Nat)≤64; decide)
 obtain⟨ga,gb,gc⟩:=g
 unfold gV
 simp only at h1 h2 h3 hp
 have hcv:=fun W:World=>three_bytes (w:=W) (a:=ga) (b:=gb) (c:=gc) ⟨by omega,by omega⟩ ⟨by omega,by omega⟩ ⟨by omega,by omega⟩
 have hcat:=text_cat [67,85,84,87] [byteB ga,byteB gb,byteB gc]
 have hS:superB ⟨ga,gb,gc⟩=ofL (padL ([67,85,84,87] ++ [byteB ga,byteB gb,byteB gc])):=rfl
 have hsz:(ofL [byteB ga,byteB gb,byteB gc]).size≤3:=Nat.le_refl 3
 obtain⟨B,hB⟩:=zx (ofL [byteB ga,byteB gb,byteB gc])
 obtain⟨T,hT⟩:=zx (ofL ([67,85,84,87] ++ [byteB ga,byteB gb,byteB gc]))
 rw[hB] at hcv hcat hsz
 rw[hT] at hcat hp
 change (⟨#[67,85,84,87]⟩:ByteArray) ++ B=T at hcat
 rw[hS]
 obtain⟨P,hP⟩:=zx (ofL (padL ([67,85,84,87] ++ [byteB ga,byteB gb,byteB gc])))
 rw[hP] at hp ⊢
 have m1:ga % 256=ga:=by omega
 have m2:gb % 256=gb:=by omega
 have m3:gc % 256=gc:=by omega
 have HP:=zh hp
 clear hp
 clear hB hT hS hP
 obtain⟨W0,hW0⟩:=zg w ga gb gc
 have hk:=g_keep hW0
 have HB0:=zh hk.1
 have HK:=zh hk.2
 clear hk
 obtain⟨z0,z1,z2⟩:=HK.out W0 (Below.refl _ _)
 go_enter Tryz.func101,Tryz.ntmps101
 go_wp2_with fail
 refine(HP.out _).mono ?_
 rintro e w2 ⟨rfl,hb2⟩
 have HB2:=zh (blN HB0.out (blN (bl2 _) hb2))
 clear hb2
 go_wp2
 go_ret
 exact⟨rfl,HB2.out⟩
theorem rwall_any (w:World) (a b:Nat):Calls Tryz.prog 103 #[.agg #[.int .i64 (a:Int),.int .i64 (b:Int)]] w fun e w'=>e = .returned (.string (wallB a b))∧Below w.heap.size w w':=by
 have h1:=fun W:World=>rtext_any W a 4 (by decide)
 have h2:=fun W:World=>rtext_any W b 4 (by decide)
 have h3:=fun W:World=>rpadded_any W ([70,69,78,67] ++ textL 4 a ++ textL 4 b) (by rw[List.length_append,List.length_append,textL_length,textL_length]; decide)
 have hw:wallB a b=ofL (padL ([70,69,78,67] ++ textL 4 a ++ textL 4 b)):=rfl
 rw[hw]
 have hc1:=text_cat [70,69,78,67] (textL 4 a)
 have hc2:=text_cat ([70,69,78,67] ++ textL 4 a) (textL 4 b)
 have s1:(ofL (textL 4 a)).size=4:=by rw[ofL_size,textL_length]
 have s2:(ofL (textL 4 b)).size=4:=by rw[ofL_size,textL_length]
 have s3:(ofL ([70,69,78,67] ++ textL 4 a)).size=8:=by rw[ofL_size,List.length_append,textL_length]; rfl
 obtain⟨A,hA⟩:=zx (ofL (textL 4 a))
 obtain⟨B,hB⟩:=zx (ofL (textL 4 b))
 obtain⟨C,hC⟩:=zx (ofL ([70,69,78,67] ++ textL 4 a))
 obtain⟨D,hD⟩:=zx (ofL ([70,69,78,67] ++ textL 4 a ++ textL 4 b))
 obtain⟨P,hP⟩:=zx (ofL (padL ([70,69,78,67] ++ textL 4 a ++ textL 4 b)))
 rw[hA] at h1 hc1 s1
 rw[hB] at h2 hc2 s2
 rw[hC] at hc1 hc2 s3
 rw[hD] at hc2 h3
 rw[hP] at h3 ⊢
 change (⟨#[70,69,78,67]⟩:ByteArray) ++ A=C at hc1
 have hl1:¬9223372036854775807<4+A.size:=by omega
 have hl2:¬9223372036854775807<C.size+B.size:=by omega
 clear hA hB hC hD hP hw s1 s2 s3
 obtain⟨x,hx⟩:∃x:Int,(a:Int)=x:=⟨_,rfl⟩
 obtain⟨y,hy⟩:∃x:Int,(b:Int)=x:=⟨_,rfl⟩
 rw[hx] at h1 ⊢
 rw[hy] at h2 ⊢
 clear hx hy
 obtain⟨W0,hW0⟩:=zx (w.alloc (.cells #[.int .i64 x,.int .i64 y] 35))
 have hz:W0.heap[w.heap.size]? = some (.cells #[.int .i64 x,.int .i64 y] 35 (0,0)):=by rw[←hW0]; exact heapNew w _
 have HB0:Hid (Below w.heap.size w W0):=by rw[←hW0]; exact bl2 _
 have HK:Hid (∀W,Below W0.heap.size W0 W→W.cell? ⟨w.heap.size,0,none⟩=some (.int .i64 x)∧W.cell? ⟨w.heap.size,1,none⟩=some (.int .i64 y)):=fun W hW=>⟨cellOf (heapOld hW hz) rfl,cellOf (heapOld hW hz) rfl⟩
 have H1:=zh h1
 have H2:=zh h2
 have H3:=zh h3
 clear h1 h2 h3
 clear hz
 go_enter Tryz.func103,Tryz.ntmps103
 go_wp2_with fail
 go_region_held3 (fun W=>W.cell? ⟨w.heap.size,0,none⟩=some (.int .i64 x)∧W.cell? ⟨w.heap.size,1,none⟩=some (.int .i64 y))
  ((refine HK.out _ ?_; repeat' first | with_reducible exact Below.refl _ _ | with_reducible exact HB1.out | with_reducible exact HB2.out | with_reducible exact HB3.out | with_reducible refine blD ?_ | with_reducible refine bl1 ?_ _))
  (first
    | (go_at_call_of 141 (Value.int .i64 x)
       refine(H1.out _).mono ?_
       rintro e w1 ⟨rfl,hb1⟩
       have HB1:Hid (Below W0.heap.size W0 w1):=blN (by repeat' first | with_reducible exact Below.refl _ _ | with_reducible refine blD ?_ | with_reducible refine bl1 ?_ _) hb1
       clear hb1
       simp only)
    | (go_at_call_of 141 (Value.int .i64 y)
       refine(H2.out _).mono ?_
       rintro e w2 ⟨rfl,hb2⟩
       have HB2:Hid (Below W0.heap.size W0 w2):=blN (by repeat' first | with_reducible exact HB1.out | with_reducible refine blD ?_ | with_reducible refine bl1 ?_ _) hb2
       clear hb2
       simp only)
    | (go_at_call 140
       refine(H3.out _).mono ?_
       rintro e w3 ⟨rfl,hb3⟩
       have HB3:Hid (Below W0.heap.size W0 w3):=blN (by repeat' first | with_reducible exact HB2.out | with_reducible refine blD ?_ | with_reducible refine bl1 ?_ _) hb3
       clear hb3
       simp only))
 all_goals
  go_wp2
  first | exact⟨rfl,blN HB0.out HB3.out⟩ | (go_ret; exact⟨rfl,blN HB0.out HB3.out⟩)
theorem repochs_any (w:World) (s:ByteArray):Calls Tryz.prog 59 #[.string s] w (EpochsPost s w):=by
 by_cases hs:s.size=64
 rotate_left
 ·have HNo:Hid (¬isFence s):=fun h=>hs h.1
  have f:((s.size:Int) == 64)=false:=beq_eq_false_iff_ne.2 (by omega)
  have f2:((s.size:Int) != 64)=true:=by rw[bne,f]; rfl
  clear hs
  go_enter Tryz.func59,Tryz.ntmps59
  go_wp2
  refine bodyPost_ret (v:=.tuple #[.agg #[.int .i64 0,.int .i64 0],.int .i64 40]) (by simp[results,Tryz.results59,go_sem]) rfl ?_
  exact epochs_no HNo.out (by repeat' first | with_reducible exact Below.refl _ _ | with_reducible refine bl1 ?_ _ | with_reducible refine Below.setCell ?_ (Nat.le_refl _) _)
 have f:((s.size:Int) == 64)=true:=beq_iff_eq.2 (by omega)
 have f2:((s.size:Int) != 64)=false:=by rw[bne,f]; rfl
 have h1:=fun W:World=>q33z W s 4 4 (by decide) (by omega) (by omega)
 have h2:=fun W:World=>q33z W s 8 4 (by decide) (by omega) (by omega)
 have hw:=fun W:World=>rwall_any W (numAt s 4 4) (numAt s 8 4)
 have hf:isFence s↔wallB (numAt s 4 4) (numAt s 8 4)=s:=⟨fun h=>h.2,fun h=>⟨hs,h⟩⟩
 obtain⟨a,ha⟩:=zx (numAt s 4 4)
 obtain⟨b,hb⟩:=zx (numAt s 8 4)
 rw[ha,hb] at hw hf
 rw[ha] at h1
 rw[hb] at h2
 obtain⟨R,hR⟩:=zx (wallB a b)
 rw[hR] at hw hf
 change ∀W,Calls _ _ #[_,.int .i64 4,.int .i64 4] _ _ at h1
 change ∀W,Calls _ _ #[_,.int .i64 8,.int .i64 4] _ _ at h2
 obtain⟨W0,hW0⟩:=zx (w.alloc (.cells #[.int .i64 0,.int .i64 0] 35))
 have hz:W0.heap[w.heap.size]? = some (.cells #[.int .i64 0,.int .i64 0] 35 (0,0)):=by rw[←hW0]; exact heapNew w _
 have HB0:Hid (Below w.heap.size w W0):=by rw[←hW0]; exact bl2 _
 have HZ:=zh hz
 have HF:=zh hf
 have HA:=zh ha
 have HBb:=zh hb
 have H1:=zh h1
 have H2:=zh h2
 have HW:=zh hw
 clear h1 h2 hw
 clear hf ha hb hR hs hz
 go_enter Tryz.func59,Tryz.ntmps59
 go_wp2_with fail
 refine(H1.out _).mono ?_
 rintro e w1 ⟨rfl,rfl⟩
 go_wp2_with fail
 refine(H2.out _).mono ?_
 rintro e w1 ⟨rfl,rfl⟩
 clear hW0
 obtain⟨W1,hW1⟩:=zx (W0.alloc (.cells #[.int .i64 (a:Int),.int .i64 (b:Int)] 35))
 have hx:W1.heap[W0.heap.size]? = some (.cells #[.int .i64 (a:Int),.int .i64 (b:Int)] 35 (0,0)):=by rw[←hW1]; exact heapNew W0 _
 have hz1:W1.heap[w.heap.size]? = some (.cells #[.int .i64 0,.int .i64 0] 35 (0,0)):=by rw[←hW1]; exact heapOld (bl2 _) HZ.out
 have HB1:Hid (Below w.heap.size w W1):=by rw[←hW1]; exact bl1 HB0.out _
 have HX:=zh hx
 have HZ1:=zh hz1
 have k0:=zc 0 hx
 have k1:=zc 1 hx
 clear hx hz1
 go_wp2_with fail
 clear k0 k1 hW1
 refine(HW.out _).mono ?_
 rintro e w6 ⟨rfl,hb6⟩
 have HB6:=zh (blN HB1.out hb6)
 have hz0:=heapOld hb6 HZ1.out
 have hz1:=heapOld hb6 HX.out
 have k0:=zc 0 hz1
 have k1:=zc 1 hz1
 have y0:=zc 0 hz0
 have y1:=zc 1 hz0
 have v0:w6.frozen? ⟨w.heap.size,0,none⟩=false:=freeOf hz0
 have v1:w6.frozen? ⟨w.heap.size,1,none⟩=false:=freeOf hz0
 clear hz0 hz1 hb6
 have q:=list_eq R s
 by_cases hR:R=s
 ·have HY:=zh (HF.out.2 hR)
  have fq:(R.toList == s.toList)=true:=q.trans (decide_eq_true hR)
  clear q hR
  go_wp2
  refine bodyPost_ret (v:=.tuple #[.agg #[.int .i64 (a:Int),.int .i64 (b:Int)],.int .i64 0]) (by simp[results,Tryz.results59,go_sem,y0,y1]) rfl ?_
  exact epochs_yes HY.out HA.out HBb.out ((HB6.out.setCell (Nat.le_refl _) _).setCell (Nat.le_refl _) _)
 ·have HNo:=zh (fun h=>hR (HF.out.1 h):¬isFence s)
  have fq:(R.toList == s.toList)=false:=q.trans (decide_eq_false hR)
  clear q hR
  go_wp2
  refine bodyPost_ret (v:=.tuple #[.agg #[.int .i64 0,.int .i64 0],.int .i64 40]) (by simp[results,Tryz.results59,go_sem,y0,y1]) rfl ?_
  exact epochs_no HNo.out ((HB6.out.setCell (Nat.le_refl _) _).setCell (Nat.le_refl _) _)
theorem rsdecode_any (w:World) (s:ByteArray):Calls Tryz.prog 57 #[.string s] w (DecodedG s w):=by
 by_cases hs:s.size=64
 rotate_left
 ·have HNo:Hid (¬isSuper s):=fun h=>hs h.1
  have f:((s.size:Int) == 64)=false:=beq_eq_false_iff_ne.2 (by omega)
  have f2:((s.size:Int) != 64)=true:=by rw[bne,f]; rfl
  clear hs
  go_enter Tryz.func57,Tryz.ntmps57
  go_wp2
  refine bodyPost_ret (v:=.tuple #[.agg #[.int .i64 0,.int .i64 0,.int .i64 0],.int .i64 40]) (by simp[results,Tryz.results57,go_sem]) rfl ?_
  exact decoded_no HNo.out (by repeat' first | with_reducible exact Below.refl _ _ | with_reducible refine bl1 ?_ _ | with_reducible refine Below.setCell ?_ (Nat.le_refl _) _)
 have f:((s.size:Int) == 64)=true:=beq_iff_eq.2 (by omega)
 have f2:((s.size:Int) != 64)=false:=by rw[bne,f]; rfl
 have h4:4<s.size:=by omega
 have h5:5<s.size:=by omega
 have h6:6<s.size:=by omega
 have hx4:∀W:World,(Instr.index 9 (.string s) (.int .i64 4)).run Tryz.prog W = .ok (.int .u8 (s[4].toNat:Int)) W:=fun W=>text_lit W h4
 have hx5:∀W:World,(Instr.index 9 (.string s) (.int .i64 5)).run Tryz.prog W = .ok (.int .u8 (s[5].toNat:Int)) W:=fun W=>text_lit W h5
 have hx6:∀W:World,(Instr.index 9 (.string s) (.int .i64 6)).run Tryz.prog W = .ok (.int .u8 (s[6].toNat:Int)) W:=fun W=>text_lit W h6
 have b4:(s[4].toNat:Int)<256:=by have:=UInt8.toNat_lt s[4]; omega
 have b5:(s[5].toNat:Int)<256:=by have:=UInt8.toNat_lt s[5]; omega
 have b6:(s[6].toNat:Int)<256:=by have:=UInt8.toNat_lt s[6]; omega
 have c4:0≤(s[4].toNat:Int):=by omega
 have c5:0≤(s[5].toNat:Int):=by omega
 have c6:0≤(s[6].toNat:Int):=by omega
 have hg:superOf s=⟨(s[4].toNat:Int),(s[5].toNat:Int),(s[6].toNat:Int)⟩:=by
  unfold superOf
  rw[byteAt_get h4,byteAt_get h5,byteAt_get h6]
 obtain⟨x4,y4⟩:=zx ((s[4].toNat:Int))
 obtain⟨x5,y5⟩:=zx ((s[5].toNat:Int))
 obtain⟨x6,y6⟩:=zx ((s[6].toNat:Int))
 rw[y4] at hx4 b4 c4 hg
 rw[y5] at hx5 b5 c5 hg
 rw[y6] at hx6 b6 c6 hg
 clear y4 y5 y6 h4 h5 h6
 have e4:IntKind.i64.wrap x4=x4:=IntWalk.i64_in _ (by omega)
 have e5:IntKind.i64.wrap x5=x5:=IntWalk.i64_in _ (by omega)
 have e6:IntKind.i64.wrap x6=x6:=IntWalk.i64_in _ (by omega)
 have hsu:isSuper s↔(⟨x4,x5,x6⟩:Sp.Geom).ok∧superB ⟨x4,x5,x6⟩=s:=by
  rw[←hg]
  exact⟨fun h=>h.2,fun h=>⟨hs,h⟩⟩
 have HG:=zh hg
 have HSU:=zh hsu
 have hch:=fun W:World=>rgcheck_any W ⟨x4,x5,x6⟩
 have hone:=fun W:World=>rone_any W ⟨x4,x5,x6⟩ ⟨by omega,by show x4≤255; omega⟩ ⟨by omega,by show x5≤255; omega⟩ ⟨by omega,by show x6≤255; omega⟩
 unfold gV at hch hone
 simp only at hch hone
 have HCH:=zh hch
 have HONE:=zh hone
 clear hch hone
 clear hg hs hsu
 go_enter Tryz.func57,Tryz.ntmps57
 go_upto_region 3 with fail
 go_cut [4] (fun v wx=>DecCut w x4 x5 x6 v wx)
 case first=>
  go_region
  all_goals
   go_wp2
   go_meet
   case rel=>exact⟨rfl,rfl⟩
 case rest=>
 obtain⟨rfl,hwc⟩:=hcut
 obtain⟨hb0,hz0,hz1⟩:=two_boxes hwc.symm
 have HB0:=zh hb0
 have HZ0:=zh hz0
 have HZ1:=zh hz1
 have k0:=zc 0 hz1
 have k1:=zc 1 hz1
 have k2:=zc 2 hz1
 clear hwc hb0 hz0 hz1 hx4 hx5 hx6
 go_wp2_with fail
 clear k0 k1 k2
 refine(HCH.out _).mono ?_
 rintro e w1 ⟨rfl,hb1⟩
 have HB1:=zh (blN HB0.out hb1)
 have HZ2:=zh (heapOld hb1 HZ0.out)
 have HZ3:=zh (heapOld hb1 HZ1.out)
 clear hb1
 by_cases hok:(⟨x4,x5,x6⟩:Sp.Geom).ok
 rotate_left
 ·rw[Geom.check_no hok]
  have HNo:Hid (¬isSuper s):=fun h=>hok (HSU.out.1 h).1
  have y0:=zc 0 HZ2.out
  have y1:=zc 1 HZ2.out
  have y2:=zc 2 HZ2.out
  have v0:w1.frozen? ⟨w.heap.size,0,none⟩=false:=freeOf HZ2.out
  have v1:w1.frozen? ⟨w.heap.size,1,none⟩=false:=freeOf HZ2.out
  have v2:w1.frozen? ⟨w.heap.size,2,none⟩=false:=freeOf HZ2.out
  clear hok HONE
  go_wp2
  refine bodyPost_ret (v:=.tuple #[.agg #[.int .i64 0,.int .i64 0,.int .i64 0],.int .i64 40]) (by simp[results,Tryz.results57,go_sem,y0,y1,y2]) rfl ?_
  exact decoded_no HNo.out (below_three HB1.out (Nat.le_refl _) _ _ _)
 rw[Geom.check_ok hok]
 have HOk:=zh hok
 obtain⟨T,hT⟩:=zx (superB ⟨x4,x5,x6⟩)
 have HTT:=zh hT
 rw[hT] at HONE
 clear hok hT
 have k0:=zc 0 HZ3.out
 have k1:=zc 1 HZ3.out
 have k2:=zc 2 HZ3.out
 go_wp2_with fail
 clear k0 k1 k2
 refine(HONE.out _).mono ?_
 rintro e w2 ⟨rfl,hb2⟩
 have HB2:=zh (blN HB1.out hb2)
 have hz0:=heapOld hb2 HZ2.out
 have hz1:=heapOld hb2 HZ3.out
 have k0:=zc 0 hz1
 have k1:=zc 1 hz1
 have k2:=zc 2 hz1
 have y0:=zc 0 hz0
 have y1:=zc 1 hz0
 have y2:=zc 2 hz0
 have v0:w2.frozen? ⟨w.heap.size,0,none⟩=false:=freeOf hz0
 have v1:w2.frozen? ⟨w.heap.size,1,none⟩=false:=freeOf hz0
 have v2:w2.frozen? ⟨w.heap.size,2,none⟩=false:=freeOf hz0
 clear hz0 hz1 hb2
 have q:=list_eq T s
 by_cases hTs:T=s
 ·have HY:Hid (isSuper s):=HSU.out.2 ⟨HOk.out,HTT.out.trans hTs⟩
  have fq:(T.toList == s.toList)=true:=q.trans (decide_eq_true hTs)
  clear hTs q
  go_wp2
  refine bodyPost_ret (v:=.tuple #[.agg #[.int .i64 x4,.int .i64 x5,.int .i64 x6],.int .i64 0]) (by simp[results,Tryz.results57,go_sem,y0,y1,y2]) rfl ?_
  exact decoded_yes HY.out HG.out (below_three HB2.out (Nat.le_refl _) _ _ _)
 ·have HNo:Hid (¬isSuper s):=fun h=>hTs (HTT.out.symm.trans (HSU.out.1 h).2)
  have fq:(T.toList == s.toList)=false:=q.trans (decide_eq_false hTs)
  clear hTs q
  go_wp2
  refine bodyPost_ret (v:=.tuple #[.agg #[.int .i64 0,.int .i64 0,.int .i64 0],.int .i64 40]) (by simp[results,Tryz.results57,go_sem,y0,y1,y2]) rfl ?_
  exact decoded_no HNo.out (below_three HB2.out (Nat.le_refl _) _ _ _)
end
def chunk (l:List (Int×Int)) (j:Nat):List (Int×Int):=(l.drop (16*j)).take 16
theorem chunk_step {l:List (Int×Int)} {j q:Nat} {x:Int×Int} (hq:q<16) (hx:l[16*j+q]? = some x):(chunk l j).take (q+1)=(chunk l j).take q ++ [x]:=by
 refine take_step ?_
 unfold chunk
 rw[List.getElem?_take_of_lt hq,List.getElem?_drop]
 exact hx
theorem chunk_len {l:List (Int×Int)} {j q:Nat} (hq:q≤16) (h:16*j+q≤l.length):((chunk l j).take q).length=q:=by
 unfold chunk
 rw[List.length_take,List.length_take,List.length_drop]
 omega
theorem chunk_full {l:List (Int×Int)} {j q:Nat} (h:q=16∨l.length≤16*j+q):(chunk l j).take q=chunk l j:=by
 apply List.take_of_length_le
 unfold chunk
 rw[List.length_take,List.length_drop]
 omega
section
theorem rtsectors_any (w:World) (v:Value) (l:List (Int×Int)) (hv:Leases w v l) (hl:l.length≤132) (hok:∀x∈l,leaseOk x):Calls Tryz.prog 143 #[v] w fun e w'=>∃u,e = .returned u∧RTexts w.heap.size w' u (tabB ((l.length+15) / 16) l)∧Below w.heap.size w w':=by
 obtain⟨ad,n,cap,rfl,HN,hn2,HF⟩:=RowAt.facts hv
 have hn:n≤132:=by rw[HN.out]; exact hl
 have HOk:=zh hok
 have htx:=fun(W:World) (a b:Int) (h:leaseOk (a,b))=>rttext_any W a b h
 have HP:Hid (∀u w',RTexts w.heap.size w' u (tabB ((l.length+15) / 16) l)→Below w.heap.size w w'→(fun(e:Ending) (w':World)=>∃u,e = .returned u∧RTexts w.heap.size w' u (tabB ((l.length+15) / 16) l)∧Below w.heap.size w w') (.returned u) w'):=fun u w' ho hb=>⟨u,rfl,ho,hb⟩
 obtain⟨Q,hQ⟩:∃Q,(fun(e:Ending) (w':World)=>∃u,e = .returned u∧RTexts w.heap.size w' u (tabB ((l.length+15) / 16) l)∧Below w.heap.size w w')=Q:=⟨_,rfl⟩
 rw[hQ] at HP ⊢
 have HO0:Hid (RTexts w.heap.size w (.slice none 0 0) (tabB 0 l)):=OwnR.void _ _
 have HB0:Hid (Below w.heap.size w w):=Below.refl _ _
 obtain⟨T,hT⟩:=zx ((n+15) / 16)
 rw[←HN.out,hT] at HP
 have HT:=zh hT
 have HTX:=zh htx
 clear htx
 clear hv hl hok hQ hT
 go_enter Tryz.func143,Tryz.ntmps143
 go_wp2
 go_loopw [3,4,5,6] (fun u i _ _ wr=>∃j:Nat,j≤T∧i = .int .i64 ((16*j:Nat):Int)∧Hid (RTexts w.heap.size wr u (tabB j l))∧Hid (Below w.heap.size w wr)) (fun _ i _ _ _=>16*T-(intOf i).toNat)
 case atStart=>exact⟨0,Nat.zero_le _,rfl,HO0,HB0⟩
 case round=>
  obtain⟨j,hj,rfl,HO,HB⟩:=hrel
  obtain⟨p,hp⟩:=zx (16*j)
  rw[hp]
  by_cases hlt:p<n
  ·have f1:decide ((p:Int)<(n:Int))=true:=decide_eq_true (by omega)
   have e16:IntKind.i64.wrap ((p:Int)+16)=(p:Int)+16:=IntWalk.i64_in _ (by omega)
   have HPj:=zh hp
   have HE0:Hid ((⟨#[]⟩:ByteArray)=ofL (((chunk l j).take 0).flatMap leaseB)):=rfl
   clear hp
   go_wp2_with fail
   rw[HE0.out]
   go_loopw [5,6] (fun t i wr=>∃q:Nat,q≤16∧p+q≤n∧i = .int .i64 ((p+q:Nat):Int)∧t = .string (ofL (((chunk l j).take q).flatMap leaseB))∧Hid (RTexts w.heap.size wr u3 (tabB j l))∧Hid (Below w.heap.size w wr)) (fun _ i _=>n-(intOf i).toNat)
   case atStart=>exact⟨0,Nat.zero_le _,by omega,rfl,rfl,HO,HB⟩
   case round=>
    obtain⟨q,hq,hqn,rfl,rfl,HO,HB⟩:=hrel
    obtain⟨r,hr⟩:=zx (p+q)
    rw[hr]
    have hzl:(ofL (((chunk l j).take q).flatMap leaseB)).size=4*q:=by rw[ofL_size,flat_leases,chunk_len hq (by have:=HPj.out; have:=HN.out; omega)]
    by_cases hlt2:r<p+16∧r<n
    ·have f2:decide ((r:Int)<(p:Int)+16)=true:=decide_eq_true (by omega)
     have f3:decide ((r:Int)<(n:Int))=true:=decide_eq_true (by omega)
     obtain⟨b,o,x,rfl,hb,hx,hc⟩:=HF.out r hlt2.2
     obtain⟨xa,xb⟩:=x
     have c0:wr.cell? ⟨b,o+r*2,none⟩=some (.int .i64 xa):=(HB.out.cell (p:=⟨b,o+r*2,none⟩) hb).trans (hc 0 _ rfl)
     have c1:wr.cell? ⟨b,o+r*2+1,none⟩=some (.int .i64 xb):=(HB.out.cell (p:=⟨b,o+r*2+1,none⟩) hb).trans (hc 1 _ rfl)
     have htx:=fun W:World=>HTX.out W xa xb (HOk.out _ (List.mem_of_getElem? hx))
     have hcs:=chunk_step (l:=l) (j:=j) (q:=q) (x:=(xa,xb)) (by omega) (by rw[HPj.out,hr]; exact hx)
     have hcat:=text_cat (((chunk l j).take q).flatMap leaseB) (leaseB (xa,xb))
     have he:((chunk l j).take q).flatMap leaseB ++ leaseB (xa,xb)=((chunk l j).take (q+1)).flatMap leaseB:=by
      rw[hcs,List.flatMap_append,List.flatMap_cons,List.flatMap_nil,List.append_nil]
     rw[he] at hcat
     have hs4:(ofL (leaseB (xa,xb))).size=4:=by rw[ofL_size,leaseB_length]
     obtain⟨A,hA⟩:=zx (ofL (((chunk l j).take q).flatMap leaseB))
     obtain⟨B,hB⟩:=zx (ofL (leaseB (xa,xb)))
     obtain⟨C,hC⟩:=zx (ofL (((chunk l j).take (q+1)).flatMap leaseB))
     rw[hA] at hcat hzl ⊢
     rw[hB] at hcat htx hs4
     rw[hC] at hcat
     have hlim:¬9223372036854775807<A.size+B.size:=by omega
     have HC:=zh hC
     have HR:=zh hr
     have HL2:=zh hlt2
     have hr0:(r:Int)<(n:Int):=by omega
     have HTX:=zh htx
     clear htx
     clear hA hB hC he hcs hs4 hzl hx hc hlt2
     go_wp2_with fail
     refine(HTX.out _).mono ?_
     rintro e w2 ⟨rfl,hb2⟩
     have HO2:Hid (RTexts w.heap.size w2 u3 (tabB j l)):=OwnR.below HO.out hb2
     have HB2:=zh (blN HB.out hb2)
     clear hb2 c0 c1
     go_wp2
     go_roundw
     case rel=>exact⟨q+1,by have:=HR.out; have:=HL2.out; omega,by have:=HR.out; have:=HL2.out; omega,by have:=HR.out; go_num,by rw[HC.out],HO2,HB2⟩
     case measure=>have:=HR.out; simp[intOf]; omega
    ·have hfull:(chunk l j).take q=chunk l j:=chunk_full (by have:=HPj.out; have:=HN.out; omega)
     have hpad:=text_cat (((chunk l j).take q).flatMap leaseB) (zeros (64-4*q))
     have hpe:((chunk l j).take q).flatMap leaseB ++ zeros (64-4*q)=secB (chunk l j):=by
      unfold secB padL
      have h4:((chunk l j).take q).flatMap leaseB=(chunk l j).flatMap leaseB:=by rw[hfull]
      have h5:((chunk l j).flatMap leaseB).length=4*q:=by rw[←h4,flat_leases,chunk_len hq (by have:=HPj.out; have:=HN.out; omega)]
      rw[h4,h5]
     rw[hpe] at hpad
     have hone:=tabB_one l j
     change tabB (j+1) l=tabB j l ++ [ofL (secB (chunk l j))] at hone
     obtain⟨m,hm⟩:=zx (64-4*q)
     rw[hm] at hpad
     obtain⟨ia,ib,ic,id,ie⟩:=info_parts infoU8
     have hmk:=run_make_bytes (P:=Tryz.prog) wr Tryz.underlying36 ib ic id ie m (by omega)
     have hcv:=run_bytes_text (P:=Tryz.prog) (wr.alloc (bytesO (zeros m) 5 (0,0))) (src:=36) (dst:=9) (z:=[]) (l:=zeros m) (n:=m) Tryz.underlying36 Tryz.underlying5 Tryz.underlying9 (by rw[List.append_nil]; exact heapNew wr _) (zeros_length m).symm m
     have hzz:(ofL (zeros m)).size=m:=by rw[ofL_size,zeros_length]
     obtain⟨A,hA⟩:=zx (ofL (((chunk l j).take q).flatMap leaseB))
     obtain⟨Z,hZ⟩:=zx (ofL (zeros m))
     obtain⟨S,hS⟩:=zx (ofL (secB (chunk l j)))
     obtain⟨W1,hW1⟩:=zx (wr.alloc (bytesO (zeros m) 5 (0,0)))
     have HB1:Hid (Below w.heap.size w W1):=by rw[←hW1]; exact bl1 HB.out _
     have HO1:Hid (RTexts w.heap.size W1 u3 (tabB j l)):=by rw[←hW1]; exact OwnR.below HO.out (bl2 _)
     rw[hA] at hpad hzl ⊢
     rw[hZ] at hpad hcv hzz
     rw[hS] at hpad hone
     rw[hW1] at hmk hcv
     have e1:IntKind.i64.wrap (64-(A.size:Int))=(m:Int):=by rw[IntWalk.i64_in _ (by omega)]; omega
     have hlim:¬9223372036854775807<A.size+Z.size:=by omega
     have hlen:(tabB j l).length≤9:=by rw[tabB_length]; have:=HT.out; have:=HPj.out; omega
     obtain⟨L,hL⟩:=zx (tabB j l)
     rw[hL] at HO1 hlen hone
     have HOne:=zh hone
     have HM:=zh hm
     have HR:=zh hr
     clear hA hZ hS hL hW1 hpe hfull hone hm hzl hzz ia ib ic id ie HO HB
     have hnot:=hlt2
     clear hlt2
     by_cases h2:r<p+16
     ·have f2:decide ((r:Int)<(p:Int)+16)=true:=decide_eq_true (by omega)
      have f3:¬r<n:=by omega
      clear hnot h2
      go_upto_region 10 with fail
      obtain⟨ia4,ib4,ic4,id4,ie4⟩:=info_parts Tryz.infoText
      have hrow4:=HO1.out
      unfold OwnR at hrow4
      have HRow4:=zh hrow4
      clear hrow4
      have HIb4:=zh ib4
      have HIc4:=zh ic4
      have HId4:=zh id4
      have HIe4:=zh ie4
      clear ib4 ic4 id4 ie4
      go_wp2_with (at_builtin; refine wpList_append_lies _ rfl _ _ _ rfl w.heap.size 9 ia4 _ 1 16 Tryz.underlying25 HIb4.out HIc4.out HId4.out HIe4.out rfl (by decide) _ _ _ rfl (HRow4.out.alloc _) ⟨W1.heap.size,0,none⟩ 1 1 [.string S] rfl rfl (World.news_of_block (cs:=#[.string S]) (t:=9) (fr:=(0,0)) (heapNew W1 _)) (by simp[Value.oneCell']) (by omega) ?c1 ?c2 ?c3 (W1.heap.size+1) (by simp) ?_)
      case c1=>unfold maxLen; omega
      case c2=>omega
      case c3=>have:=HB1.out.size; first | (simp; done) | (simp; omega)
      intro g4 cap4 w4 hown4 hgrow4 hat4 hlt4
      have HO4:=zh (OwnR.snoc (f:=stC) (x:=S) hown4 rfl rfl)
      have HB4:Hid (Below w.heap.size _ w4):=Below.grown (bl1 HB1.out _) hgrow4 (bl1 HB1.out _).size (fun q hq=>(HRow4.out.lt q hq).1)
      clear hown4 hgrow4 hat4 hlt4 HRow4
      have HO5:Hid (RTexts w.heap.size w4 (.slice (some ⟨g4,0,none⟩) (L.length+1) cap4) (tabB (j+1) l)):=by rw[HOne.out]; exact HO4.out
      clear HO4
      go_wp2
      go_roundw
      case rel=>exact⟨j+1,by have:=HPj.out; have:=HT.out; omega,by have:=HPj.out; go_num,HO5,HB4⟩
      case measure=>have:=HPj.out; have:=HT.out; simp[intOf]; omega
     ·have f2:decide ((r:Int)<(p:Int)+16)=false:=decide_eq_false (by omega)
      clear hnot h2
      go_upto_region 10 with fail
      obtain⟨ia4,ib4,ic4,id4,ie4⟩:=info_parts Tryz.infoText
      have hrow4:=HO1.out
      unfold OwnR at hrow4
      have HRow4:=zh hrow4
      clear hrow4
      have HIb4:=zh ib4
      have HIc4:=zh ic4
      have HId4:=zh id4
      have HIe4:=zh ie4
      clear ib4 ic4 id4 ie4
      go_wp2_with (at_builtin; refine wpList_append_lies _ rfl _ _ _ rfl w.heap.size 9 ia4 _ 1 16 Tryz.underlying25 HIb4.out HIc4.out HId4.out HIe4.out rfl (by decide) _ _ _ rfl (HRow4.out.alloc _) ⟨W1.heap.size,0,none⟩ 1 1 [.string S] rfl rfl (World.news_of_block (cs:=#[.string S]) (t:=9) (fr:=(0,0)) (heapNew W1 _)) (by simp[Value.oneCell']) (by omega) ?c1 ?c2 ?c3 (W1.heap.size+1) (by simp) ?_)
      case c1=>unfold maxLen; omega
      case c2=>omega
      case c3=>have:=HB1.out.size; first | (simp; done) | (simp; omega)
      intro g4 cap4 w4 hown4 hgrow4 hat4 hlt4
      have HO4:=zh (OwnR.snoc (f:=stC) (x:=S) hown4 rfl rfl)
      have HB4:Hid (Below w.heap.size _ w4):=Below.grown (bl1 HB1.out _) hgrow4 (bl1 HB1.out _).size (fun q hq=>(HRow4.out.lt q hq).1)
      clear hown4 hgrow4 hat4 hlt4 HRow4
      have HO5:Hid (RTexts w.heap.size w4 (.slice (some ⟨g4,0,none⟩) (L.length+1) cap4) (tabB (j+1) l)):=by rw[HOne.out]; exact HO4.out
      clear HO4
      go_wp2
      go_roundw
      case rel=>exact⟨j+1,by have:=HPj.out; have:=HT.out; omega,by have:=HPj.out; go_num,HO5,HB4⟩
      case measure=>have:=HPj.out; have:=HT.out; simp[intOf]; omega
  ·have f1:decide ((p:Int)<(n:Int))=false:=decide_eq_false (by omega)
   obtain rfl:j=T:=by have:=HT.out; omega
   obtain⟨ad,cap,rfl⟩:=OwnR.form HO.out
   have HF:=zh (HP.out _ _ HO.out HB.out)
   go_wp2
   first | exact HF.out | (go_ret; exact HF.out)
def RTEnc (g:Sp.Geom) (l:List (Int×Int)) (w:World) (e:Ending) (w':World):Prop:=
 ∃v,e = .returned (.tuple #[v,.int .i64 (tableC g l)])∧RTexts w.heap.size w' v (tableN g l)∧Below w.heap.size w w'
theorem rtencode_any (w:World) (g:Sp.Geom) (v:Value) (l:List (Int×Int)) (hv:Leases w v l):Calls Tryz.prog 104 #[gV g,v] w (RTEnc g l w):=by
 obtain⟨ad,len,cap,rfl,HN,hn2,HF⟩:=RowAt.facts hv
 have hch:=fun W:World=>rgcheck_any W g
 have hreg:=fun W:World=>rgregions_any W g
 have HNo:Hid (∀c w',tableC g l=c→c≠0→Below w.heap.size w w'→RTEnc g l w (.returned (.tuple #[.slice none 0 0,.int .i64 c])) w'):=fun c w' h hc hb=>⟨_,by rw[h],by
  unfold tableN
  rw[h,if_neg hc]
  exact OwnR.void _ _,hb⟩
 have HYes:Hid (tableC g l=0→∀u w',RTexts w.heap.size w' u (tabB g.tables.toNat l)→Below w.heap.size w w'→RTEnc g l w (.returned (.tuple #[u,.int .i64 0])) w'):=fun h u w' ho hb=>⟨_,by rw[h],by
  unfold tableN
  rw[h,if_pos rfl]
  exact ho,hb⟩
 obtain⟨Q,hQ⟩:=zx (RTEnc g l w)
 rw[hQ] at HNo HYes ⊢
 clear hQ
 by_cases hg:g.ok
 rotate_left
 ·have HN4:=zh (HNo.out 4 · (if_neg (fun h=>hg h.1)) (by decide))
  rw[Geom.check_no hg] at hch
  clear hreg HNo HYes hg hv
  obtain⟨ga,gb,gc⟩:=g
  unfold gV at hch ⊢
  have HCH:=zh hch
  clear hch
  obtain⟨W0,hW0⟩:=zg w ga gb gc
  have hk:=g_keep hW0
  have HB0:=zh hk.1
  have HK:=zh hk.2
  clear hk
  obtain⟨z0,z1,z2⟩:=HK.out W0 (Below.refl _ _)
  go_enter Tryz.func104,Tryz.ntmps104
  go_wp2_with fail
  refine(HCH.out _).mono ?_
  rintro e w1 ⟨rfl,hb1⟩
  have HB1:=zh (blN (Below.refl _ _) hb1)
  clear hb1
  clear z0 z1 z2
  go_wp2
  first | exact HN4.out _ (blN HB0.out HB1.out) | (go_ret2; exact HN4.out _ (blN HB0.out HB1.out))
 rw[Geom.check_ok hg] at hch
 have hrb:=Geom.regions_bd hg
 by_cases hll:(l.length:Int)=g.regions
 rotate_left
 ·have HN4:=zh (HNo.out 4 · (if_neg (fun h=>hll h.2)) (by decide))
  obtain⟨R,hR⟩:=zx (g.regions)
  rw[hR] at hll hreg
  have f:((len:Int) == R)=false:=beq_eq_false_iff_ne.2 (by rw[HN.out]; exact hll)
  have f2:((len:Int) != R)=true:=by rw[bne,f]; rfl
  clear HNo HYes hg hv hll hR hrb
  obtain⟨ga,gb,gc⟩:=g
  unfold gV at hch hreg ⊢
  have HCH:=zh hch
  have HREG:=zh hreg
  clear hch hreg
  obtain⟨W0,hW0⟩:=zg w ga gb gc
  have hk:=g_keep hW0
  have HB0:=zh hk.1
  have HK:=zh hk.2
  clear hk
  obtain⟨z0,z1,z2⟩:=HK.out W0 (Below.refl _ _)
  go_enter Tryz.func104,Tryz.ntmps104
  go_wp2_with fail
  refine(HCH.out _).mono ?_
  rintro e w1 ⟨rfl,hb1⟩
  have HB1:=zh (blN (Below.refl _ _) hb1)
  clear hb1
  clear z0 z1 z2
  obtain⟨z0,z1,z2⟩:=HK.out w1 HB1.out
  go_wp2_with fail
  refine(HREG.out _).mono ?_
  rintro e w2 ⟨rfl,hb2⟩
  have HB2:=zh (blN HB1.out hb2)
  clear hb2
  clear z0 z1 z2
  go_wp2
  first | exact HN4.out _ (blN HB0.out HB2.out) | (go_ret2; exact HN4.out _ (blN HB0.out HB2.out))
 have hlr:(len:Int)=g.regions:=by rw[HN.out]; exact hll
 have hc0:tableC g l=if ∀x∈l,leaseOk x then 0 else 80:=if_pos ⟨hg,hll⟩
 have HBad:Hid (∀x∈l,¬leaseOk x→∀w',Below w.heap.size w w'→Q (.returned (.tuple #[.slice none 0 0,.int .i64 80])) w'):=fun x hx hn w' hb=>HNo.out 80 w' (by rw[hc0,if_neg (fun h=>hn (h x hx))]) (by decide) hb
 have htb:g.tables.toNat=(l.length+15) / 16:=by unfold Geom.tables; rw[←hll]; omega
 rw[htb] at HYes
 have HGood:Hid ((∀x∈l,leaseOk x)→∀u w',RTexts w.heap.size w' u (tabB ((l.length+15) / 16) l)→Below w.heap.size w w'→Q (.returned (.tuple #[u,.int .i64 0])) w'):=fun h=>HYes.out (by rw[hc0,if_pos h])
 have hsec:=fun(W:World) (hW:Below w.heap.size w W) (h:∀x∈l,leaseOk x)=>rtsectors_any W _ l (RowAt.below hv hW) (by omega) h
 have hmay:=fun(W:World) (a b:Int)=>rtmay_any W a b
 rw[←hlr] at hreg
 have f:((len:Int) == (len:Int))=true:=beq_self_eq_true _
 have f2:((len:Int) != (len:Int))=false:=by rw[bne,f]; rfl
 have hlen:len≤132:=by omega
 clear HNo HYes hg hv hll hrb hlr hc0 htb
 obtain⟨ga,gb,gc⟩:=g
 unfold gV at hch hreg ⊢
 have HCH:=zh hch
 have HREG:=zh hreg
 have HSEC:=zh hsec
 have HMAY:=zh hmay
 clear hch hreg hsec hmay
 obtain⟨W0,hW0⟩:=zg w ga gb gc
 have hk:=g_keep hW0
 have HB0:=zh hk.1
 have HK:=zh hk.2
 clear hk
 obtain⟨z0,z1,z2⟩:=HK.out W0 (Below.refl _ _)
 go_enter Tryz.func104,Tryz.ntmps104
 go_wp2_with fail
 refine(HCH.out _).mono ?_
 rintro e w1 ⟨rfl,hb1⟩
 have HB1:=zh (blN (Below.refl _ _) hb1)
 clear hb1
 clear z0 z1 z2
 obtain⟨z0,z1,z2⟩:=HK.out w1 HB1.out
 go_wp2_with fail
 refine(HREG.out _).mono ?_
 rintro e w2 ⟨rfl,hb2⟩
 have HB2:=zh (blN HB1.out hb2)
 clear hb2
 clear z0 z1 z2
 have HA0:Hid (∀x∈l.take 0,leaseOk x):=zh (by simp)
 have HB3:Hid (Below w.heap.size w w2):=blN HB0.out HB2.out
 go_wp2
 go_loopw [6] (fun i wr=>∃k:Nat,k≤len∧i = .int .i64 (k:Int)∧Hid (∀x∈l.take k,leaseOk x)∧Hid (Below w.heap.size w wr)) (fun i _=>len-(intOf i).toNat)
 case atStart=>exact⟨0,Nat.zero_le _,rfl,HA0,HB3⟩
 case round=>
  obtain⟨k,hk,rfl,HA,HB⟩:=hrel
  by_cases hlt:k<len
  ·obtain⟨b,o,x,rfl,hb,hx,hc⟩:=HF.out k hlt
   obtain⟨xa,xb⟩:=x
   have c0:wr.cell? ⟨b,o+k*2,none⟩=some (.int .i64 xa):=(HB.out.cell (p:=⟨b,o+k*2,none⟩) hb).trans (hc 0 _ rfl)
   have c1:wr.cell? ⟨b,o+k*2+1,none⟩=some (.int .i64 xb):=(HB.out.cell (p:=⟨b,o+k*2+1,none⟩) hb).trans (hc 1 _ rfl)
   have hk2:(k:Int)<(len:Int):=by omega
   have hm:=fun W:World=>HMAY.out W xa xb
   have HBx:=zh (HBad.out (xa,xb) (List.mem_of_getElem? hx))
   have HX:=zh hx
   by_cases hlo:leaseOk (xa,xb)
   ·rw[decide_eq_true hlo] at hm
    have HLo:=zh hlo
    have HM:=zh hm
    clear hm
    clear hx hc hlo
    go_wp2_with fail
    refine(HM.out _).mono ?_
    rintro e w4 ⟨rfl,hb4⟩
    have HB4:=zh (blN HB.out hb4)
    have HA4:=zh (take_all HA.out HX.out HLo.out)
    clear hb4 c0 c1
    go_wp2
    go_roundw
    case rel=>exact⟨k+1,by omega,by go_num,HA4,HB4⟩
    case measure=>simp[intOf]; omega
   ·rw[decide_eq_false hlo] at hm
    have HLo:=zh hlo
    have HM:=zh hm
    clear hm
    clear hx hc hlo
    go_wp2_with fail
    refine(HM.out _).mono ?_
    rintro e w4 ⟨rfl,hb4⟩
    have HB4:=zh (blN HB.out hb4)
    clear hb4 c0 c1
    go_wp2
    first | exact HBx.out HLo.out _ HB4.out | (go_ret2; exact HBx.out HLo.out _ HB4.out)
  ·obtain rfl:k=len:=by omega
   have ha:=HA.out
   rw[List.take_of_length_le (by rw[HN.out]; exact Nat.le_refl _)] at ha
   have HA2:=zh ha
   have hk3:¬k<k:=by omega
   clear ha
   go_wp2_with fail
   refine(HSEC.out _ HB.out HA2.out).mono ?_
   rintro e w4 ⟨u,rfl,ho,hb4⟩
   obtain⟨ad4,cap4,rfl⟩:=OwnR.form ho
   have HFin:=zh (HGood.out HA2.out _ _ (OwnR.mono ho HB.out.size) (blN HB.out hb4))
   clear ho hb4
   go_wp2
   first | exact HFin.out | (go_ret2; exact HFin.out)
end
