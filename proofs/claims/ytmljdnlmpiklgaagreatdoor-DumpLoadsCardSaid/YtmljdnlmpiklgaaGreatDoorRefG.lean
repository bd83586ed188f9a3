import Derived.Test.YtmljdnlmpiklgaaGreatDoorRefF
set_option maxRecDepth 20000
set_option maxHeartbeats 8000000
namespace Go.Proofs.YtmljdnlmpiklgaaGreatDoor
open Go Go.RowKit Txt Sp
section
theorem rwhat_blank (w:World) (g:Sp.Geom) (a:Int) (s:ByteArray) (h:s=Sp.blank):Calls Tryz.prog 24 #[gV g,.int .i64 a,.string s] w (q6z g a s w):=by
 have hY:∀w',Below w.heap.size w w'→q6z g a s w (.returned (.string ⟨#[98,108,97,110,107]⟩)) w':=fun w' hb=>⟨by unfold whatL; rw[if_pos h]; rfl,hb⟩
 obtain⟨Q,hQ⟩:=zx (q6z g a s w)
 rw[hQ] at hY ⊢
 have q:=list_eq s Sp.blank
 have f:(s.toList == Sp.blank.toList)=true:=q.trans (decide_eq_true h)
 clear q h hQ
 obtain⟨BK,hBK⟩:=zx (Sp.blank)
 rw[hBK] at f
 have HBK:Hid (ofL (zeros 64)=BK):=hBK
 clear hBK
 obtain⟨ga,gb,gc⟩:=g
 unfold gV
 have HY:=zh hY
 clear hY
 obtain⟨W0,hW0⟩:=zg w ga gb gc
 have hk:=g_keep hW0
 have HB0:=zh hk.1
 have HK:=zh hk.2
 clear hk
 obtain⟨ia,ib,ic,id,ie⟩:=info_parts infoU8
 have hmk:=run_make_bytes (P:=Tryz.prog) W0 Tryz.underlying36 ib ic id ie 64 (by decide)
 have hcv:=run_bytes_text (P:=Tryz.prog) (W0.alloc (bytesO (zeros 64) 5 (0,0))) (src:=36) (dst:=9) (z:=[]) (l:=zeros 64) (n:=64) Tryz.underlying36 Tryz.underlying5 Tryz.underlying9 (by rw[List.append_nil]; exact heapNew W0 _) (zeros_length 64).symm 64
 rw[HBK.out] at hcv
 obtain⟨W1,hW1⟩:=zx (W0.alloc (bytesO (zeros 64) 5 (0,0)))
 have HB1:Hid (Below W0.heap.size W0 W1):=by rw[←hW1]; exact bl2 _
 rw[hW1] at hmk hcv
 change (Instr.makeSlice _ (.int .i64 64) (.int .i64 64)).run _ _=_ at hmk
 clear hW1 ia ib ic id ie
 go_enter Tryz.func24,Tryz.ntmps24
 go_wp2
 first | exact HY.out _ (blN HB0.out HB1.out) | (go_ret2; exact HY.out _ (blN HB0.out HB1.out)) | (go_ret; exact HY.out _ (blN HB0.out HB1.out))
theorem rwhat_kind (w:World) (g:Sp.Geom) (a:Int) (s:ByteArray) (hg:g.ok) (h0:0≤a) (h1:a<g.size) (hs:s.size=64)
 (hnb:¬s=Sp.blank) (hns:¬isSuper s) (hnf:¬isFence s) :
 Calls Tryz.prog 24 #[gV g,.int .i64 a,.string s] w (q6z g a s w):=by
 have hd:=fun W:World=>rsdecode_any W s
 unfold DecodedG superG superC at hd
 rw[if_neg hns,if_neg hns] at hd
 have he:=fun W:World=>repochs_any W s
 unfold EpochsPost at he
 rw[if_neg hnf,if_neg hnf,if_neg hnf] at he
 have hto:=fun W:World=>rtold_any W g a s hg h0 h1 hs
 have hhex:=fun W:World=>rhex_any W s (by omega)
 have hwl:whatL g a s=(told g a s).getD (wRaw ++ hexL s.data.toList):=by
  unfold whatL
  rw[if_neg hnb,if_neg hns,if_neg hnf]
 have hcat:=text_cat wRaw (hexL s.data.toList)
 have hYr:told g a s=none→∀w',Below w.heap.size w w'→q6z g a s w (.returned (.string (ofL (wRaw ++ hexL s.data.toList)))) w':=fun h w' hb=>⟨by rw[hwl,h]; rfl,hb⟩
 have hYt:∀L,told g a s=some L→∀w',Below w.heap.size w w'→q6z g a s w (.returned (.string (ofL L))) w':=fun L h w' hb=>⟨by rw[hwl,h]; rfl,hb⟩
 have q:=list_eq s Sp.blank
 have f:(s.toList == Sp.blank.toList)=false:=q.trans (decide_eq_false hnb)
 obtain⟨Q,hQ⟩:=zx (q6z g a s w)
 rw[hQ] at hYr hYt ⊢
 obtain⟨BK,hBK⟩:=zx (Sp.blank)
 rw[hBK] at f
 have HBK:Hid (ofL (zeros 64)=BK):=hBK
 obtain⟨o,ho⟩:=zx (told g a s)
 rw[ho] at hto hYr hYt
 have hsz:(ofL (hexL s.data.toList)).size≤1000:=by
  rw[ofL_size,q26z]
  have:s.data.toList.length=64:=by rw[Array.length_toList]; exact hs
  omega
 obtain⟨HX,hHX⟩:=zx (ofL (hexL s.data.toList))
 obtain⟨RX,hRX⟩:=zx (ofL (wRaw ++ hexL s.data.toList))
 rw[hRX] at hYr hcat
 rw[hHX] at hhex hcat hsz
 have hlim:¬9223372036854775807<4+HX.size:=by omega
 change (⟨#[114,97,119,32]⟩:ByteArray) ++ HX=RX at hcat
 clear q hnb hns hnf hQ hBK ho hHX hRX hwl hg h0 h1 hs
 obtain⟨ga,gb,gc⟩:=g
 unfold gV at hd hto ⊢
 have HD:=zh hd
 have HE:=zh he
 have HTO:=zh hto
 have HHEX:=zh hhex
 have HYR:=zh hYr
 have HYT:=zh hYt
 clear hd he hto hhex hYr hYt
 obtain⟨W0,hW0⟩:=zg w ga gb gc
 have hk:=g_keep hW0
 have HB0:=zh hk.1
 have HK:=zh hk.2
 clear hk
 obtain⟨ia,ib,ic,id,ie⟩:=info_parts infoU8
 have hmk:=run_make_bytes (P:=Tryz.prog) W0 Tryz.underlying36 ib ic id ie 64 (by decide)
 have hcv:=run_bytes_text (P:=Tryz.prog) (W0.alloc (bytesO (zeros 64) 5 (0,0))) (src:=36) (dst:=9) (z:=[]) (l:=zeros 64) (n:=64) Tryz.underlying36 Tryz.underlying5 Tryz.underlying9 (by rw[List.append_nil]; exact heapNew W0 _) (zeros_length 64).symm 64
 rw[HBK.out] at hcv
 obtain⟨W1,hW1⟩:=zx (W0.alloc (bytesO (zeros 64) 5 (0,0)))
 have HB1:Hid (Below W0.heap.size W0 W1):=by rw[←hW1]; exact bl2 _
 rw[hW1] at hmk hcv
 change (Instr.makeSlice _ (.int .i64 64) (.int .i64 64)).run _ _=_ at hmk
 clear hW1 ia ib ic id ie
 go_enter Tryz.func24,Tryz.ntmps24
 go_wp2_with fail
 refine(HD.out _).mono ?_
 rintro e w2 ⟨rfl,hb2⟩
 have HB2:=zh (blN HB1.out hb2)
 clear hb2
 clear hmk hcv
 go_wp2_with fail
 refine(HE.out _).mono ?_
 rintro e w3 ⟨rfl,hb3⟩
 have HB3:=zh (blN (bl1 HB2.out _) hb3)
 clear hb3
 obtain⟨z0,z1,z2⟩:=HK.out (w3.alloc (.cells #[.int .i64 0,.int .i64 0] 35)) (bl1 HB3.out _)
 go_wp2_with fail
 clear z0 z1 z2
 refine(HTO.out _).mono ?_
 rintro e w7 ⟨T,rfl,hT,hb7⟩
 have HB7:=zh (blN HB0.out (blN (bl1 HB3.out _) hb7))
 clear hb7
 cases o with
 | none=>
   simp only[Option.isSome]
   clear hT
   go_wp2_with fail
   refine(HHEX.out _).mono ?_
   rintro e w8 ⟨rfl,hb8⟩
   have HF:=zh (HYR.out (by first | rfl | trivial) _ (blN HB7.out hb8))
   clear hb8
   go_wp2
   first | exact HF.out | (go_ret2; exact HF.out) | (go_ret; exact HF.out)
 | some L=>
   simp only[Option.isSome]
   have hT':=hT L rfl
   subst hT'
   have HF:=zh (HYT.out L (by first | rfl | trivial) _ HB7.out)
   clear hT
   go_wp2
   first | exact HF.out | (go_ret2; exact HF.out) | (go_ret; exact HF.out)
theorem rwhat_super (w:World) (g:Sp.Geom) (a:Int) (s:ByteArray) (hnb:¬s=Sp.blank) (hsu:isSuper s) :
 Calls Tryz.prog 24 #[gV g,.int .i64 a,.string s] w (q6z g a s w):=by
 have hd:=fun W:World=>rsdecode_any W s
 unfold DecodedG superG superC at hd
 rw[if_pos hsu,if_pos hsu] at hd
 obtain⟨x,y,z,hx,hy,hz,hso⟩:∃x y z:Nat,x<256∧y<256∧z<256∧superOf s=⟨(x:Int),(y:Int),(z:Int)⟩:=⟨_,_,_,UInt8.toNat_lt _,UInt8.toNat_lt _,UInt8.toNat_lt _,rfl⟩
 rw[hso] at hd
 have hwl:whatL g a s=wSuper ++ listL [x,y,z]:=by
  unfold whatL
  rw[if_neg hnb,if_pos hsu,hso]
  rfl
 have hall:∀n∈[x,y,z],n<9223372036854775808:=by intro n hn; simp only[List.mem_cons,List.not_mem_nil,or_false] at hn; omega
 have hI:∀(W:World) (b:Nat),W.heap[b]? = some (.cells #[.int .i64 (x:Int),.int .i64 (y:Int),.int .i64 (z:Int)] 3 (0,0))→Ints W (.slice (some ⟨b,0,none⟩) 3 3) [(x:Int),(y:Int),(z:Int)]:=fun W b hW=>ints_block (o:=0) hW (fun j n hj=>by
  match j,hj with
  | 0,hj=>have e:(x:Int)=n:=by simpa using hj
          rw[←e]; rfl
  | 1,hj=>have e:(y:Int)=n:=by simpa using hj
          rw[←e]; rfl
  | 2,hj=>have e:(z:Int)=n:=by simpa using hj
          rw[←e]; rfl
  | q+3,hj=>simp at hj) (by unfold maxLen; simp) rfl
 have hn:=fun(W:World) (b:Nat) hW=>q49z W _ [x,y,z] (hI W b hW) (by simp) hall
 have hcat:=text_cat wSuper (listL [x,y,z])
 have hlz:(ofL (listL [x,y,z])).size≤60:=by rw[ofL_size]; exact q19z [x,y,z] hall
 have hY:∀w',Below w.heap.size w w'→q6z g a s w (.returned (.string (ofL (wSuper ++ listL [x,y,z])))) w':=fun w' hb=>⟨by rw[hwl],hb⟩
 obtain⟨T,hT⟩:=zx (ofL (wSuper ++ listL [x,y,z]))
 obtain⟨L,hL⟩:=zx (ofL (listL [x,y,z]))
 rw[hT] at hcat hY
 rw[hL] at hn hcat hlz
 change (⟨#[115,117,112,101,114]⟩:ByteArray) ++ L=T at hcat
 have hlim:¬9223372036854775807<5+L.size:=by omega
 have q:=list_eq s Sp.blank
 have f:(s.toList == Sp.blank.toList)=false:=q.trans (decide_eq_false hnb)
 obtain⟨Q,hQ⟩:=zx (q6z g a s w)
 rw[hQ] at hY ⊢
 obtain⟨BK,hBK⟩:=zx (Sp.blank)
 rw[hBK] at f
 have HBK:Hid (ofL (zeros 64)=BK):=hBK
 clear q hnb hsu hQ hBK hT hL hso hx hy hz hwl hI hall hlz
 obtain⟨ga,gb,gc⟩:=g
 unfold gV at hd ⊢
 have HD:=zh hd
 have HN:=zh hn
 have HY:=zh hY
 clear hd hn hY
 obtain⟨W0,hW0⟩:=zg w ga gb gc
 have hk:=g_keep hW0
 have HB0:=zh hk.1
 have HK:=zh hk.2
 clear hk
 obtain⟨ia,ib,ic,id,ie⟩:=info_parts infoU8
 have hmk:=run_make_bytes (P:=Tryz.prog) W0 Tryz.underlying36 ib ic id ie 64 (by decide)
 have hcv:=run_bytes_text (P:=Tryz.prog) (W0.alloc (bytesO (zeros 64) 5 (0,0))) (src:=36) (dst:=9) (z:=[]) (l:=zeros 64) (n:=64) Tryz.underlying36 Tryz.underlying5 Tryz.underlying9 (by rw[List.append_nil]; exact heapNew W0 _) (zeros_length 64).symm 64
 rw[HBK.out] at hcv
 obtain⟨W1,hW1⟩:=zx (W0.alloc (bytesO (zeros 64) 5 (0,0)))
 have HB1:Hid (Below W0.heap.size W0 W1):=by rw[←hW1]; exact bl2 _
 rw[hW1] at hmk hcv
 change (Instr.makeSlice _ (.int .i64 64) (.int .i64 64)).run _ _=_ at hmk
 clear hW1 ia ib ic id ie
 go_enter Tryz.func24,Tryz.ntmps24
 go_wp2_with fail
 refine(HD.out _).mono ?_
 rintro e w2 ⟨rfl,hb2⟩
 have HB2:=zh (blN HB1.out hb2)
 clear hb2
 clear hmk hcv
 go_wp2_with fail
 refine(HN.out _ _ ?a1).mono ?_
 case a1=>exact heapNew2 _ _ _
 rintro e w3 ⟨rfl,hb3⟩
 have HF:=zh (HY.out _ (blN (blN HB0.out (bl1 (bl1 HB2.out _) _)) hb3))
 clear hb3
 go_wp2
 first | exact HF.out | (go_ret2; exact HF.out) | (go_ret; exact HF.out)
theorem rwhat_fence (w:World) (g:Sp.Geom) (a:Int) (s:ByteArray) (hnb:¬s=Sp.blank) (hns:¬isSuper s) (hfe:isFence s) :
 Calls Tryz.prog 24 #[gV g,.int .i64 a,.string s] w (q6z g a s w):=by
 have hd:=fun W:World=>rsdecode_any W s
 unfold DecodedG superG superC at hd
 rw[if_neg hns,if_neg hns] at hd
 have he:=fun W:World=>repochs_any W s
 unfold EpochsPost at he
 rw[if_pos hfe,if_pos hfe,if_pos hfe] at he
 have hwl:whatL g a s=wFence ++ listL [numAt s 4 4,numAt s 8 4]:=by
  unfold whatL
  rw[if_neg hnb,if_neg hns,if_pos hfe]
 have hx:=numAt_lt s 4
 have hy:=numAt_lt s 8
 obtain⟨x,hx'⟩:=zx (numAt s 4 4)
 obtain⟨y,hy'⟩:=zx (numAt s 8 4)
 rw[hx'] at he hx hwl
 rw[hy'] at he hy hwl
 have hall:∀n∈[x,y],n<9223372036854775808:=by intro n hn; simp only[List.mem_cons,List.not_mem_nil,or_false] at hn; omega
 have hI:∀(W:World) (b:Nat),W.heap[b]? = some (.cells #[.int .i64 (x:Int),.int .i64 (y:Int)] 35 (0,0))→Ints W (.slice (some ⟨b,0,none⟩) 2 2) [(x:Int),(y:Int)]:=fun W b hW=>ints_block (o:=0) hW (fun j n hj=>by
  match j,hj with
  | 0,hj=>have e:(x:Int)=n:=by simpa using hj
          rw[←e]; rfl
  | 1,hj=>have e:(y:Int)=n:=by simpa using hj
          rw[←e]; rfl
  | q+2,hj=>simp at hj) (by unfold maxLen; simp) rfl
 have hn:=fun(W:World) (b:Nat) hW=>q49z W _ [x,y] (hI W b hW) (by simp) hall
 have hcat:=text_cat wFence (listL [x,y])
 have hlz:(ofL (listL [x,y])).size≤40:=by rw[ofL_size]; exact q19z [x,y] hall
 have hY:∀w',Below w.heap.size w w'→q6z g a s w (.returned (.string (ofL (wFence ++ listL [x,y])))) w':=fun w' hb=>⟨by rw[hwl],hb⟩
 obtain⟨T,hT⟩:=zx (ofL (wFence ++ listL [x,y]))
 obtain⟨L,hL⟩:=zx (ofL (listL [x,y]))
 rw[hT] at hcat hY
 rw[hL] at hn hcat hlz
 change (⟨#[102,101,110,99,101]⟩:ByteArray) ++ L=T at hcat
 have hlim:¬9223372036854775807<5+L.size:=by omega
 have q:=list_eq s Sp.blank
 have f:(s.toList == Sp.blank.toList)=false:=q.trans (decide_eq_false hnb)
 obtain⟨Q,hQ⟩:=zx (q6z g a s w)
 rw[hQ] at hY ⊢
 obtain⟨BK,hBK⟩:=zx (Sp.blank)
 rw[hBK] at f
 have HBK:Hid (ofL (zeros 64)=BK):=hBK
 clear q hnb hns hfe hQ hBK hT hL hx hy hx' hy' hwl hI hall hlz
 obtain⟨ga,gb,gc⟩:=g
 unfold gV at hd ⊢
 have HD:=zh hd
 have HE:=zh he
 have HN:=zh hn
 have HY:=zh hY
 clear hd he hn hY
 obtain⟨W0,hW0⟩:=zg w ga gb gc
 have hk:=g_keep hW0
 have HB0:=zh hk.1
 have HK:=zh hk.2
 clear hk
 obtain⟨ia,ib,ic,id,ie⟩:=info_parts infoU8
 have hmk:=run_make_bytes (P:=Tryz.prog) W0 Tryz.underlying36 ib ic id ie 64 (by decide)
 have hcv:=run_bytes_text (P:=Tryz.prog) (W0.alloc (bytesO (zeros 64) 5 (0,0))) (src:=36) (dst:=9) (z:=[]) (l:=zeros 64) (n:=64) Tryz.underlying36 Tryz.underlying5 Tryz.underlying9 (by rw[List.append_nil]; exact heapNew W0 _) (zeros_length 64).symm 64
 rw[HBK.out] at hcv
 obtain⟨W1,hW1⟩:=zx (W0.alloc (bytesO (zeros 64) 5 (0,0)))
 have HB1:Hid (Below W0.heap.size W0 W1):=by rw[←hW1]; exact bl2 _
 rw[hW1] at hmk hcv
 change (Instr.makeSlice _ (.int .i64 64) (.int .i64 64)).run _ _=_ at hmk
 clear hW1 ia ib ic id ie
 go_enter Tryz.func24,Tryz.ntmps24
 go_wp2_with fail
 refine(HD.out _).mono ?_
 rintro e w2 ⟨rfl,hb2⟩
 have HB2:=zh (blN HB1.out hb2)
 clear hb2
 clear hmk hcv
 go_wp2_with fail
 refine(HE.out _).mono ?_
 rintro e w3 ⟨rfl,hb3⟩
 have HB3:=zh (blN (bl1 HB2.out _) hb3)
 clear hb3
 go_wp2_with fail
 refine(HN.out _ _ ?a1).mono ?_
 case a1=>exact heapNew _ _
 rintro e w4 ⟨rfl,hb4⟩
 have HF:=zh (HY.out _ (blN (blN HB0.out (bl1 HB3.out _)) hb4))
 clear hb4
 go_wp2
 first | exact HF.out | (go_ret2; exact HF.out) | (go_ret; exact HF.out)
theorem rwhat_any (w:World) (g:Sp.Geom) (a:Int) (s:ByteArray) (hg:g.ok) (h0:0≤a) (h1:a<g.size) (hs:s.size=64) :
 Calls Tryz.prog 24 #[gV g,.int .i64 a,.string s] w (q6z g a s w):=by
 by_cases hb:s=Sp.blank
 ·exact rwhat_blank w g a s hb
 by_cases hsu:isSuper s
 ·exact rwhat_super w g a s hb hsu
 by_cases hfe:isFence s
 ·exact rwhat_fence w g a s hb hsu hfe
 exact rwhat_kind w g a s hg h0 h1 hs hb hsu hfe
end
section
end
section
end
section
end
