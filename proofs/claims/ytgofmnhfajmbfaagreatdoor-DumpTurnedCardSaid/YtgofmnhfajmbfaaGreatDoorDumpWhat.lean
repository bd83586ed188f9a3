import Derived.Test.YtgofmnhfajmbfaaGreatDoorDumpNode
set_option maxRecDepth 20000
namespace Go.Proofs.YtgofmnhfajmbfaaGreatDoor
open Go Go.RowKit Txt Sp
def q29z (o:Option (List UInt8)) (w:World) (e:Ending) (w':World):Prop:=
 ∃T,e = .returned (.tuple #[.string T,.bool o.isSome])∧(∀L,o=some L→T=ofL L)∧Below w.heap.size w w'
theorem q127z {o:Option (List UInt8)} {w:World} {e:Ending} {w':World} {T:ByteArray} {b:Bool} (h:e = .returned (.tuple #[.string T,.bool b])) (hb:b=o.isSome) (hT:∀L,o=some L→T=ofL L) (hw:Below w.heap.size w w'):q29z o w e w':=
 ⟨T,by rw[h,hb],hT,hw⟩
theorem what_at {g:Sp.Geom} {a:Int} (hg:g.ok) (h0:0≤a) (h1:a<g.size):g.what a=((g.kind a).1,(g.kind a).2,0):=by
 have:g.within a g.size=0:=by
  unfold Geom.within
  rw[if_pos hg,if_neg (by omega)]
 unfold Geom.what
 rw[if_pos this]
theorem heapNew2 (w:World) (o p:Obj):((w.alloc o).alloc p).heap[w.heap.size+1]? = some p:=by
 have h:=q5z (w.alloc o) p
 have e:(w.alloc o).heap.size=w.heap.size+1:=by show(w.heap.push o).size=_; exact Array.size_push ..
 rw[e] at h
 exact h
def q35z (g:Sp.Geom) (a:Int) (s:ByteArray) (w:World) (e:Ending) (w':World):Prop:=
 e = .returned (.string (ofL (whatL g a s)))∧Below w.heap.size w w'
section
set_option maxHeartbeats 8000000
theorem dwhat_blank (w:World) (g:Sp.Geom) (a:Int) (s:ByteArray) (h:s=Sp.blank):Calls Tryz.prog 160 #[gV g,.int .i64 a,.string s] w (q35z g a s w):=by
 have hbl:=fun W:World=>q66z W
 have hY:∀w',Below w.heap.size w w'→q35z g a s w (.returned (.string ⟨#[98,108,97,110,107]⟩)) w':=fun w' hb=>⟨by unfold whatL; rw[if_pos h]; rfl,hb⟩
 obtain⟨Q,hQ⟩:=zx (q35z g a s w)
 rw[hQ] at hY ⊢
 have q:=q80z s Sp.blank
 have f:(s.toList == Sp.blank.toList)=true:=q.trans (decide_eq_true h)
 clear q h hQ
 obtain⟨BK,hBK⟩:=zx (Sp.blank)
 rw[hBK] at hbl f
 clear hBK
 obtain⟨ga,gb,gc⟩:=g
 unfold gV
 have HBL:=zh hbl
 have HY:=zh hY
 clear hbl hY
 obtain⟨W0,hW0⟩:=zg w ga gb gc
 have hk:=q14z hW0
 have HB0:=zh hk.1
 have HK:=zh hk.2
 clear hk
 go_enter Tryz.func160,Tryz.ntmps160
 go_wp2_with fail
 refine(HBL.out _).mono ?_
 rintro e w1 ⟨rfl,hb1⟩
 have HB1:=zh (blN (Below.refl _ _) hb1)
 clear hb1
 go_wp2
 first | exact HY.out _ (blN HB0.out HB1.out) | (go_ret2; exact HY.out _ (blN HB0.out HB1.out))
theorem dwhat_kind (w:World) (g:Sp.Geom) (a:Int) (s:ByteArray) (hg:g.ok) (h0:0≤a) (h1:a<g.size) (hs:s.size=64) (ht:TabOk w)
 (hnb:¬s=Sp.blank) (hns:¬q51z s) (hnf:¬q56z s)
 (hle:∀W,Below w.heap.size w W→(g.kind a).1=2→Calls Tryz.prog 223 #[gV g,.int .i64 a,.string s] W (q29z (told g a s) W))
 (hli:∀W,Below w.heap.size w W→(g.kind a).1=6→Calls Tryz.prog 226 #[.string s] W (q29z (told g a s) W)) :
 Calls Tryz.prog 160 #[gV g,.int .i64 a,.string s] w (q35z g a s w):=by
 have hbl:=fun W:World=>q66z W
 have hd:=fun W:World=>sdecode_any W s
 unfold q101z q77z q124z at hd
 rw[if_neg hns,if_neg hns] at hd
 have he:=fun W:World=>sepochs_any W s
 unfold q111z at he
 rw[if_neg hnf,if_neg hnf,if_neg hnf] at he
 have hgw:=fun W:World=>gwhat_any W g a
 rw[what_at hg h0 h1] at hgw
 have hmi:∀W,Below w.heap.size w W→(g.kind a).1=3→Calls Tryz.prog 224 #[.string (ofL q117z),.string s,.int .i64 g.inodes] W (q29z (told g a s) W):=fun W hW hk=>(dmapped_any W q117z s g.inodes (by decide) (ht.below hW)).mono fun e w' h=>q127z h.1 (by unfold told; rw[if_neg (by omega),if_pos hk]; by_cases q:mapC s g.inodes=0 <;> simp[q]) (fun L hL=>by
  unfold told at hL
  rw[if_neg (by omega),if_pos hk] at hL
  by_cases q:mapC s g.inodes=0
  ·rw[if_pos q] at hL
   unfold MapL
   rw[if_pos q]
   rw[←Option.some.inj hL]
  ·rw[if_neg q] at hL; exact absurd hL (by simp)) h.2
 have hmb:∀W,Below w.heap.size w W→(g.kind a).1=4→Calls Tryz.prog 224 #[.string (ofL q118z),.string s,.int .i64 g.blocks] W (q29z (told g a s) W):=fun W hW hk=>(dmapped_any W q118z s g.blocks (by decide) (ht.below hW)).mono fun e w' h=>q127z h.1 (by unfold told; rw[if_neg (by omega),if_neg (by omega),if_pos hk]; by_cases q:mapC s g.blocks=0 <;> simp[q]) (fun L hL=>by
  unfold told at hL
  rw[if_neg (by omega),if_neg (by omega),if_pos hk] at hL
  by_cases q:mapC s g.blocks=0
  ·rw[if_pos q] at hL
   unfold MapL
   rw[if_pos q]
   rw[←Option.some.inj hL]
  ·rw[if_neg q] at hL; exact absurd hL (by simp)) h.2
 have hno:∀W,Below w.heap.size w W→(g.kind a).1=5→Calls Tryz.prog 225 #[gV g,.string s] W (q29z (told g a s) W):=fun W hW hk=>(dnode_any W g s (ht.below hW)).mono fun e w' h=>q127z h.1 (by unfold told; rw[if_neg (by omega),if_neg (by omega),if_neg (by omega),if_pos hk]; by_cases q:q13z g s <;> simp[q,hg]) (fun L hL=>by
  unfold told at hL
  rw[if_neg (by omega),if_neg (by omega),if_neg (by omega),if_pos hk] at hL
  by_cases q:q13z g s
  ·rw[if_pos q] at hL
   rw[if_pos ⟨hg,q⟩,←Option.some.inj hL]
   rfl
  ·rw[if_neg q] at hL; exact absurd hL (by simp)) h.2
 have hot:(g.kind a).1≠2→(g.kind a).1≠3→(g.kind a).1≠4→(g.kind a).1≠5→(g.kind a).1≠6→told g a s=none:=fun x2 x3 x4 x5 x6=>by
  unfold told
  rw[if_neg x2,if_neg x3,if_neg x4,if_neg x5,if_neg x6]
 have hhex:=fun W:World=>dhex_any W s (by omega)
 have hwl:whatL g a s=(told g a s).getD (wRaw ++ hexL s.data.toList):=by
  unfold whatL
  rw[if_neg hnb,if_neg hns,if_neg hnf]
 have hcat:=q20z wRaw (hexL s.data.toList)
 have hYr:told g a s=none→∀w',Below w.heap.size w w'→q35z g a s w (.returned (.string (ofL (wRaw ++ hexL s.data.toList)))) w':=fun h w' hb=>⟨by rw[hwl,h]; rfl,hb⟩
 have hYt:∀L,told g a s=some L→∀w',Below w.heap.size w w'→q35z g a s w (.returned (.string (ofL L))) w':=fun L h w' hb=>⟨by rw[hwl,h]; rfl,hb⟩
 have q:=q80z s Sp.blank
 have f:(s.toList == Sp.blank.toList)=false:=q.trans (decide_eq_false hnb)
 obtain⟨Q,hQ⟩:=zx (q35z g a s w)
 rw[hQ] at hYr hYt ⊢
 obtain⟨BK,hBK⟩:=zx (Sp.blank)
 rw[hBK] at hbl f
 obtain⟨o,ho⟩:=zx (told g a s)
 rw[ho] at hle hli hmi hmb hno hot hYr hYt
 have hsz:(ofL (hexL s.data.toList)).size≤1000:=by
  rw[q9z,q92z]
  have:s.data.toList.length=64:=by rw[Array.length_toList]; exact hs
  omega
 obtain⟨HX,hHX⟩:=zx (ofL (hexL s.data.toList))
 obtain⟨RX,hRX⟩:=zx (ofL (wRaw ++ hexL s.data.toList))
 rw[hRX] at hYr hcat
 rw[hHX] at hhex hcat hsz
 have hlim:¬9223372036854775807<4+HX.size:=by omega
 obtain⟨k,hk⟩:=zx ((g.kind a).1)
 obtain⟨k2,hk2⟩:=zx ((g.kind a).2)
 rw[hk] at hle hli hmi hmb hno hot hgw
 rw[hk2] at hgw
 change (⟨#[114,97,119,32]⟩:ByteArray) ++ HX=RX at hcat
 clear q hnb hns hnf hQ hBK ho hHX hRX hk hk2 hwl hg h0 h1 ht hs
 obtain⟨ga,gb,gc⟩:=g
 unfold gV at hd hle hno hgw ⊢
 have hmi':∀W,Below w.heap.size w W→k=3→Calls Tryz.prog 224 #[.string ⟨#[105,110,111,100,101,115]⟩,.string s,.int .i64 gb] W (q29z o W):=hmi
 have hmb':∀W,Below w.heap.size w W→k=4→Calls Tryz.prog 224 #[.string ⟨#[98,108,111,99,107,115]⟩,.string s,.int .i64 gc] W (q29z o W):=hmb
 clear hmi hmb
 have HBL:=zh hbl
 have HD:=zh hd
 have HE:=zh he
 have HGW:=zh hgw
 have HLE:=zh hle
 have HNO:=zh hno
 have HLI:=zh hli
 have HMI':=zh hmi'
 have HMB':=zh hmb'
 have HOT:=zh hot
 have HHEX:=zh hhex
 have HYR:=zh hYr
 have HYT:=zh hYt
 clear hbl hd he hgw hle hno hli hmi' hmb' hot hhex hYr hYt
 obtain⟨W0,hW0⟩:=zg w ga gb gc
 have hk:=q14z hW0
 have HB0:=zh hk.1
 have HK:=zh hk.2
 clear hk
 go_enter Tryz.func160,Tryz.ntmps160
 go_wp2_with fail
 refine(HBL.out _).mono ?_
 rintro e w1 ⟨rfl,hb1⟩
 have HB1:=zh (blN (Below.refl _ _) hb1)
 clear hb1
 go_wp2_with fail
 refine(HD.out _).mono ?_
 rintro e w2 ⟨rfl,hb2⟩
 have HB2:=zh (blN HB1.out hb2)
 clear hb2
 go_wp2_with fail
 refine(HE.out _).mono ?_
 rintro e w3 ⟨rfl,hb3⟩
 have HB3:=zh (blN (bl1 HB2.out _) hb3)
 clear hb3
 obtain⟨z0,z1,z2⟩:=HK.out (w3.alloc (.cells #[.int .i64 0,.int .i64 0] 41)) (bl1 HB3.out _)
 go_wp2_with fail
 clear z0 z1 z2
 refine(HGW.out _).mono ?_
 rintro e w5 ⟨rfl,hb5⟩
 have HB5:=zh (blN (bl1 HB3.out _) hb5)
 have HB6:=zh (blN HB0.out HB5.out)
 clear hb5
 obtain⟨z0,z1,z2⟩:=HK.out w5 HB5.out
 by_cases q2:k=2
 ·subst q2
  go_wp2_with fail
  clear z0 z1 z2
  refine(HLE.out _ HB6.out (by trivial)).mono ?_
  rintro e w7 ⟨T,rfl,hT,hb7⟩
  cases o with
  | none=>
    simp only[Option.isSome]
    go_wp2_with fail
    refine(HHEX.out _).mono ?_
    rintro e w8 ⟨rfl,hb8⟩
    go_wp2
    exact HYR.out (by trivial) _ (blN (blN HB6.out hb7) hb8)
  | some L=>
    simp only[Option.isSome]
    have hT':=hT L rfl
    subst hT'
    go_wp2
    exact HYT.out _ (by trivial) _ (blN HB6.out hb7)
 have g2:(k == 2)=false:=beq_eq_false_iff_ne.2 q2
 by_cases q3:k=3
 ·subst q3
  go_wp2_with fail
  clear z0 z1 z2
  refine(HMI'.out _ HB6.out (by trivial)).mono ?_
  rintro e w7 ⟨T,rfl,hT,hb7⟩
  cases o with
  | none=>
    simp only[Option.isSome]
    go_wp2_with fail
    refine(HHEX.out _).mono ?_
    rintro e w8 ⟨rfl,hb8⟩
    go_wp2
    exact HYR.out (by trivial) _ (blN (blN HB6.out hb7) hb8)
  | some L=>
    simp only[Option.isSome]
    have hT':=hT L rfl
    subst hT'
    go_wp2
    exact HYT.out _ (by trivial) _ (blN HB6.out hb7)
 have g3:(k == 3)=false:=beq_eq_false_iff_ne.2 q3
 by_cases q4:k=4
 ·subst q4
  go_wp2_with fail
  clear z0 z1 z2
  refine(HMB'.out _ HB6.out (by trivial)).mono ?_
  rintro e w7 ⟨T,rfl,hT,hb7⟩
  cases o with
  | none=>
    simp only[Option.isSome]
    go_wp2_with fail
    refine(HHEX.out _).mono ?_
    rintro e w8 ⟨rfl,hb8⟩
    go_wp2
    exact HYR.out (by trivial) _ (blN (blN HB6.out hb7) hb8)
  | some L=>
    simp only[Option.isSome]
    have hT':=hT L rfl
    subst hT'
    go_wp2
    exact HYT.out _ (by trivial) _ (blN HB6.out hb7)
 have g4:(k == 4)=false:=beq_eq_false_iff_ne.2 q4
 by_cases q5:k=5
 ·subst q5
  go_wp2_with fail
  clear z0 z1 z2
  refine(HNO.out _ HB6.out (by trivial)).mono ?_
  rintro e w7 ⟨T,rfl,hT,hb7⟩
  cases o with
  | none=>
    simp only[Option.isSome]
    go_wp2_with fail
    refine(HHEX.out _).mono ?_
    rintro e w8 ⟨rfl,hb8⟩
    go_wp2
    exact HYR.out (by trivial) _ (blN (blN HB6.out hb7) hb8)
  | some L=>
    simp only[Option.isSome]
    have hT':=hT L rfl
    subst hT'
    go_wp2
    exact HYT.out _ (by trivial) _ (blN HB6.out hb7)
 have g5:(k == 5)=false:=beq_eq_false_iff_ne.2 q5
 by_cases q6:k=6
 ·subst q6
  go_wp2_with fail
  clear z0 z1 z2
  refine(HLI.out _ HB6.out (by trivial)).mono ?_
  rintro e w7 ⟨T,rfl,hT,hb7⟩
  cases o with
  | none=>
    simp only[Option.isSome]
    go_wp2_with fail
    refine(HHEX.out _).mono ?_
    rintro e w8 ⟨rfl,hb8⟩
    go_wp2
    exact HYR.out (by trivial) _ (blN (blN HB6.out hb7) hb8)
  | some L=>
    simp only[Option.isSome]
    have hT':=hT L rfl
    subst hT'
    go_wp2
    exact HYT.out _ (by trivial) _ (blN HB6.out hb7)
 have g6:(k == 6)=false:=beq_eq_false_iff_ne.2 q6
 have ho:=HOT.out q2 q3 q4 q5 q6
 subst ho
 clear q2 q3 q4 q5 q6
 go_wp2_with fail
 refine(HHEX.out _).mono ?_
 rintro e w8 ⟨rfl,hb8⟩
 go_wp2
 exact HYR.out (by trivial) _ (blN HB6.out hb8)
theorem dwhat_super (w:World) (g:Sp.Geom) (a:Int) (s:ByteArray) (ht:TabOk w) (hnb:¬s=Sp.blank) (hsu:q51z s) :
 Calls Tryz.prog 160 #[gV g,.int .i64 a,.string s] w (q35z g a s w):=by
 have hbl:=fun W:World=>q66z W
 have hd:=fun W:World=>sdecode_any W s
 unfold q101z q77z q124z at hd
 rw[if_pos hsu,if_pos hsu] at hd
 obtain⟨x,y,z,hx,hy,hz,hso⟩:∃x y z:Nat,x<256∧y<256∧z<256∧q16z s=⟨(x:Int),(y:Int),(z:Int)⟩:=⟨_,_,_,UInt8.toNat_lt _,UInt8.toNat_lt _,UInt8.toNat_lt _,rfl⟩
 rw[hso] at hd
 have hwl:whatL g a s=q94z ++ listL [x,y,z]:=by
  unfold whatL
  rw[if_neg hnb,if_pos hsu,hso]
  rfl
 have hn:∀(W:World) (v:Value),Ints W v [(x:Int),(y:Int),(z:Int)]→TabOk W→Calls Tryz.prog 221 #[.string ⟨#[115,117,112,101,114]⟩,v] W fun e w'=>e = .returned (.string (ofL (q94z ++ listL [x,y,z])))∧Below W.heap.size W w':=fun W v hv ht=>q69z W q94z v [x,y,z] hv (by decide) (by simp) (by intro n hn; simp only[List.mem_cons,List.not_mem_nil,or_false] at hn; omega) ht
 have hI:∀(W:World) (b:Nat),W.heap[b]? = some (.cells #[.int .i64 (x:Int),.int .i64 (y:Int),.int .i64 (z:Int)] 3 (0,0))→Ints W (.slice (some ⟨b,0,none⟩) 3 3) [(x:Int),(y:Int),(z:Int)]:=fun W b hW=>q75z (o:=0) hW (fun j n hj=>by
  match j,hj with
  | 0,hj=>have e:(x:Int)=n:=by simpa using hj
          rw[←e]; rfl
  | 1,hj=>have e:(y:Int)=n:=by simpa using hj
          rw[←e]; rfl
  | 2,hj=>have e:(z:Int)=n:=by simpa using hj
          rw[←e]; rfl
  | q+3,hj=>simp at hj) (by unfold maxLen; simp) rfl
 have hY:∀w',Below w.heap.size w w'→q35z g a s w (.returned (.string (ofL (q94z ++ listL [x,y,z])))) w':=fun w' hb=>⟨by rw[hwl],hb⟩
 obtain⟨T,hT⟩:=zx (ofL (q94z ++ listL [x,y,z]))
 rw[hT] at hn hY
 have q:=q80z s Sp.blank
 have f:(s.toList == Sp.blank.toList)=false:=q.trans (decide_eq_false hnb)
 obtain⟨Q,hQ⟩:=zx (q35z g a s w)
 rw[hQ] at hY ⊢
 obtain⟨BK,hBK⟩:=zx (Sp.blank)
 rw[hBK] at hbl f
 have HT:=zh ht
 clear q hnb hsu hQ hBK hT hso hx hy hz hwl ht
 obtain⟨ga,gb,gc⟩:=g
 unfold gV at hd ⊢
 have HBL:=zh hbl
 have HD:=zh hd
 have HN:=zh hn
 have HI:=zh hI
 have HY:=zh hY
 clear hbl hd hn hI hY
 obtain⟨W0,hW0⟩:=zg w ga gb gc
 have hk:=q14z hW0
 have HB0:=zh hk.1
 have HK:=zh hk.2
 clear hk
 go_enter Tryz.func160,Tryz.ntmps160
 go_wp2_with fail
 refine(HBL.out _).mono ?_
 rintro e w1 ⟨rfl,hb1⟩
 have HB1:=zh (blN (Below.refl _ _) hb1)
 clear hb1
 go_wp2_with fail
 refine(HD.out _).mono ?_
 rintro e w2 ⟨rfl,hb2⟩
 have HB2:=zh (blN HB1.out hb2)
 clear hb2
 go_wp2_with fail
 refine(HN.out _ _ ?a1 ?a2).mono ?_
 case a1=>exact HI.out _ _ (heapNew2 _ _ _)
 case a2=>exact HT.out.below (blN HB0.out (bl1 (bl1 HB2.out _) _))
 rintro e w3 ⟨rfl,hb3⟩
 go_wp2
 exact HY.out _ (blN (blN HB0.out (bl1 (bl1 HB2.out _) _)) hb3)
theorem dwhat_fence (w:World) (g:Sp.Geom) (a:Int) (s:ByteArray) (ht:TabOk w) (hnb:¬s=Sp.blank) (hns:¬q51z s) (hfe:q56z s) :
 Calls Tryz.prog 160 #[gV g,.int .i64 a,.string s] w (q35z g a s w):=by
 have hbl:=fun W:World=>q66z W
 have hd:=fun W:World=>sdecode_any W s
 unfold q101z q77z q124z at hd
 rw[if_neg hns,if_neg hns] at hd
 have he:=fun W:World=>sepochs_any W s
 unfold q111z at he
 rw[if_pos hfe,if_pos hfe,if_pos hfe] at he
 have hwl:whatL g a s=q95z ++ listL [numAt s 4 4,numAt s 8 4]:=by
  unfold whatL
  rw[if_neg hnb,if_neg hns,if_pos hfe]
 have hx:=q121z s 4
 have hy:=q121z s 8
 obtain⟨x,hx'⟩:=zx (numAt s 4 4)
 obtain⟨y,hy'⟩:=zx (numAt s 8 4)
 rw[hx'] at he hx hwl
 rw[hy'] at he hy hwl
 have hn:∀(W:World) (v:Value),Ints W v [(x:Int),(y:Int)]→TabOk W→Calls Tryz.prog 221 #[.string ⟨#[102,101,110,99,101]⟩,v] W fun e w'=>e = .returned (.string (ofL (q95z ++ listL [x,y])))∧Below W.heap.size W w':=fun W v hv ht=>q69z W q95z v [x,y] hv (by decide) (by simp) (by intro n hn; simp only[List.mem_cons,List.not_mem_nil,or_false] at hn; omega) ht
 have hI:∀(W:World) (b:Nat),W.heap[b]? = some (.cells #[.int .i64 (x:Int),.int .i64 (y:Int)] 41 (0,0))→Ints W (.slice (some ⟨b,0,none⟩) 2 2) [(x:Int),(y:Int)]:=fun W b hW=>q75z (o:=0) hW (fun j n hj=>by
  match j,hj with
  | 0,hj=>have e:(x:Int)=n:=by simpa using hj
          rw[←e]; rfl
  | 1,hj=>have e:(y:Int)=n:=by simpa using hj
          rw[←e]; rfl
  | q+2,hj=>simp at hj) (by unfold maxLen; simp) rfl
 have hY:∀w',Below w.heap.size w w'→q35z g a s w (.returned (.string (ofL (q95z ++ listL [x,y])))) w':=fun w' hb=>⟨by rw[hwl],hb⟩
 obtain⟨T,hT⟩:=zx (ofL (q95z ++ listL [x,y]))
 rw[hT] at hn hY
 have q:=q80z s Sp.blank
 have f:(s.toList == Sp.blank.toList)=false:=q.trans (decide_eq_false hnb)
 obtain⟨Q,hQ⟩:=zx (q35z g a s w)
 rw[hQ] at hY ⊢
 obtain⟨BK,hBK⟩:=zx (Sp.blank)
 rw[hBK] at hbl f
 have HT:=zh ht
 clear q hnb hns hfe hQ hBK hT hx hy hx' hy' hwl ht
 obtain⟨ga,gb,gc⟩:=g
 unfold gV at hd ⊢
 have HBL:=zh hbl
 have HD:=zh hd
 have HE:=zh he
 have HN:=zh hn
 have HI:=zh hI
 have HY:=zh hY
 clear hbl hd he hn hI hY
 obtain⟨W0,hW0⟩:=zg w ga gb gc
 have hk:=q14z hW0
 have HB0:=zh hk.1
 have HK:=zh hk.2
 clear hk
 go_enter Tryz.func160,Tryz.ntmps160
 go_wp2_with fail
 refine(HBL.out _).mono ?_
 rintro e w1 ⟨rfl,hb1⟩
 have HB1:=zh (blN (Below.refl _ _) hb1)
 clear hb1
 go_wp2_with fail
 refine(HD.out _).mono ?_
 rintro e w2 ⟨rfl,hb2⟩
 have HB2:=zh (blN HB1.out hb2)
 clear hb2
 go_wp2_with fail
 refine(HE.out _).mono ?_
 rintro e w3 ⟨rfl,hb3⟩
 have HB3:=zh (blN (bl1 HB2.out _) hb3)
 clear hb3
 go_wp2_with fail
 refine(HN.out _ _ ?a1 ?a2).mono ?_
 case a1=>exact HI.out _ _ (q5z _ _)
 case a2=>exact HT.out.below (blN HB0.out (bl1 HB3.out _))
 rintro e w4 ⟨rfl,hb4⟩
 go_wp2
 exact HY.out _ (blN (blN HB0.out (bl1 HB3.out _)) hb4)
end
