import Derived.Test.YtmljdnlmpiklgaaGreatDoorRefUndir
import Derived.Test.YtmljdnlmpiklgaaGreatDoorRefUninode
namespace Go.Proofs.YtmljdnlmpiklgaaGreatDoor
open Go Go.RowKit Txt Sp
section
variable (g:Sp.Geom) (a:Int) (r:List (List UInt8))
theorem readP_wBlank:readP g a (wBlank :: r)=(if r=[] then some Sp.blank else none):=by rw[q18z,if_pos rfl]
theorem readP_wLeases:readP g a (wLeases :: r)=q8z g a r:=by rw[q18z,if_neg (by decide),if_pos rfl]
theorem readP_wInode5:readP g a (q17z :: r)=q15z g r:=by rw[q18z,if_neg (by decide),if_neg (by decide),if_pos rfl]
theorem readP_wDir:readP g a (wDir :: r)=q27z r:=by rw[q18z,if_neg (by decide),if_neg (by decide),if_neg (by decide),if_pos rfl]
theorem readP_wSuper:readP g a (wSuper :: r)=q30z r:=by rw[q18z,if_neg (by decide),if_neg (by decide),if_neg (by decide),if_neg (by decide),if_pos rfl]
theorem readP_wFence:readP g a (wFence :: r)=q31z r:=by rw[q18z,if_neg (by decide),if_neg (by decide),if_neg (by decide),if_neg (by decide),if_neg (by decide),if_pos rfl]
theorem readP_wInodes:readP g a (wInodes :: r)=mapP g.inodes r:=by rw[q18z,if_neg (by decide),if_neg (by decide),if_neg (by decide),if_neg (by decide),if_neg (by decide),if_neg (by decide),if_pos rfl]
theorem readP_wBlocks:readP g a (wBlocks :: r)=mapP g.blocks r:=by rw[q18z,if_neg (by decide),if_neg (by decide),if_neg (by decide),if_neg (by decide),if_neg (by decide),if_neg (by decide),if_neg (by decide),if_pos rfl]
theorem readP_wRaw3:readP g a (wRaw3 :: r)=match r with
 | [x]=>match q4z x with
   | some l=>if l.length=64 then some (ofL l) else none
   | none=>none
 | _=>none:=by
 rw[q18z,if_neg (by decide),if_neg (by decide),if_neg (by decide),if_neg (by decide),if_neg (by decide),if_neg (by decide),if_neg (by decide),if_neg (by decide),if_pos rfl]
 match r with
 | []=>rfl
 | [_]=>rfl
 | _ :: _ :: _=>rfl
theorem readP_other {x:List UInt8} (h0:x≠wBlank) (h1:x≠wLeases) (h2:x≠q17z) (h3:x≠wDir) (h4:x≠wSuper) (h5:x≠wFence) (h6:x≠wInodes) (h7:x≠wBlocks) (h8:x≠wRaw3):readP g a (x :: r)=none:=by rw[q18z,if_neg h0,if_neg h1,if_neg h2,if_neg h3,if_neg h4,if_neg h5,if_neg h6,if_neg h7,if_neg h8]
end
theorem three_of {α:Type} {l:List α} (h:l.length=3):∃a b c,l=[a,b,c]:=by
 match l,h with
 | [a,b,c],_=>exact⟨a,b,c,rfl⟩
theorem superP_o {r:List (List UInt8)}:(∀a b c,numsP r=some [a,b,c]→q30z r=if Geom.ok ⟨a,b,c⟩ then some (superB ⟨a,b,c⟩) else none)∧(numsP r=none→q30z r=none)∧(∀l,numsP r=some l→l.length≠3→q30z r=none):=by
 unfold q30z
 refine⟨fun a b c h=>by rw[h],fun h=>by rw[h],fun l h hl=>?_⟩
 rw[h]
 match l,hl with
 | [],_=>rfl
 | [_],_=>rfl
 | [_,_],_=>rfl
 | _ :: _ :: _ :: _ :: _,_=>rfl
theorem fenceP_o {r:List (List UInt8)}:(∀a b,numsP r=some [a,b]→q31z r=if a<4294967296∧b<4294967296 then some (wallB a b) else none)∧(numsP r=none→q31z r=none)∧(∀l,numsP r=some l→l.length≠2→q31z r=none):=by
 unfold q31z
 refine⟨fun a b h=>by rw[h],fun h=>by rw[h],fun l h hl=>?_⟩
 rw[h]
 match l,hl with
 | [],_=>rfl
 | [_],_=>rfl
 | _ :: _ :: _ :: _,_=>rfl
theorem mapP_o {n:Int} {r:List (List UInt8)}:(∀l,numsP r=some l→mapP n r=mapS n l)∧(numsP r=none→mapP n r=none):=by
 unfold mapP
 exact⟨fun l h=>by rw[h],fun h=>by rw[h]⟩
theorem ofPost_map {n:Int} {l:List Nat} {w w':World} {e:Ending} (h:OfPost n (l.map Int.ofNat) w e w'):∃T c,e = .returned (.tuple #[.string T,.int .i64 c])∧(c == 0)=(mapS n l).isSome∧(∀s,mapS n l=some s→T=s)∧Below w.heap.size w w':=by
 obtain⟨rfl,hb⟩:=h
 refine⟨_,_,rfl,?_,?_,hb⟩
 ·unfold mapS
  by_cases hc:ofC n (l.map Int.ofNat)=0
  ·rw[hc,if_pos rfl]; rfl
  ·rw[if_neg hc,beq_eq_false_iff_ne.2 hc]; rfl
 ·unfold mapS
  intro s hs
  by_cases hc:ofC n (l.map Int.ofNat)=0
  ·rw[if_pos hc] at hs ⊢
   rw[←Option.some.inj hs,ofL1_map]
  ·rw[if_neg hc] at hs
   cases hs
section
set_option maxHeartbeats 16000000
set_option maxRecDepth 20000 in
theorem rread_any (w:World) (g:Sp.Geom) (a:Nat) (v:Value) (x:List UInt8) (r:List (List UInt8)) (hg:g.ok) (ha:a≤1000000) (hv:Texts w v ((x :: r).map ofL)) (hs:∀y∈x :: r,y.length≤4000000) (hl:(x :: r).length≤4000001) :
 Calls Tryz.prog 23 #[gV g,.int .i64 (a:Int),v] w (q1z (readP g (a:Int) (x :: r)) w):=by
 obtain⟨bb,o,cap,hvv,h1,h2,hb,hc⟩:=hv.open_ne (by simp)
 have hsr:∀y∈r,y.length≤4000000:=fun y hy=>hs y (List.mem_cons_of_mem _ hy)
 have hlr:r.length≤4000001:=by simp only[List.length_cons] at hl; omega
 obtain⟨N,hN⟩:=zx (((x :: r).map ofL).length)
 rw[hN] at hvv h1
 have hN2:N=r.length+1:=by rw[←hN]; simp
 subst hvv
 have hc0:w.cell? ⟨bb,o,none⟩=some (.string (ofL x)):=hc 0 _ rfl
 obtain⟨ad,had⟩:=zx ((if cap=1 then some ⟨bb,o,none⟩ else some ⟨bb,o+1,none⟩:Option Addr))
 have hrest:Texts w (.slice ad (N-1) (cap-1)) (r.map ofL):=by
  rw[←had]
  by_cases hc1:cap=1
  ·have hr:r=[]:=List.length_eq_zero_iff.1 (by omega)
   rw[if_pos hc1,hr,show N-1=0 by omega,show cap-1=0 by omega]
   exact⟨_,_,rfl,Nat.le_refl _,Nat.zero_le _,fun h=>absurd h (by simp)⟩
  ·rw[if_neg hc1]
   exact Texts.rest (x:=ofL x) (by rw[List.length_map]; omega) (by omega) h2 hb (fun j y hy=>hc j y hy) rfl
 have HC0:Hid (∀W,Below w.heap.size w W→W.cell? ⟨bb,o,none⟩=some (.string (ofL x))):=fun W hW=>(hW.cell (p:=⟨bb,o,none⟩) hb).trans hc0
 have hnu:=fun(W:World) (hW:Below w.heap.size w W)=>rnums_any W _ r (hrest.below hW) (fun y hy=>by have:=hsr y hy; omega) hlr
 have hul:=fun(W:World) (hW:Below w.heap.size w W)=>runlease_any W g a _ r hg ha (hrest.below hW) hsr
 have hun:=fun(W:World) (hW:Below w.heap.size w W)=>runinode_any W g _ r (hrest.below hW) hsr
 have hud:=fun(W:World) (hW:Below w.heap.size w W)=>rundir_any W _ r (hrest.below hW) hsr hlr
 have hno:=fun(h:readP g (a:Int) (x :: r)=none) (T:ByteArray) (w':World) (hb:Below w.heap.size w w')=>rd_no (w:=w) h T hb
 have hyes:=fun(s:ByteArray) (h:readP g (a:Int) (x :: r)=some s) (w':World) (hb:Below w.heap.size w w')=>q37z (w:=w) h hb
 have hany:=fun(o:Option ByteArray) (h:readP g (a:Int) (x :: r)=o) (W:World) (hb:Below w.heap.size w W) (e:Ending) (w':World) (hr:q1z o W e w')=>show q1z (readP g (a:Int) (x :: r)) w e w' from by rw[h]; exact hr.any hb
 obtain⟨Q,hQ⟩:=zx (q1z (readP g (a:Int) (x :: r)) w)
 rw[hQ] at hno hyes hany ⊢
 unfold q24z at hnu
 obtain⟨X,hX⟩:=zx (ofL x)
 rw[hX] at HC0
 have hq:∀l:List UInt8,(X.toList == l)=decide (x=l):=fun l=>by rw[←hX]; exact q20z x l
 have hNi:(1:Int)≤(N:Int):=by omega
 have hN1:1≤N:=by omega
 have hc1:1≤cap:=by omega
 have HN2:=zh hN2
 have HRow:Hid (∀(W:World) (j:Nat) (y:List UInt8),Below w.heap.size w W→r[j]? = some y→W.cell? ⟨bb,o+(j+1),none⟩=some (.string (ofL y))):=fun W j y hW hj=>(hW.cell (p:=⟨bb,o+(j+1),none⟩) hb).trans (hc (j+1) _ (by
  rw[List.getElem?_map,List.getElem?_cons_succ,hj]
  rfl))
 obtain⟨NP,hNP⟩:=zx (numsP r)
 have hSup:=superP_o (r:=r)
 have hFen:=fenceP_o (r:=r)
 have hMap:=fun n=>mapP_o (n:=n) (r:=r)
 rw[hNP] at hnu hSup hFen
 simp only[hNP] at hMap
 obtain⟨AA,hAA⟩:∃z:Int,(a:Int)=z:=⟨_,rfl⟩
 rw[hAA] at hul hno hyes hany ⊢
 obtain⟨ga,gb,gc⟩:=g
 unfold gV at hul hun ⊢
 have HSR:=zh hsr
 have HNU:=zh hnu
 have HUL:=zh hul
 have HUN:=zh hun
 have HUD:=zh hud
 have HNO:=zh hno
 have HYES:=zh hyes
 have HANY:=zh hany
 have HSUP:=zh hSup
 have HFEN:=zh hFen
 have HMAP:=zh hMap
 have HQ:=zh hq
 clear hnu hul hun hud hno hyes hany hSup hFen hMap hq
 clear hv hs hl hg ha hc hc0 hrest hsr hlr hN hNP hQ hN2 hAA h1 h2 hb
 by_cases x0:x=wBlank
 ·subst x0
  have q0:(X.toList == [98,108,97,110,107])=true:=(HQ.out wBlank).trans (decide_eq_true rfl)
  have q1:(X.toList == [115,117,112,101,114])=false:=(HQ.out wSuper).trans (decide_eq_false (by decide))
  have q2:(X.toList == [102,101,110,99,101])=false:=(HQ.out wFence).trans (decide_eq_false (by decide))
  have q3:(X.toList == [108,101,97,115,101,115])=false:=(HQ.out wLeases).trans (decide_eq_false (by decide))
  have q4:(X.toList == [105,110,111,100,101,115])=false:=(HQ.out wInodes).trans (decide_eq_false (by decide))
  have q5:(X.toList == [98,108,111,99,107,115])=false:=(HQ.out wBlocks).trans (decide_eq_false (by decide))
  have q6:(X.toList == [105,110,111,100,101])=false:=(HQ.out q17z).trans (decide_eq_false (by decide))
  have q7:(X.toList == [100,105,114])=false:=(HQ.out wDir).trans (decide_eq_false (by decide))
  have q8:(X.toList == [114,97,119])=false:=(HQ.out wRaw3).trans (decide_eq_false (by decide))
  by_cases hr:r=[]
  ·have hNN:N=1:=by rw[HN2.out,hr]; rfl
   subst hNN
   have HX:=zh (HYES.out Sp.blank (by rw[readP_wBlank,if_pos hr]))
   clear HUL HUN HUD HNO HYES HANY HSUP HFEN HMAP
   clear hr HN2 HQ
   obtain⟨W0,hW0⟩:=zg w ga gb gc
   have hk:=g_keep hW0
   have HB0:=zh hk.1
   have HK:=zh hk.2
   clear hk
   go_enter Tryz.func23,Tryz.ntmps23
   go_wp2_with fail
   refine(HNU.out _ HB0.out).mono ?_
   rintro e w1 ⟨nv,rfl,hown,hb1⟩
   have HB1:Hid (Below W0.heap.size W0 w1):=hb1
   have c0:=HC0.out w1 (blN HB0.out HB1.out)
   obtain⟨z0,z1,z2⟩:=HK.out w1 HB1.out
   clear hb1
   obtain⟨oad,ocap,hnv⟩:=hown.form
   obtain⟨L,hL⟩:=zx ((NP.getD []).length)
   rw[hL] at hnv
   subst hnv
   obtain⟨OK,hOK⟩:=zx (NP.isSome)
   rw[hOK]
   clear hL hOK hown
   obtain⟨ia,ib,ic,id,ie⟩:=info_parts infoU8
   have hmk:=run_make_bytes (P:=Tryz.prog) w1 Tryz.underlying36 ib ic id ie 64 (by omega)
   rw[show((64:Nat):Int)=64 from rfl] at hmk
   have hcv:=run_bytes_text (P:=Tryz.prog) (w1.alloc (bytesO (zeros 64) 5 (0,0))) (src:=36) (dst:=9) (z:=[]) (l:=zeros 64) (n:=64) Tryz.underlying36 Tryz.underlying5 Tryz.underlying9 (by rw[List.append_nil]; exact heapNew w1 _) (zeros_length 64).symm 64
   rw[show ofL (zeros 64)=Sp.blank from rfl] at hcv
   obtain⟨W2,hW2⟩:=zx (w1.alloc (bytesO (zeros 64) 5 (0,0)))
   have HB2:Hid (Below w.heap.size w W2):=by rw[←hW2]; exact bl1 (blN HB0.out HB1.out) _
   rw[hW2] at hmk hcv
   obtain⟨BK,hBK⟩:=zx (Sp.blank)
   rw[hBK] at hcv HX
   clear hW2 ia ib ic id ie hBK
   go_wp2
   first | exact HX.out _ HB2.out | (go_ret2; exact HX.out _ HB2.out)
  ·have g1:((N:Int) == 1)=false:=beq_eq_false_iff_ne.2 (fun h=>hr (List.length_eq_zero_iff.1 (by have:=HN2.out; omega)))
   have HX:=zh (HNO.out (by rw[readP_wBlank,if_neg hr]) ⟨#[]⟩)
   clear HUL HUN HUD HNO HYES HANY HSUP HFEN HMAP
   clear hr HN2 HQ
   obtain⟨W0,hW0⟩:=zg w ga gb gc
   have hk:=g_keep hW0
   have HB0:=zh hk.1
   have HK:=zh hk.2
   clear hk
   go_enter Tryz.func23,Tryz.ntmps23
   go_wp2_with fail
   refine(HNU.out _ HB0.out).mono ?_
   rintro e w1 ⟨nv,rfl,hown,hb1⟩
   have HB1:Hid (Below W0.heap.size W0 w1):=hb1
   have c0:=HC0.out w1 (blN HB0.out HB1.out)
   obtain⟨z0,z1,z2⟩:=HK.out w1 HB1.out
   clear hb1
   obtain⟨oad,ocap,hnv⟩:=hown.form
   obtain⟨L,hL⟩:=zx ((NP.getD []).length)
   rw[hL] at hnv
   subst hnv
   obtain⟨OK,hOK⟩:=zx (NP.isSome)
   rw[hOK]
   clear hL hOK hown
   go_wp2
   first | exact HX.out _ (blN HB0.out HB1.out) | (go_ret2; exact HX.out _ (blN HB0.out HB1.out))
 by_cases x1:x=wSuper
 ·subst x1
  have q0:(X.toList == [98,108,97,110,107])=false:=(HQ.out wBlank).trans (decide_eq_false (by decide))
  have q1:(X.toList == [115,117,112,101,114])=true:=(HQ.out wSuper).trans (decide_eq_true rfl)
  have q2:(X.toList == [102,101,110,99,101])=false:=(HQ.out wFence).trans (decide_eq_false (by decide))
  have q3:(X.toList == [108,101,97,115,101,115])=false:=(HQ.out wLeases).trans (decide_eq_false (by decide))
  have q4:(X.toList == [105,110,111,100,101,115])=false:=(HQ.out wInodes).trans (decide_eq_false (by decide))
  have q5:(X.toList == [98,108,111,99,107,115])=false:=(HQ.out wBlocks).trans (decide_eq_false (by decide))
  have q6:(X.toList == [105,110,111,100,101])=false:=(HQ.out q17z).trans (decide_eq_false (by decide))
  have q7:(X.toList == [100,105,114])=false:=(HQ.out wDir).trans (decide_eq_false (by decide))
  have q8:(X.toList == [114,97,119])=false:=(HQ.out wRaw3).trans (decide_eq_false (by decide))
  cases NP with
  | none=>
    have HX:=zh (HNO.out (by rw[readP_wSuper]; exact HSUP.out.2.1 rfl) ⟨#[]⟩)
    clear HUL HUN HUD HNO HYES HANY HSUP HFEN HMAP
    clear HN2 HQ
    obtain⟨W0,hW0⟩:=zg w ga gb gc
    have hk:=g_keep hW0
    have HB0:=zh hk.1
    have HK:=zh hk.2
    clear hk
    go_enter Tryz.func23,Tryz.ntmps23
    go_wp2_with fail
    refine(HNU.out _ HB0.out).mono ?_
    rintro e w1 ⟨nv,rfl,hown,hb1⟩
    have HB1:Hid (Below W0.heap.size W0 w1):=hb1
    have c0:=HC0.out w1 (blN HB0.out HB1.out)
    obtain⟨z0,z1,z2⟩:=HK.out w1 HB1.out
    clear hb1
    obtain⟨oad,ocap,rfl⟩:=hown.form
    clear hown
    go_wp2
    first | exact HX.out _ (blN HB0.out HB1.out) | (go_ret2; exact HX.out _ (blN HB0.out HB1.out))
  | some l=>
    by_cases hl:l.length=3
    rotate_left
    ·have HX:=zh (HNO.out (by rw[readP_wSuper]; exact HSUP.out.2.2 l rfl hl) ⟨#[]⟩)
     clear HUL HUN HUD HNO HYES HANY HSUP HFEN HMAP
     clear HN2 HQ
     obtain⟨W0,hW0⟩:=zg w ga gb gc
     have hk:=g_keep hW0
     have HB0:=zh hk.1
     have HK:=zh hk.2
     clear hk
     go_enter Tryz.func23,Tryz.ntmps23
     go_wp2_with fail
     refine(HNU.out _ HB0.out).mono ?_
     rintro e w1 ⟨nv,rfl,hown,hb1⟩
     have HB1:Hid (Below W0.heap.size W0 w1):=hb1
     have c0:=HC0.out w1 (blN HB0.out HB1.out)
     obtain⟨z0,z1,z2⟩:=HK.out w1 HB1.out
     clear hb1
     obtain⟨oad,ocap,hnv⟩:=hown.form
     have hnv2:nv = .slice oad l.length ocap:=hnv
     subst hnv2
     obtain⟨L,hL⟩:=zx (l.length)
     rw[hL] at hl ⊢
     have g1:((L:Int) == 3)=false:=beq_eq_false_iff_ne.2 (by omega)
     have g2:(L == 3)=false:=beq_eq_false_iff_ne.2 hl
     clear hown hnv hL hl
     go_wp2
     first | exact HX.out _ (blN HB0.out HB1.out) | (go_ret2; exact HX.out _ (blN HB0.out HB1.out))
    obtain⟨ma,mb,mc,rfl⟩:=three_of hl
    have hP:=HSUP.out.1 ma mb mc rfl
    have hen:=fun W:World=>rsencode_any W ⟨ma,mb,mc⟩
    have hE:∃T C,(if Sp.Geom.ok ⟨ma,mb,mc⟩ then #[Value.string (superB ⟨ma,mb,mc⟩),.int .i64 0] else #[.string ⟨#[]⟩,.int .i64 4])=#[Value.string T,.int .i64 C]∧Hid (∀w',Below w.heap.size w w'→Q (.returned (.tuple #[.string T,.bool (C == 0)])) w'):=by
     by_cases hok:Sp.Geom.ok ⟨ma,mb,mc⟩
     ·exact⟨_,_,if_pos hok,HYES.out _ (by rw[readP_wSuper,hP,if_pos hok])⟩
     ·exact⟨_,_,if_neg hok,HNO.out (by rw[readP_wSuper,hP,if_neg hok]) _⟩
    obtain⟨T,C,hT,HX⟩:=hE
    rw[hT] at hen
    unfold gV at hen
    have HEN:=zh hen
    clear hen
    clear hT hP
    clear HUL HUN HUD HNO HYES HANY HSUP HFEN HMAP
    clear HN2 HQ hl
    obtain⟨W0,hW0⟩:=zg w ga gb gc
    have hk:=g_keep hW0
    have HB0:=zh hk.1
    have HK:=zh hk.2
    clear hk
    go_enter Tryz.func23,Tryz.ntmps23
    go_wp2_with fail
    refine(HNU.out _ HB0.out).mono ?_
    rintro e w1 ⟨nv,rfl,hown,hb1⟩
    have HB1:Hid (Below W0.heap.size W0 w1):=hb1
    have c0:=HC0.out w1 (blN HB0.out HB1.out)
    obtain⟨z0,z1,z2⟩:=HK.out w1 HB1.out
    clear hb1
    clear z0 z1 z2
    have hown2:OwnN W0.heap.size w1 nv [ma,mb,mc]:=hown
    have hints:Ints w1 nv [(ma:Int),(mb:Int),(mc:Int)]:=hown2.ints
    obtain⟨bk,oo,ncap,hnv,hbk,hcl⟩:=hints.open (by simp)
    have hnv2:nv = .slice (some ⟨bk,oo,none⟩) 3 ncap:=hnv
    subst hnv2
    have HCL:Hid (∀W,Below w1.heap.size w1 W→W.cell? ⟨bk,oo,none⟩=some (.int .i64 (ma:Int))∧W.cell? ⟨bk,oo+1,none⟩=some (.int .i64 (mb:Int))∧W.cell? ⟨bk,oo+2,none⟩=some (.int .i64 (mc:Int))):=fun W hW=>⟨(hW.cell (p:=⟨bk,oo,none⟩) hbk).trans (hcl 0 _ rfl),(hW.cell (p:=⟨bk,oo+1,none⟩) hbk).trans (hcl 1 _ rfl),(hW.cell (p:=⟨bk,oo+2,none⟩) hbk).trans (hcl 2 _ rfl)⟩
    clear hown hown2 hints hcl hbk hnv
    go_wp2_with fail
    go_region_held3 (fun W=>W.cell? ⟨bk,oo,none⟩=some (.int .i64 (ma:Int))∧W.cell? ⟨bk,oo+1,none⟩=some (.int .i64 (mb:Int))∧W.cell? ⟨bk,oo+2,none⟩=some (.int .i64 (mc:Int)))
     ((refine HCL.out _ ?_; repeat' first | with_reducible exact HBS.out | with_reducible exact Below.refl _ _ | with_reducible refine blD ?_))
     (first
       | (go_at_call 50
          with_reducible refine(HEN.out _).mono ?_
          rintro e w2 ⟨rfl,hb2⟩
          have HBS:Hid (Below w1.heap.size w1 w2):=blN (by repeat' first | with_reducible exact Below.refl _ _ | with_reducible refine blD ?_) hb2
          have HB2:Hid (Below W0.heap.size W0 w2):=blN HB1.out HBS.out
          clear hb2
          simp only))
    all_goals
     go_wp2
     first | exact HX.out _ (blN HB0.out HB2.out) | (go_ret2; exact HX.out _ (blN HB0.out HB2.out))
 by_cases x2:x=wFence
 ·subst x2
  have q0:(X.toList == [98,108,97,110,107])=false:=(HQ.out wBlank).trans (decide_eq_false (by decide))
  have q1:(X.toList == [115,117,112,101,114])=false:=(HQ.out wSuper).trans (decide_eq_false (by decide))
  have q2:(X.toList == [102,101,110,99,101])=true:=(HQ.out wFence).trans (decide_eq_true rfl)
  have q3:(X.toList == [108,101,97,115,101,115])=false:=(HQ.out wLeases).trans (decide_eq_false (by decide))
  have q4:(X.toList == [105,110,111,100,101,115])=false:=(HQ.out wInodes).trans (decide_eq_false (by decide))
  have q5:(X.toList == [98,108,111,99,107,115])=false:=(HQ.out wBlocks).trans (decide_eq_false (by decide))
  have q6:(X.toList == [105,110,111,100,101])=false:=(HQ.out q17z).trans (decide_eq_false (by decide))
  have q7:(X.toList == [100,105,114])=false:=(HQ.out wDir).trans (decide_eq_false (by decide))
  have q8:(X.toList == [114,97,119])=false:=(HQ.out wRaw3).trans (decide_eq_false (by decide))
  cases NP with
  | none=>
    have HX:=zh (HNO.out (by rw[readP_wFence]; exact HFEN.out.2.1 rfl) ⟨#[]⟩)
    clear HUL HUN HUD HNO HYES HANY HSUP HFEN HMAP
    clear HN2 HQ
    obtain⟨W0,hW0⟩:=zg w ga gb gc
    have hk:=g_keep hW0
    have HB0:=zh hk.1
    have HK:=zh hk.2
    clear hk
    go_enter Tryz.func23,Tryz.ntmps23
    go_wp2_with fail
    refine(HNU.out _ HB0.out).mono ?_
    rintro e w1 ⟨nv,rfl,hown,hb1⟩
    have HB1:Hid (Below W0.heap.size W0 w1):=hb1
    have c0:=HC0.out w1 (blN HB0.out HB1.out)
    obtain⟨z0,z1,z2⟩:=HK.out w1 HB1.out
    clear hb1
    obtain⟨oad,ocap,rfl⟩:=hown.form
    clear hown
    go_wp2
    first | exact HX.out _ (blN HB0.out HB1.out) | (go_ret2; exact HX.out _ (blN HB0.out HB1.out))
  | some l=>
    by_cases hl:l.length=2
    rotate_left
    ·have HX:=zh (HNO.out (by rw[readP_wFence]; exact HFEN.out.2.2 l rfl hl) ⟨#[]⟩)
     clear HUL HUN HUD HNO HYES HANY HSUP HFEN HMAP
     clear HN2 HQ
     obtain⟨W0,hW0⟩:=zg w ga gb gc
     have hk:=g_keep hW0
     have HB0:=zh hk.1
     have HK:=zh hk.2
     clear hk
     go_enter Tryz.func23,Tryz.ntmps23
     go_wp2_with fail
     refine(HNU.out _ HB0.out).mono ?_
     rintro e w1 ⟨nv,rfl,hown,hb1⟩
     have HB1:Hid (Below W0.heap.size W0 w1):=hb1
     have c0:=HC0.out w1 (blN HB0.out HB1.out)
     obtain⟨z0,z1,z2⟩:=HK.out w1 HB1.out
     clear hb1
     obtain⟨oad,ocap,hnv⟩:=hown.form
     have hnv2:nv = .slice oad l.length ocap:=hnv
     subst hnv2
     obtain⟨L,hL⟩:=zx (l.length)
     rw[hL] at hl ⊢
     have g1:((L:Int) == 2)=false:=beq_eq_false_iff_ne.2 (by omega)
     have g2:(L == 2)=false:=beq_eq_false_iff_ne.2 hl
     clear hown hnv hL hl
     go_wp2
     first | exact HX.out _ (blN HB0.out HB1.out) | (go_ret2; exact HX.out _ (blN HB0.out HB1.out))
    obtain⟨ma,mb,rfl⟩:=two_of hl
    have hP:=HFEN.out.1 ma mb rfl
    have hen:=fun W:World=>rfence_any W ma mb
    have hE:∃T C,(if ma<4294967296∧mb<4294967296 then #[Value.string (wallB ma mb),.int .i64 0] else #[.string ⟨#[]⟩,.int .i64 1])=#[Value.string T,.int .i64 C]∧Hid (∀w',Below w.heap.size w w'→Q (.returned (.tuple #[.string T,.bool (C == 0)])) w'):=by
     by_cases hok:ma<4294967296∧mb<4294967296
     ·exact⟨_,_,if_pos hok,HYES.out _ (by rw[readP_wFence,hP,if_pos hok])⟩
     ·exact⟨_,_,if_neg hok,HNO.out (by rw[readP_wFence,hP,if_neg hok]) _⟩
    obtain⟨T,C,hT,HX⟩:=hE
    rw[hT] at hen
    have HEN:=zh hen
    clear hen
    clear hT hP
    clear HUL HUN HUD HNO HYES HANY HSUP HFEN HMAP
    clear HN2 HQ hl
    obtain⟨W0,hW0⟩:=zg w ga gb gc
    have hk:=g_keep hW0
    have HB0:=zh hk.1
    have HK:=zh hk.2
    clear hk
    go_enter Tryz.func23,Tryz.ntmps23
    go_wp2_with fail
    refine(HNU.out _ HB0.out).mono ?_
    rintro e w1 ⟨nv,rfl,hown,hb1⟩
    have HB1:Hid (Below W0.heap.size W0 w1):=hb1
    have c0:=HC0.out w1 (blN HB0.out HB1.out)
    obtain⟨z0,z1,z2⟩:=HK.out w1 HB1.out
    clear hb1
    clear z0 z1 z2
    have hown2:OwnN W0.heap.size w1 nv [ma,mb]:=hown
    have hints:Ints w1 nv [(ma:Int),(mb:Int)]:=hown2.ints
    obtain⟨bk,oo,ncap,hnv,hbk,hcl⟩:=hints.open (by simp)
    have hnv2:nv = .slice (some ⟨bk,oo,none⟩) 2 ncap:=hnv
    subst hnv2
    have HCL:Hid (∀W,Below w1.heap.size w1 W→W.cell? ⟨bk,oo,none⟩=some (.int .i64 (ma:Int))∧W.cell? ⟨bk,oo+1,none⟩=some (.int .i64 (mb:Int))):=fun W hW=>⟨(hW.cell (p:=⟨bk,oo,none⟩) hbk).trans (hcl 0 _ rfl),(hW.cell (p:=⟨bk,oo+1,none⟩) hbk).trans (hcl 1 _ rfl)⟩
    clear hown hown2 hints hcl hbk hnv
    go_wp2_with fail
    go_region_held3 (fun W=>W.cell? ⟨bk,oo,none⟩=some (.int .i64 (ma:Int))∧W.cell? ⟨bk,oo+1,none⟩=some (.int .i64 (mb:Int)))
     ((refine HCL.out _ ?_; repeat' first | with_reducible exact HBS.out | with_reducible exact Below.refl _ _ | with_reducible refine blD ?_))
     (first
       | (go_at_call 51
          with_reducible refine(HEN.out _).mono ?_
          rintro e w2 ⟨rfl,hb2⟩
          have HBS:Hid (Below w1.heap.size w1 w2):=blN (by repeat' first | with_reducible exact Below.refl _ _ | with_reducible refine blD ?_) hb2
          have HB2:Hid (Below W0.heap.size W0 w2):=blN HB1.out HBS.out
          clear hb2
          simp only))
    all_goals
     go_wp2
     first | exact HX.out _ (blN HB0.out HB2.out) | (go_ret2; exact HX.out _ (blN HB0.out HB2.out))
 by_cases x3:x=wLeases
 ·subst x3
  have q0:(X.toList == [98,108,97,110,107])=false:=(HQ.out wBlank).trans (decide_eq_false (by decide))
  have q1:(X.toList == [115,117,112,101,114])=false:=(HQ.out wSuper).trans (decide_eq_false (by decide))
  have q2:(X.toList == [102,101,110,99,101])=false:=(HQ.out wFence).trans (decide_eq_false (by decide))
  have q3:(X.toList == [108,101,97,115,101,115])=true:=(HQ.out wLeases).trans (decide_eq_true rfl)
  have q4:(X.toList == [105,110,111,100,101,115])=false:=(HQ.out wInodes).trans (decide_eq_false (by decide))
  have q5:(X.toList == [98,108,111,99,107,115])=false:=(HQ.out wBlocks).trans (decide_eq_false (by decide))
  have q6:(X.toList == [105,110,111,100,101])=false:=(HQ.out q17z).trans (decide_eq_false (by decide))
  have q7:(X.toList == [100,105,114])=false:=(HQ.out wDir).trans (decide_eq_false (by decide))
  have q8:(X.toList == [114,97,119])=false:=(HQ.out wRaw3).trans (decide_eq_false (by decide))
  have HANP:=zh (HANY.out _ (readP_wLeases _ _ _))
  clear HUN HUD HNO HYES HANY HSUP HFEN HMAP
  clear HN2 HQ
  obtain⟨W0,hW0⟩:=zg w ga gb gc
  have hk:=g_keep hW0
  have HB0:=zh hk.1
  have HK:=zh hk.2
  clear hk
  go_enter Tryz.func23,Tryz.ntmps23
  go_wp2_with fail
  refine(HNU.out _ HB0.out).mono ?_
  rintro e w1 ⟨nv,rfl,hown,hb1⟩
  have HB1:Hid (Below W0.heap.size W0 w1):=hb1
  have c0:=HC0.out w1 (blN HB0.out HB1.out)
  obtain⟨z0,z1,z2⟩:=HK.out w1 HB1.out
  clear hb1
  obtain⟨oad,ocap,hnv⟩:=hown.form
  obtain⟨L,hL⟩:=zx ((NP.getD []).length)
  rw[hL] at hnv
  subst hnv
  obtain⟨OK,hOK⟩:=zx (NP.isSome)
  rw[hOK]
  clear hL hOK hown
  go_wp2_with fail
  go_region_held3 (fun W=>W.cell? ⟨w.heap.size,0,none⟩=some (.int .i64 ga)∧W.cell? ⟨w.heap.size,1,none⟩=some (.int .i64 gb)∧W.cell? ⟨w.heap.size,2,none⟩=some (.int .i64 gc))
   ((refine HK.out _ (blN HB1.out ?_); repeat' first | with_reducible exact HBS.out | with_reducible exact Below.refl _ _ | with_reducible refine blD ?_))
   (first
     | (go_at_call 52
        with_reducible refine(HUL.out _ ?a1).mono ?_
        case a1=>exact blN HB0.out (blN HB1.out (by repeat' first | with_reducible exact Below.refl _ _ | with_reducible refine blD ?_))
        rintro e w2 hr
        have HX:=zh (HANP.out _ (blN HB0.out (blN HB1.out (by repeat' first | with_reducible exact Below.refl _ _ | with_reducible refine blD ?_))) _ _ hr)
        obtain⟨T,rfl,h2,h3⟩:=hr
        have HBS:Hid (Below w1.heap.size w1 w2):=blN (by repeat' first | with_reducible exact Below.refl _ _ | with_reducible refine blD ?_) h3
        clear h2 h3
        simp only))
  all_goals
   go_wp2
   first | exact HX.out | (go_ret2; exact HX.out)
 by_cases x4:x=wInodes
 ·subst x4
  have q0:(X.toList == [98,108,97,110,107])=false:=(HQ.out wBlank).trans (decide_eq_false (by decide))
  have q1:(X.toList == [115,117,112,101,114])=false:=(HQ.out wSuper).trans (decide_eq_false (by decide))
  have q2:(X.toList == [102,101,110,99,101])=false:=(HQ.out wFence).trans (decide_eq_false (by decide))
  have q3:(X.toList == [108,101,97,115,101,115])=false:=(HQ.out wLeases).trans (decide_eq_false (by decide))
  have q4:(X.toList == [105,110,111,100,101,115])=true:=(HQ.out wInodes).trans (decide_eq_true rfl)
  have q5:(X.toList == [98,108,111,99,107,115])=false:=(HQ.out wBlocks).trans (decide_eq_false (by decide))
  have q6:(X.toList == [105,110,111,100,101])=false:=(HQ.out q17z).trans (decide_eq_false (by decide))
  have q7:(X.toList == [100,105,114])=false:=(HQ.out wDir).trans (decide_eq_false (by decide))
  have q8:(X.toList == [114,97,119])=false:=(HQ.out wRaw3).trans (decide_eq_false (by decide))
  cases NP with
  | none=>
    have HX:=zh (HNO.out (by rw[readP_wInodes]; exact(HMAP.out _).2 rfl) ⟨#[]⟩)
    clear HUL HUN HUD HNO HYES HANY HSUP HFEN HMAP
    clear HN2 HQ
    obtain⟨W0,hW0⟩:=zg w ga gb gc
    have hk:=g_keep hW0
    have HB0:=zh hk.1
    have HK:=zh hk.2
    clear hk
    go_enter Tryz.func23,Tryz.ntmps23
    go_wp2_with fail
    refine(HNU.out _ HB0.out).mono ?_
    rintro e w1 ⟨nv,rfl,hown,hb1⟩
    have HB1:Hid (Below W0.heap.size W0 w1):=hb1
    have c0:=HC0.out w1 (blN HB0.out HB1.out)
    obtain⟨z0,z1,z2⟩:=HK.out w1 HB1.out
    clear hb1
    obtain⟨oad,ocap,rfl⟩:=hown.form
    clear hown
    go_wp2
    first | exact HX.out _ (blN HB0.out HB1.out) | (go_ret2; exact HX.out _ (blN HB0.out HB1.out))
  | some l=>
    have HPM:Hid (readP ⟨ga,gb,gc⟩ AA (wInodes :: r)=mapS gb l):=by
     show _=_
     rw[readP_wInodes]
     exact(HMAP.out _).1 l rfl
    clear HUL HUN HUD HANY HSUP HFEN HMAP
    clear HN2 HQ
    obtain⟨W0,hW0⟩:=zg w ga gb gc
    have hk:=g_keep hW0
    have HB0:=zh hk.1
    have HK:=zh hk.2
    clear hk
    go_enter Tryz.func23,Tryz.ntmps23
    go_wp2_with fail
    refine(HNU.out _ HB0.out).mono ?_
    rintro e w1 ⟨nv,rfl,hown,hb1⟩
    have HB1:Hid (Below W0.heap.size W0 w1):=hb1
    have c0:=HC0.out w1 (blN HB0.out HB1.out)
    obtain⟨z0,z1,z2⟩:=HK.out w1 HB1.out
    clear hb1
    have hown2:OwnN W0.heap.size w1 nv l:=hown
    have hints:=hown2.ints
    have hof:=rofL_any w1 gb nv (l.map Int.ofNat) hints
    obtain⟨oad,ocap,hnv⟩:=hown2.form
    obtain⟨L,hL⟩:=zx (l.length)
    rw[hL] at hnv
    subst hnv
    have HOF:=zh hof
    clear hown hown2 hints hof hL
    go_wp2_with fail
    refine HOF.out.mono ?_
    intro e w2 hp
    obtain⟨T,c,rfl,hcs,hTs,hb2⟩:=ofPost_map hp
    have HB2:=zh (blN (blN HB0.out HB1.out) hb2)
    have HX:Hid (∀w',Below w.heap.size w w'→Q (.returned (.tuple #[.string T,.bool (c == 0)])) w'):=by
     intro w' hb
     cases hm:mapS gb l with
     | none=>
       rw[hm] at hcs
       rw[show(c == 0)=false from hcs]
       exact HNO.out (HPM.out.trans hm) _ w' hb
     | some s=>
       rw[hm] at hcs
       rw[show(c == 0)=true from hcs,hTs s hm]
       exact HYES.out s (HPM.out.trans hm) w' hb
    clear hp hcs hTs hb2 HNO HYES HPM z0 z1 z2
    go_wp2
    first | exact HX.out _ HB2.out | (go_ret2; exact HX.out _ HB2.out)
 by_cases x5:x=wBlocks
 ·subst x5
  have q0:(X.toList == [98,108,97,110,107])=false:=(HQ.out wBlank).trans (decide_eq_false (by decide))
  have q1:(X.toList == [115,117,112,101,114])=false:=(HQ.out wSuper).trans (decide_eq_false (by decide))
  have q2:(X.toList == [102,101,110,99,101])=false:=(HQ.out wFence).trans (decide_eq_false (by decide))
  have q3:(X.toList == [108,101,97,115,101,115])=false:=(HQ.out wLeases).trans (decide_eq_false (by decide))
  have q4:(X.toList == [105,110,111,100,101,115])=false:=(HQ.out wInodes).trans (decide_eq_false (by decide))
  have q5:(X.toList == [98,108,111,99,107,115])=true:=(HQ.out wBlocks).trans (decide_eq_true rfl)
  have q6:(X.toList == [105,110,111,100,101])=false:=(HQ.out q17z).trans (decide_eq_false (by decide))
  have q7:(X.toList == [100,105,114])=false:=(HQ.out wDir).trans (decide_eq_false (by decide))
  have q8:(X.toList == [114,97,119])=false:=(HQ.out wRaw3).trans (decide_eq_false (by decide))
  cases NP with
  | none=>
    have HX:=zh (HNO.out (by rw[readP_wBlocks]; exact(HMAP.out _).2 rfl) ⟨#[]⟩)
    clear HUL HUN HUD HNO HYES HANY HSUP HFEN HMAP
    clear HN2 HQ
    obtain⟨W0,hW0⟩:=zg w ga gb gc
    have hk:=g_keep hW0
    have HB0:=zh hk.1
    have HK:=zh hk.2
    clear hk
    go_enter Tryz.func23,Tryz.ntmps23
    go_wp2_with fail
    refine(HNU.out _ HB0.out).mono ?_
    rintro e w1 ⟨nv,rfl,hown,hb1⟩
    have HB1:Hid (Below W0.heap.size W0 w1):=hb1
    have c0:=HC0.out w1 (blN HB0.out HB1.out)
    obtain⟨z0,z1,z2⟩:=HK.out w1 HB1.out
    clear hb1
    obtain⟨oad,ocap,rfl⟩:=hown.form
    clear hown
    go_wp2
    first | exact HX.out _ (blN HB0.out HB1.out) | (go_ret2; exact HX.out _ (blN HB0.out HB1.out))
  | some l=>
    have HPM:Hid (readP ⟨ga,gb,gc⟩ AA (wBlocks :: r)=mapS gc l):=by
     show _=_
     rw[readP_wBlocks]
     exact(HMAP.out _).1 l rfl
    clear HUL HUN HUD HANY HSUP HFEN HMAP
    clear HN2 HQ
    obtain⟨W0,hW0⟩:=zg w ga gb gc
    have hk:=g_keep hW0
    have HB0:=zh hk.1
    have HK:=zh hk.2
    clear hk
    go_enter Tryz.func23,Tryz.ntmps23
    go_wp2_with fail
    refine(HNU.out _ HB0.out).mono ?_
    rintro e w1 ⟨nv,rfl,hown,hb1⟩
    have HB1:Hid (Below W0.heap.size W0 w1):=hb1
    have c0:=HC0.out w1 (blN HB0.out HB1.out)
    obtain⟨z0,z1,z2⟩:=HK.out w1 HB1.out
    clear hb1
    have hown2:OwnN W0.heap.size w1 nv l:=hown
    have hints:=hown2.ints
    have hof:=rofL_any w1 gc nv (l.map Int.ofNat) hints
    obtain⟨oad,ocap,hnv⟩:=hown2.form
    obtain⟨L,hL⟩:=zx (l.length)
    rw[hL] at hnv
    subst hnv
    have HOF:=zh hof
    clear hown hown2 hints hof hL
    go_wp2_with fail
    refine HOF.out.mono ?_
    intro e w2 hp
    obtain⟨T,c,rfl,hcs,hTs,hb2⟩:=ofPost_map hp
    have HB2:=zh (blN (blN HB0.out HB1.out) hb2)
    have HX:Hid (∀w',Below w.heap.size w w'→Q (.returned (.tuple #[.string T,.bool (c == 0)])) w'):=by
     intro w' hb
     cases hm:mapS gc l with
     | none=>
       rw[hm] at hcs
       rw[show(c == 0)=false from hcs]
       exact HNO.out (HPM.out.trans hm) _ w' hb
     | some s=>
       rw[hm] at hcs
       rw[show(c == 0)=true from hcs,hTs s hm]
       exact HYES.out s (HPM.out.trans hm) w' hb
    clear hp hcs hTs hb2 HNO HYES HPM z0 z1 z2
    go_wp2
    first | exact HX.out _ HB2.out | (go_ret2; exact HX.out _ HB2.out)
 by_cases x6:x=q17z
 ·subst x6
  have q0:(X.toList == [98,108,97,110,107])=false:=(HQ.out wBlank).trans (decide_eq_false (by decide))
  have q1:(X.toList == [115,117,112,101,114])=false:=(HQ.out wSuper).trans (decide_eq_false (by decide))
  have q2:(X.toList == [102,101,110,99,101])=false:=(HQ.out wFence).trans (decide_eq_false (by decide))
  have q3:(X.toList == [108,101,97,115,101,115])=false:=(HQ.out wLeases).trans (decide_eq_false (by decide))
  have q4:(X.toList == [105,110,111,100,101,115])=false:=(HQ.out wInodes).trans (decide_eq_false (by decide))
  have q5:(X.toList == [98,108,111,99,107,115])=false:=(HQ.out wBlocks).trans (decide_eq_false (by decide))
  have q6:(X.toList == [105,110,111,100,101])=true:=(HQ.out q17z).trans (decide_eq_true rfl)
  have q7:(X.toList == [100,105,114])=false:=(HQ.out wDir).trans (decide_eq_false (by decide))
  have q8:(X.toList == [114,97,119])=false:=(HQ.out wRaw3).trans (decide_eq_false (by decide))
  have HANP:=zh (HANY.out _ (readP_wInode5 _ _ _))
  clear HUL HUD HNO HYES HANY HSUP HFEN HMAP
  clear HN2 HQ
  obtain⟨W0,hW0⟩:=zg w ga gb gc
  have hk:=g_keep hW0
  have HB0:=zh hk.1
  have HK:=zh hk.2
  clear hk
  go_enter Tryz.func23,Tryz.ntmps23
  go_wp2_with fail
  refine(HNU.out _ HB0.out).mono ?_
  rintro e w1 ⟨nv,rfl,hown,hb1⟩
  have HB1:Hid (Below W0.heap.size W0 w1):=hb1
  have c0:=HC0.out w1 (blN HB0.out HB1.out)
  obtain⟨z0,z1,z2⟩:=HK.out w1 HB1.out
  clear hb1
  obtain⟨oad,ocap,hnv⟩:=hown.form
  obtain⟨L,hL⟩:=zx ((NP.getD []).length)
  rw[hL] at hnv
  subst hnv
  obtain⟨OK,hOK⟩:=zx (NP.isSome)
  rw[hOK]
  clear hL hOK hown
  go_wp2_with fail
  go_region_held3 (fun W=>W.cell? ⟨w.heap.size,0,none⟩=some (.int .i64 ga)∧W.cell? ⟨w.heap.size,1,none⟩=some (.int .i64 gb)∧W.cell? ⟨w.heap.size,2,none⟩=some (.int .i64 gc))
   ((refine HK.out _ (blN HB1.out ?_); repeat' first | with_reducible exact HBS.out | with_reducible exact Below.refl _ _ | with_reducible refine blD ?_))
   (first
     | (go_at_call 54
        with_reducible refine(HUN.out _ ?a1).mono ?_
        case a1=>exact blN HB0.out (blN HB1.out (by repeat' first | with_reducible exact Below.refl _ _ | with_reducible refine blD ?_))
        rintro e w2 hr
        have HX:=zh (HANP.out _ (blN HB0.out (blN HB1.out (by repeat' first | with_reducible exact Below.refl _ _ | with_reducible refine blD ?_))) _ _ hr)
        obtain⟨T,rfl,h2,h3⟩:=hr
        have HBS:Hid (Below w1.heap.size w1 w2):=blN (by repeat' first | with_reducible exact Below.refl _ _ | with_reducible refine blD ?_) h3
        clear h2 h3
        simp only))
  all_goals
   go_wp2
   first | exact HX.out | (go_ret2; exact HX.out)
 by_cases x7:x=wDir
 ·subst x7
  have q0:(X.toList == [98,108,97,110,107])=false:=(HQ.out wBlank).trans (decide_eq_false (by decide))
  have q1:(X.toList == [115,117,112,101,114])=false:=(HQ.out wSuper).trans (decide_eq_false (by decide))
  have q2:(X.toList == [102,101,110,99,101])=false:=(HQ.out wFence).trans (decide_eq_false (by decide))
  have q3:(X.toList == [108,101,97,115,101,115])=false:=(HQ.out wLeases).trans (decide_eq_false (by decide))
  have q4:(X.toList == [105,110,111,100,101,115])=false:=(HQ.out wInodes).trans (decide_eq_false (by decide))
  have q5:(X.toList == [98,108,111,99,107,115])=false:=(HQ.out wBlocks).trans (decide_eq_false (by decide))
  have q6:(X.toList == [105,110,111,100,101])=false:=(HQ.out q17z).trans (decide_eq_false (by decide))
  have q7:(X.toList == [100,105,114])=true:=(HQ.out wDir).trans (decide_eq_true rfl)
  have q8:(X.toList == [114,97,119])=false:=(HQ.out wRaw3).trans (decide_eq_false (by decide))
  have HANP:=zh (HANY.out _ (readP_wDir _ _ _))
  clear HUL HUN HNO HYES HANY HSUP HFEN HMAP
  clear HN2 HQ
  obtain⟨W0,hW0⟩:=zg w ga gb gc
  have hk:=g_keep hW0
  have HB0:=zh hk.1
  have HK:=zh hk.2
  clear hk
  go_enter Tryz.func23,Tryz.ntmps23
  go_wp2_with fail
  refine(HNU.out _ HB0.out).mono ?_
  rintro e w1 ⟨nv,rfl,hown,hb1⟩
  have HB1:Hid (Below W0.heap.size W0 w1):=hb1
  have c0:=HC0.out w1 (blN HB0.out HB1.out)
  obtain⟨z0,z1,z2⟩:=HK.out w1 HB1.out
  clear hb1
  obtain⟨oad,ocap,hnv⟩:=hown.form
  obtain⟨L,hL⟩:=zx ((NP.getD []).length)
  rw[hL] at hnv
  subst hnv
  obtain⟨OK,hOK⟩:=zx (NP.isSome)
  rw[hOK]
  clear hL hOK hown
  clear z0 z1 z2
  go_wp2_with fail
  refine(HUD.out _ (blN HB0.out HB1.out)).mono ?_
  rintro e w2 hr
  have HX:=zh (HANP.out _ (blN HB0.out HB1.out) _ _ hr)
  obtain⟨T,rfl,h2,h3⟩:=hr
  clear h2 h3
  go_wp2
  first | exact HX.out | (go_ret2; exact HX.out)
 by_cases x8:x=wRaw3
 ·subst x8
  have q0:(X.toList == [98,108,97,110,107])=false:=(HQ.out wBlank).trans (decide_eq_false (by decide))
  have q1:(X.toList == [115,117,112,101,114])=false:=(HQ.out wSuper).trans (decide_eq_false (by decide))
  have q2:(X.toList == [102,101,110,99,101])=false:=(HQ.out wFence).trans (decide_eq_false (by decide))
  have q3:(X.toList == [108,101,97,115,101,115])=false:=(HQ.out wLeases).trans (decide_eq_false (by decide))
  have q4:(X.toList == [105,110,111,100,101,115])=false:=(HQ.out wInodes).trans (decide_eq_false (by decide))
  have q5:(X.toList == [98,108,111,99,107,115])=false:=(HQ.out wBlocks).trans (decide_eq_false (by decide))
  have q6:(X.toList == [105,110,111,100,101])=false:=(HQ.out q17z).trans (decide_eq_false (by decide))
  have q7:(X.toList == [100,105,114])=false:=(HQ.out wDir).trans (decide_eq_false (by decide))
  have q8:(X.toList == [114,97,119])=true:=(HQ.out wRaw3).trans (decide_eq_true rfl)
  by_cases hr:r.length=1
  rotate_left
  ·have g1:((N:Int) == 2)=false:=beq_eq_false_iff_ne.2 (fun h=>hr (by have:=HN2.out; omega))
   have HX:=zh (HNO.out (by
    rw[readP_wRaw3]
    match r,hr with
    | [],_=>rfl
    | _ :: _ :: _,_=>rfl) ⟨#[]⟩)
   clear HUL HUN HUD HNO HYES HANY HSUP HFEN HMAP
   clear hr HN2 HQ
   obtain⟨W0,hW0⟩:=zg w ga gb gc
   have hk:=g_keep hW0
   have HB0:=zh hk.1
   have HK:=zh hk.2
   clear hk
   go_enter Tryz.func23,Tryz.ntmps23
   go_wp2_with fail
   refine(HNU.out _ HB0.out).mono ?_
   rintro e w1 ⟨nv,rfl,hown,hb1⟩
   have HB1:Hid (Below W0.heap.size W0 w1):=hb1
   have c0:=HC0.out w1 (blN HB0.out HB1.out)
   obtain⟨z0,z1,z2⟩:=HK.out w1 HB1.out
   clear hb1
   obtain⟨oad,ocap,hnv⟩:=hown.form
   obtain⟨L,hL⟩:=zx ((NP.getD []).length)
   rw[hL] at hnv
   subst hnv
   obtain⟨OK,hOK⟩:=zx (NP.isSome)
   rw[hOK]
   clear hL hOK hown
   go_wp2
   first | exact HX.out _ (blN HB0.out HB1.out) | (go_ret2; exact HX.out _ (blN HB0.out HB1.out))
  obtain⟨y,rfl⟩:∃y,r=[y]:=by
   match r,hr with
   | [y],_=>exact⟨y,rfl⟩
  have hNN:N=2:=by rw[HN2.out]; rfl
  subst hNN
  have hy4:=HSR.out y (by simp)
  have hux:=fun W:World=>runhex_any W (ofL y) (by rw[ofL_size]; exact hy4)
  rw[ofL_data] at hux
  unfold q25z at hux
  have hc1:=fun(W:World) (hW:Below w.heap.size w W)=>HRow.out W 0 y hW rfl
  obtain⟨Y,hY⟩:=zx (ofL y)
  rw[hY] at hux
  simp only[hY] at hc1
  have hE:∃T B,ofL ((q4z y).getD [])=T∧(q4z y).isSome=B∧Hid (∀w',Below w.heap.size w w'→Q (.returned (.tuple #[.string T,.bool (if B=true then((T.size:Int) == 64) else false)])) w'):=by
   refine⟨_,_,rfl,rfl,fun w' hb=>?_⟩
   cases hu:q4z y with
   | none=>exact HNO.out (by rw[readP_wRaw3]; dsimp only; rw[hu]) _ w' hb
   | some l=>
     show Q (.returned (.tuple #[.string (ofL l),.bool (((ofL l).size:Int) == 64)])) w'
     by_cases h64:l.length=64
     ·rw[show(((ofL l).size:Int) == 64)=true from beq_iff_eq.2 (by rw[ofL_size]; omega)]
      exact HYES.out _ (by rw[readP_wRaw3]; dsimp only; rw[hu]; exact if_pos h64) w' hb
     ·rw[show(((ofL l).size:Int) == 64)=false from beq_eq_false_iff_ne.2 (by rw[ofL_size]; omega)]
      exact HNO.out (by rw[readP_wRaw3]; dsimp only; rw[hu]; exact if_neg h64) _ w' hb
  obtain⟨T,B,hT,hB,HX⟩:=hE
  rw[hT,hB] at hux
  have HUX:=zh hux
  have HC1:=zh hc1
  clear hux hc1
  clear HUL HUN HUD HNO HYES HANY HSUP HFEN HMAP
  clear HN2 HQ hr hT hB hY hy4 HSR
  obtain⟨W0,hW0⟩:=zg w ga gb gc
  have hk:=g_keep hW0
  have HB0:=zh hk.1
  have HK:=zh hk.2
  clear hk
  go_enter Tryz.func23,Tryz.ntmps23
  go_wp2_with fail
  refine(HNU.out _ HB0.out).mono ?_
  rintro e w1 ⟨nv,rfl,hown,hb1⟩
  have HB1:Hid (Below W0.heap.size W0 w1):=hb1
  have c0:=HC0.out w1 (blN HB0.out HB1.out)
  obtain⟨z0,z1,z2⟩:=HK.out w1 HB1.out
  clear hb1
  obtain⟨oad,ocap,hnv⟩:=hown.form
  obtain⟨L,hL⟩:=zx ((NP.getD []).length)
  rw[hL] at hnv
  subst hnv
  obtain⟨OK,hOK⟩:=zx (NP.isSome)
  rw[hOK]
  have c1:=HC1.out w1 (blN HB0.out HB1.out)
  clear hL hOK hown z0 z1 z2
  go_wp2_with fail
  refine(HUX.out _).mono ?_
  rintro e w2 ⟨rfl,hb2⟩
  have HB2:=zh (blN (blN HB0.out HB1.out) hb2)
  clear hb2 c0 c1
  cases B with
  | true=>
    go_wp2
    first | exact HX.out _ HB2.out | (go_ret2; exact HX.out _ HB2.out)
  | false=>
    go_wp2
    first | exact HX.out _ HB2.out | (go_ret2; exact HX.out _ HB2.out)
 have q0:(X.toList == [98,108,97,110,107])=false:=(HQ.out _).trans (decide_eq_false x0)
 have q1:(X.toList == [115,117,112,101,114])=false:=(HQ.out _).trans (decide_eq_false x1)
 have q2:(X.toList == [102,101,110,99,101])=false:=(HQ.out _).trans (decide_eq_false x2)
 have q3:(X.toList == [108,101,97,115,101,115])=false:=(HQ.out _).trans (decide_eq_false x3)
 have q4:(X.toList == [105,110,111,100,101,115])=false:=(HQ.out _).trans (decide_eq_false x4)
 have q5:(X.toList == [98,108,111,99,107,115])=false:=(HQ.out _).trans (decide_eq_false x5)
 have q6:(X.toList == [105,110,111,100,101])=false:=(HQ.out _).trans (decide_eq_false x6)
 have q7:(X.toList == [100,105,114])=false:=(HQ.out _).trans (decide_eq_false x7)
 have q8:(X.toList == [114,97,119])=false:=(HQ.out _).trans (decide_eq_false x8)
 have HX:=zh (HNO.out (readP_other _ _ _ x0 x3 x6 x7 x1 x2 x4 x5 x8) ⟨#[]⟩)
 clear HUL HUN HUD HNO HYES HANY HSUP HFEN HMAP
 clear HN2 HQ x0 x1 x2 x3 x4 x5 x6 x7 x8
 obtain⟨W0,hW0⟩:=zg w ga gb gc
 have hk:=g_keep hW0
 have HB0:=zh hk.1
 have HK:=zh hk.2
 clear hk
 go_enter Tryz.func23,Tryz.ntmps23
 go_wp2_with fail
 refine(HNU.out _ HB0.out).mono ?_
 rintro e w1 ⟨nv,rfl,hown,hb1⟩
 have HB1:Hid (Below W0.heap.size W0 w1):=hb1
 have c0:=HC0.out w1 (blN HB0.out HB1.out)
 obtain⟨z0,z1,z2⟩:=HK.out w1 HB1.out
 clear hb1
 obtain⟨oad,ocap,hnv⟩:=hown.form
 obtain⟨L,hL⟩:=zx ((NP.getD []).length)
 rw[hL] at hnv
 subst hnv
 obtain⟨OK,hOK⟩:=zx (NP.isSome)
 rw[hOK]
 clear hL hOK hown
 go_wp2
 first | exact HX.out _ (blN HB0.out HB1.out) | (go_ret2; exact HX.out _ (blN HB0.out HB1.out))
end
