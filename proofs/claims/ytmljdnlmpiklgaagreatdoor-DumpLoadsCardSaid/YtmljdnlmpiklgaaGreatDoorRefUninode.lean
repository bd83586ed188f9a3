import Derived.Test.YtmljdnlmpiklgaaGreatDoorRefCut31
import Derived.Test.YtmljdnlmpiklgaaGreatDoorRefEnc31
namespace Go.Proofs.YtmljdnlmpiklgaaGreatDoor
open Go Go.RowKit Txt Sp
def nodeO (l:List Int) (t:TypeId):Obj:=.cells (l.map (fun n:Int=>Value.int .i64 n)).toArray t (0,0)
section
variable {w:World} {b:Nat} {l:List Int} {t:TypeId}
theorem q50z (h:w.heap[b]? = some (nodeO l t)) (k:Nat) (x:Int):(w.setCell ⟨b,k,none⟩ (.int .i64 x)).heap[b]? = some (nodeO (l.set k x) t):=by
 have:=setHeap_at (k:=k) h (.int .i64 x)
 have e:(l.map (fun n:Int=>Value.int .i64 n)).toArray.setIfInBounds k (.int .i64 x)=((l.set k x).map (fun n:Int=>Value.int .i64 n)).toArray:=by
  apply Array.toList_inj.1
  simp[List.map_set]
 rw[e] at this
 exact this
theorem q7z (h:w.heap[b]? = some (nodeO l t)) (k:Nat) {x:Int} (hk:l[k]? = some x):w.cell? ⟨b,k,none⟩=some (.int .i64 x):=
 cellOf h (by rw[List.getElem?_toArray,List.getElem?_map,hk]; rfl)
theorem q42z (h:w.heap[b]? = some (nodeO l t)) (k:Nat):w.frozen? ⟨b,k,none⟩=false:=freeOf h
end
def nodeI (k l z p g:Int) (es:List Int) (j:Nat) (m:Int):List Int:=[k,l,z,p,g] ++ es.take j ++ List.replicate (8-j) 0 ++ [m]
theorem nodeI_step (k l z p g e0 e1 e2 e3 e4 e5 e6 e7:Int):∀j,j<8→∃e,[e0,e1,e2,e3,e4,e5,e6,e7][j]? = some e∧(nodeI k l z p g [e0,e1,e2,e3,e4,e5,e6,e7] j 0)[5+j]? = some 0 ∧
 (nodeI k l z p g [e0,e1,e2,e3,e4,e5,e6,e7] j 0).set (5+j) e=nodeI k l z p g [e0,e1,e2,e3,e4,e5,e6,e7] (j+1) 0
 | 0,_=>⟨_,rfl,rfl,rfl⟩
 | 1,_=>⟨_,rfl,rfl,rfl⟩
 | 2,_=>⟨_,rfl,rfl,rfl⟩
 | 3,_=>⟨_,rfl,rfl,rfl⟩
 | 4,_=>⟨_,rfl,rfl,rfl⟩
 | 5,_=>⟨_,rfl,rfl,rfl⟩
 | 6,_=>⟨_,rfl,rfl,rfl⟩
 | 7,_=>⟨_,rfl,rfl,rfl⟩
section
set_option maxHeartbeats 16000000
set_option maxRecDepth 20000 in
theorem runinode_any (w:World) (g:Sp.Geom) (v:Value) (ws:List (List UInt8)) (hv:Texts w v (ws.map ofL)) (hs:∀x∈ws,x.length≤4000000) :
 Calls Tryz.prog 54 #[gV g,v] w (q1z (q15z g ws) w):=by
 by_cases h14:ws.length=14
 rotate_left
 ·obtain⟨ad,n,cap,rfl,HN,hn2,_⟩:=texts_facts hv
  have hn:n=ws.length:=by have:=HN.out; rw[List.length_map] at this; exact this
  have hno:=fun(w':World) (hb:Below w.heap.size w w')=>rd_no (w:=w) (unnodeP_len (g:=g) h14) ⟨#[]⟩ hb
  obtain⟨Q,hQ⟩:=zx (q1z (q15z g ws) w)
  rw[hQ] at hno ⊢
  have q1:((n:Int) == 14)=false:=beq_eq_false_iff_ne.2 (by omega)
  have q2:((n:Int) != 14)=true:=by rw[bne,q1]; rfl
  obtain⟨ga,gb,gc⟩:=g
  unfold gV
  have HNO:=zh hno
  clear hno
  clear hQ hv hs h14 hn HN
  obtain⟨W0,hW0⟩:=zg w ga gb gc
  have hk:=g_keep hW0
  have HB0:=zh hk.1
  have HK:=zh hk.2
  clear hk
  go_enter Tryz.func54,Tryz.ntmps54
  go_wp2
  first | exact HNO.out _ HB0.out | (go_ret2; exact HNO.out _ HB0.out)
 obtain⟨kw,r,rfl⟩:∃k r,ws=k :: r:=by
  cases ws with
  | nil=>simp at h14
  | cons k r=>exact⟨k,r,rfl⟩
 have h13:r.length=13:=by simpa using h14
 obtain⟨bb,o,cap,hvv,h1,h2,hb,hc⟩:=hv.open_ne (by simp)
 have hl14:((kw :: r).map ofL).length=14:=by simp[h13]
 rw[hl14] at hvv h1
 subst hvv
 have hc0:w.cell? ⟨bb,o,none⟩=some (.string (ofL kw)):=hc 0 _ rfl
 have hrest:Texts w (.slice (some ⟨bb,o+1,none⟩) 13 (cap-1)) (r.map ofL):=Texts.rest (x:=ofL kw) (by rw[List.length_map,h13]) h1 h2 hb (fun j y hy=>hc j y hy) rfl
 have hread:=fun(W:World) (hW:Below w.heap.size w W)=>rnums_any W _ r (hrest.below hW) (fun x hx=>by have:=hs x (List.mem_cons_of_mem _ hx); omega) (by omega)
 unfold q24z at hread
 have HC0:Hid (∀W,Below w.heap.size w W→W.cell? ⟨bb,o,none⟩=some (.string (ofL kw))):=fun W hW=>(hW.cell (p:=⟨bb,o,none⟩) hb).trans hc0
 have hno:=fun(h:q15z g (kw :: r)=none) (T:ByteArray) (w':World) (hb:Below w.heap.size w w')=>rd_no (w:=w) h T hb
 have hyes:=fun(s:ByteArray) (h:q15z g (kw :: r)=some s) (w':World) (hb:Below w.heap.size w w')=>q37z (w:=w) h hb
 obtain⟨Q,hQ⟩:=zx (q1z (q15z g (kw :: r)) w)
 rw[hQ] at hno hyes ⊢
 obtain⟨kk,hkk⟩:∃k:Nat,kindP kw=(k:Int):=⟨(kindP kw).toNat,by unfold kindP; split; rfl; split <;> rfl⟩
 have hK:(kw=wFile→kk=1)∧(kw≠wFile→kw=wDir→kk=2)∧(kw≠wFile→kw≠wDir→kk=0):=by
  unfold kindP at hkk
  refine⟨fun h=>?_,fun h h2=>?_,fun h h2=>?_⟩
  ·rw[if_pos h] at hkk; omega
  ·rw[if_neg h,if_pos h2] at hkk; omega
  ·rw[if_neg h,if_neg h2] at hkk; omega
 obtain⟨X,hX⟩:=zx (ofL kw)
 rw[hX] at HC0
 have q1:(X.toList == [102,105,108,101])=decide (kw=wFile):=by rw[←hX]; exact q20z kw wFile
 have q2:(X.toList == [100,105,114])=decide (kw=wDir):=by rw[←hX]; exact q20z kw wDir
 have HK3:=zh hK
 have hc1:¬cap=1:=by omega
 cases hnum:numsP r with
 | none=>
   rw[hnum] at hread
   have HNo:=zh (hno (unnodeP_none hnum) ⟨#[]⟩)
   obtain⟨ga,gb,gc⟩:=g
   unfold gV
   have HREAD:=zh hread
   clear hread
   clear hQ hv hs h14 hno hyes hrest hc0 hc hnum hl14 h13 hK hkk hX h2 hb
   obtain⟨W0,hW0⟩:=zg w ga gb gc
   have hk:=g_keep hW0
   have HB0:=zh hk.1
   have HK:=zh hk.2
   clear hk
   by_cases x1:kw=wFile
   ·obtain rfl:=HK3.out.1 x1
    rw[decide_eq_true x1] at q1
    clear q2 HK3 x1
    go_enter Tryz.func54,Tryz.ntmps54
    go_wp2_with fail
    refine(HREAD.out _ HB0.out).mono ?_
    rintro e w1 ⟨v,rfl,hown,hb1⟩
    have HB1:=zh (blN HB0.out hb1)
    have c0:=HC0.out (w1.alloc (.cells #[.int .i64 0,.int .i64 0,.int .i64 0,.int .i64 0,.int .i64 0,.int .i64 0,.int .i64 0,.int .i64 0,.int .i64 0,.int .i64 0,.int .i64 0,.int .i64 0,.int .i64 0,.int .i64 0] 71)) (bl1 HB1.out _)
    obtain⟨oad,ocap,rfl⟩:=hown.form
    clear hown hb1
    go_wp2
    first | exact HNo.out _ (bl1 HB1.out _) | (go_ret2; exact HNo.out _ (bl1 HB1.out _))
   rw[decide_eq_false x1] at q1
   by_cases x2:kw=wDir
   ·obtain rfl:=HK3.out.2.1 x1 x2
    rw[decide_eq_true x2] at q2
    clear HK3 x1 x2
    go_enter Tryz.func54,Tryz.ntmps54
    go_wp2_with fail
    refine(HREAD.out _ HB0.out).mono ?_
    rintro e w1 ⟨v,rfl,hown,hb1⟩
    have HB1:=zh (blN HB0.out hb1)
    have c0:=HC0.out (w1.alloc (.cells #[.int .i64 0,.int .i64 0,.int .i64 0,.int .i64 0,.int .i64 0,.int .i64 0,.int .i64 0,.int .i64 0,.int .i64 0,.int .i64 0,.int .i64 0,.int .i64 0,.int .i64 0,.int .i64 0] 71)) (bl1 HB1.out _)
    obtain⟨oad,ocap,rfl⟩:=hown.form
    clear hown hb1
    go_wp2
    first | exact HNo.out _ (bl1 HB1.out _) | (go_ret2; exact HNo.out _ (bl1 HB1.out _))
   ·obtain rfl:=HK3.out.2.2 x1 x2
    rw[decide_eq_false x2] at q2
    clear HK3 x1 x2
    go_enter Tryz.func54,Tryz.ntmps54
    go_wp2_with fail
    refine(HREAD.out _ HB0.out).mono ?_
    rintro e w1 ⟨v,rfl,hown,hb1⟩
    have HB1:=zh (blN HB0.out hb1)
    have c0:=HC0.out (w1.alloc (.cells #[.int .i64 0,.int .i64 0,.int .i64 0,.int .i64 0,.int .i64 0,.int .i64 0,.int .i64 0,.int .i64 0,.int .i64 0,.int .i64 0,.int .i64 0,.int .i64 0,.int .i64 0,.int .i64 0] 71)) (bl1 HB1.out _)
    obtain⟨oad,ocap,rfl⟩:=hown.form
    clear hown hb1
    go_wp2
    first | exact HNo.out _ (bl1 HB1.out _) | (go_ret2; exact HNo.out _ (bl1 HB1.out _))
 | some l=>
   have hP:=unnodeP_some (g:=g) (w:=kw) h13 hnum
   obtain⟨n0,n1,n2,n3,e0,e1,e2,e3,e4,e5,e6,e7,m,rfl⟩:=list13 (l:=l) (by rw[q32z hnum,h13])
   have hN:q36z kw [n0,n1,n2,n3,e0,e1,e2,e3,e4,e5,e6,e7,m]=iN (kk:Int) (n0:Int) (n3:Int) (n1:Int) (n2:Int) (e0:Int) (e1:Int) (e2:Int) (e3:Int) (e4:Int) (e5:Int) (e6:Int) (e7:Int) (m:Int):=by
    show iN (kindP kw) (n0:Int) (n3:Int) (n1:Int) (n2:Int) (e0:Int) (e1:Int) (e2:Int) (e3:Int) (e4:Int) (e5:Int) (e6:Int) (e7:Int) (m:Int)=_
    rw[hkk]
   rw[hN] at hP
   have hen:=fun W:World=>rnencode_any W g kk n0 n3 n1 n2 e0 e1 e2 e3 e4 e5 e6 e7 m
   unfold IEnc at hen
   rw[hnum] at hread
   have hE:∃T C,(if(iN (kk:Int) (n0:Int) (n3:Int) (n1:Int) (n2:Int) (e0:Int) (e1:Int) (e2:Int) (e3:Int) (e4:Int) (e5:Int) (e6:Int) (e7:Int) (m:Int)).check g=0 then inodeB (iN (kk:Int) (n0:Int) (n3:Int) (n1:Int) (n2:Int) (e0:Int) (e1:Int) (e2:Int) (e3:Int) (e4:Int) (e5:Int) (e6:Int) (e7:Int) (m:Int)) else⟨#[]⟩)=T∧(iN (kk:Int) (n0:Int) (n3:Int) (n1:Int) (n2:Int) (e0:Int) (e1:Int) (e2:Int) (e3:Int) (e4:Int) (e5:Int) (e6:Int) (e7:Int) (m:Int)).check g=C∧Hid (∀w',Below w.heap.size w w'→Q (.returned (.tuple #[.string T,.bool (C == 0)])) w'):=by
    generalize iN (kk:Int) (n0:Int) (n3:Int) (n1:Int) (n2:Int) (e0:Int) (e1:Int) (e2:Int) (e3:Int) (e4:Int) (e5:Int) (e6:Int) (e7:Int) (m:Int)=N at hP
    refine⟨_,_,rfl,rfl,fun w' hb=>?_⟩
    by_cases hok:N.check g=0
    ·rw[hok,if_pos rfl]
     exact hyes _ (hP.trans (if_pos hok)) w' hb
    ·rw[if_neg hok]
     have:(N.check g == 0)=false:=beq_eq_false_iff_ne.2 hok
     rw[this]
     exact hno (hP.trans (if_neg hok)) _ w' hb
   obtain⟨T,C,hT,hC,HF⟩:=hE
   rw[hC] at hT
   simp only[hC] at hen
   simp only[hT] at hen
   obtain⟨ga,gb,gc⟩:=g
   unfold gV iA at hen
   unfold gV
   have HREAD:=zh hread
   have HEN:=zh hen
   clear hread hen
   clear hQ hv hs h14 hno hyes hrest hc0 hc hnum hl14 h13 hP hN hT hC hkk hK hX h2 hb
   obtain⟨W0,hW0⟩:=zg w ga gb gc
   have hk:=g_keep hW0
   have HB0:=zh hk.1
   have HK:=zh hk.2
   clear hk
   go_enter Tryz.func54,Tryz.ntmps54
   go_wp2_with fail
   refine(HREAD.out _ HB0.out).mono ?_
   rintro e w1 ⟨v,rfl,hown,hb1⟩
   have HB1:Hid (Below W0.heap.size W0 w1):=hb1
   have hown2:OwnN W0.heap.size w1 v [n0,n1,n2,n3,e0,e1,e2,e3,e4,e5,e6,e7,m]:=hown
   have hints:Ints w1 v [(n0:Int),(n1:Int),(n2:Int),(n3:Int),(e0:Int),(e1:Int),(e2:Int),(e3:Int),(e4:Int),(e5:Int),(e6:Int),(e7:Int),(m:Int)]:=hown2.ints
   obtain⟨bk,oo,ncap,hnv,hbk,hcl⟩:=hints.open (by simp)
   have hnv2:v = .slice (some ⟨bk,oo,none⟩) 13 ncap:=hnv
   subst hnv2
   have HCL:Hid (∀W,Below w1.heap.size w1 W→∀j n,[(n0:Int),(n1:Int),(n2:Int),(n3:Int),(e0:Int),(e1:Int),(e2:Int),(e3:Int),(e4:Int),(e5:Int),(e6:Int),(e7:Int),(m:Int)][j]? = some n→W.cell? ⟨bk,oo+j,none⟩=some (.int .i64 n)):=fun W hW j n hj=>(hW.cell (p:=⟨bk,oo+j,none⟩) hbk).trans (hcl j n hj)
   have c0:=HC0.out (w1.alloc (.cells #[.int .i64 0,.int .i64 0,.int .i64 0,.int .i64 0,.int .i64 0,.int .i64 0,.int .i64 0,.int .i64 0,.int .i64 0,.int .i64 0,.int .i64 0,.int .i64 0,.int .i64 0,.int .i64 0] 71)) (bl1 (blN HB0.out HB1.out) _)
   clear hown hown2 hb1 hints hcl hbk hnv
   go_upto_block 0 with fail
   go_cut [25,28] (fun _ _ wx=>Hid (wx.heap[w1.heap.size]? = some (nodeO (nodeI (kk:Int) 0 0 0 0 [] 0 0) 71))∧Hid (Below w1.heap.size w1 wx))
   case first=>
    by_cases x1:kw=wFile
    ·obtain rfl:=HK3.out.1 x1
     rw[decide_eq_true x1] at q1
     clear q2 HK3 x1
     go_wp2
     go_meet
     case rel=>exact⟨heapNew w1 _,bl2 _⟩
    rw[decide_eq_false x1] at q1
    by_cases x2:kw=wDir
    ·obtain rfl:=HK3.out.2.1 x1 x2
     rw[decide_eq_true x2] at q2
     clear HK3 x1 x2
     go_wp2
     go_meet
     case rel=>exact⟨heapNew w1 _,bl2 _⟩
    ·obtain rfl:=HK3.out.2.2 x1 x2
     rw[decide_eq_false x2] at q2
     clear HK3 x1 x2
     go_wp2
     go_meet
     case rel=>exact⟨heapNew w1 _,bl2 _⟩
   case rest=>
   obtain⟨HZ,HBW⟩:=hcut
   clear c0 q1 q2 HK3
   generalize hb0:w1.heap.size=bn at HZ
   have d0:wc.cell? ⟨bk,oo,none⟩=some (.int .i64 (n0:Int)):=HCL.out wc HBW.out 0 _ rfl
   have y0:=q7z HZ.out 1 rfl
   have v0:=q42z HZ.out 1
   obtain⟨V0,hV0⟩:=zx (wc.setCell ⟨bn,1,none⟩ (.int .i64 (n0:Int)))
   have HZ0:Hid (V0.heap[bn]? = some (nodeO (nodeI (kk:Int) (n0:Int) 0 0 0 [] 0 0) 71)):=by rw[←hV0]; exact q50z HZ.out 1 _
   have HBW0:Hid (Below w1.heap.size w1 V0):=by rw[←hV0]; exact HBW.out.setCell (p:=⟨bn,1,none⟩) (Nat.le_of_eq hb0) _
   go_upto_region 13 with fail
   first | rw[hV0] | skip
   clear hV0
   clear d0 y0 v0 HZ HBW
   have d0:V0.cell? ⟨bk,oo+1,none⟩=some (.int .i64 (n1:Int)):=HCL.out V0 HBW0.out 1 _ rfl
   have y0:=q7z HZ0.out 3 rfl
   have v0:=q42z HZ0.out 3
   obtain⟨V1,hV1⟩:=zx (V0.setCell ⟨bn,3,none⟩ (.int .i64 (n1:Int)))
   have HZ1:Hid (V1.heap[bn]? = some (nodeO (nodeI (kk:Int) (n0:Int) 0 (n1:Int) 0 [] 0 0) 71)):=by rw[←hV1]; exact q50z HZ0.out 3 _
   have HBW1:Hid (Below w1.heap.size w1 V1):=by rw[←hV1]; exact HBW0.out.setCell (p:=⟨bn,3,none⟩) (Nat.le_of_eq hb0) _
   go_upto_region 14 with fail
   first | rw[hV1] | skip
   clear hV1
   clear d0 y0 v0 HZ0 HBW0
   have d0:V1.cell? ⟨bk,oo+2,none⟩=some (.int .i64 (n2:Int)):=HCL.out V1 HBW1.out 2 _ rfl
   have y0:=q7z HZ1.out 4 rfl
   have v0:=q42z HZ1.out 4
   obtain⟨V2,hV2⟩:=zx (V1.setCell ⟨bn,4,none⟩ (.int .i64 (n2:Int)))
   have HZ2:Hid (V2.heap[bn]? = some (nodeO (nodeI (kk:Int) (n0:Int) 0 (n1:Int) (n2:Int) [] 0 0) 71)):=by rw[←hV2]; exact q50z HZ1.out 4 _
   have HBW2:Hid (Below w1.heap.size w1 V2):=by rw[←hV2]; exact HBW1.out.setCell (p:=⟨bn,4,none⟩) (Nat.le_of_eq hb0) _
   go_upto_region 15 with fail
   first | rw[hV2] | skip
   clear hV2
   clear d0 y0 v0 HZ1 HBW1
   have d0:V2.cell? ⟨bk,oo+3,none⟩=some (.int .i64 (n3:Int)):=HCL.out V2 HBW2.out 3 _ rfl
   have y0:=q7z HZ2.out 2 rfl
   have v0:=q42z HZ2.out 2
   obtain⟨V3,hV3⟩:=zx (V2.setCell ⟨bn,2,none⟩ (.int .i64 (n3:Int)))
   have HZ3:Hid (V3.heap[bn]? = some (nodeO (nodeI (kk:Int) (n0:Int) (n3:Int) (n1:Int) (n2:Int) [(e0:Int),(e1:Int),(e2:Int),(e3:Int),(e4:Int),(e5:Int),(e6:Int),(e7:Int)] 0 0) 71)):=by rw[←hV3]; exact q50z HZ2.out 2 _
   have HBW3:Hid (Below w1.heap.size w1 V3):=by rw[←hV3]; exact HBW2.out.setCell (p:=⟨bn,2,none⟩) (Nat.le_of_eq hb0) _
   go_upto_region 16 with fail
   first | rw[hV3] | skip
   clear hV3
   clear d0 y0 v0 HZ2 HBW2
   have HST:Hid (∀j,j<8→∃e,[(e0:Int),(e1:Int),(e2:Int),(e3:Int),(e4:Int),(e5:Int),(e6:Int),(e7:Int)][j]? = some e∧(nodeI (kk:Int) (n0:Int) (n3:Int) (n1:Int) (n2:Int) [(e0:Int),(e1:Int),(e2:Int),(e3:Int),(e4:Int),(e5:Int),(e6:Int),(e7:Int)] j 0)[5+j]? = some 0∧(nodeI (kk:Int) (n0:Int) (n3:Int) (n1:Int) (n2:Int) [(e0:Int),(e1:Int),(e2:Int),(e3:Int),(e4:Int),(e5:Int),(e6:Int),(e7:Int)] j 0).set (5+j) e=nodeI (kk:Int) (n0:Int) (n3:Int) (n1:Int) (n2:Int) [(e0:Int),(e1:Int),(e2:Int),(e3:Int),(e4:Int),(e5:Int),(e6:Int),(e7:Int)] (j+1) 0):=nodeI_step _ _ _ _ _ _ _ _ _ _ _ _ _
   have HSL:Hid (∀j e,j<8→[(e0:Int),(e1:Int),(e2:Int),(e3:Int),(e4:Int),(e5:Int),(e6:Int),(e7:Int)][j]? = some e→[(n0:Int),(n1:Int),(n2:Int),(n3:Int),(e0:Int),(e1:Int),(e2:Int),(e3:Int),(e4:Int),(e5:Int),(e6:Int),(e7:Int),(m:Int)][4+j]? = some e):=fun j e hj he=>by
    match j,hj,he with
    | 0,_,he=>exact he
    | 1,_,he=>exact he
    | 2,_,he=>exact he
    | 3,_,he=>exact he
    | 4,_,he=>exact he
    | 5,_,he=>exact he
    | 6,_,he=>exact he
    | 7,_,he=>exact he
   go_wp2_with fail
   go_loopw [9] (fun i wr=>∃j:Nat,j≤8∧i = .int .i64 (j:Int)∧Hid (wr.heap[bn]? = some (nodeO (nodeI (kk:Int) (n0:Int) (n3:Int) (n1:Int) (n2:Int) [(e0:Int),(e1:Int),(e2:Int),(e3:Int),(e4:Int),(e5:Int),(e6:Int),(e7:Int)] j 0) 71))∧Hid (Below w1.heap.size w1 wr)) (fun i _=>8-(intOf i).toNat)
   case atStart=>exact⟨0,Nat.zero_le _,rfl,HZ3,HBW3⟩
   case round=>
    obtain⟨j,hj,rfl,HZ,HBW⟩:=hrel
    by_cases hlt:j<8
    ·obtain⟨e,he,hz5,hset⟩:=HST.out j hlt
     have d0:=HCL.out wr HBW.out (4+j) e (HSL.out j e hlt he)
     obtain⟨q,hq⟩:=zx (4+j)
     obtain⟨s,hs5⟩:=zx (5+j)
     rw[hq] at d0
     rw[hs5] at hz5 hset
     have e1:IntKind.i64.wrap (4+(j:Int))=(q:Int):=by rw[IntWalk.i64_in _ (by omega)]; omega
     have g1:decide ((j:Int)<8)=true:=decide_eq_true (by omega)
     have g2:(j:Int)<8:=by omega
     have g3:(q:Int)<13:=by omega
     have g4:q<13:=by omega
     have y0:=q7z HZ.out s hz5
     have v0:=q42z HZ.out s
     have hz2:=q50z HZ.out s e
     rw[hset] at hz2
     have hb2:=HBW.out.setCell (p:=⟨bn,s,none⟩) (Nat.le_of_eq hb0) (.int .i64 e)
     rw[←hs5] at hz2 hb2 y0 v0
     have HZn:=zh hz2
     have HBn:=zh hb2
     clear he hz5 hset hz2 hb2 hs5
     go_wp2
     go_roundw
     case rel=>exact⟨j+1,by omega,by go_num,HZn,HBn⟩
     case measure=>simp[intOf]; omega
    ·obtain rfl:j=8:=by omega
     have g1:decide (((8:Nat):Int)<8)=false:=rfl
     have d0:=HCL.out wr HBW.out 12 _ rfl
     have y0:=q7z HZ.out 13 rfl
     have v0:=q42z HZ.out 13
     obtain⟨V,hV⟩:=zx (wr.setCell ⟨bn,13,none⟩ (.int .i64 (m:Int)))
     have hz:V.heap[bn]? = some (nodeO (nodeI (kk:Int) (n0:Int) (n3:Int) (n1:Int) (n2:Int) [(e0:Int),(e1:Int),(e2:Int),(e3:Int),(e4:Int),(e5:Int),(e6:Int),(e7:Int)] 8 (m:Int)) 71):=by rw[←hV]; exact q50z HZ.out 13 _
     have HBV:Hid (Below w1.heap.size w1 V):=by rw[←hV]; exact HBW.out.setCell (p:=⟨bn,13,none⟩) (Nat.le_of_eq hb0) _
     go_upto_region 21 with fail
     first | rw[hV] | skip
     clear d0 y0 v0 hV HZ HBW
     have HBV0:Hid (Below W0.heap.size W0 V):=blN HB1.out HBV.out
     obtain⟨z0,z1,z2⟩:=HK.out V HBV0.out
     have y0:=q7z hz 0 rfl
     have y1:=q7z hz 1 rfl
     have y2:=q7z hz 2 rfl
     have y3:=q7z hz 3 rfl
     have y4:=q7z hz 4 rfl
     have y5:=q7z hz 5 rfl
     have y6:=q7z hz 6 rfl
     have y7:=q7z hz 7 rfl
     have y8:=q7z hz 8 rfl
     have y9:=q7z hz 9 rfl
     have y10:=q7z hz 10 rfl
     have y11:=q7z hz 11 rfl
     have y12:=q7z hz 12 rfl
     have y13:=q7z hz 13 rfl
     clear hz
     go_wp2_with fail
     refine(HEN.out _).mono ?_
     rintro e w8 ⟨rfl,hb8⟩
     have HB8:=zh (blN HB0.out (blN HBV0.out hb8))
     clear hb8 z0 z1 z2 y0 y1 y2 y3 y4 y5 y6 y7 y8 y9 y10 y11 y12 y13
     go_wp2
     first | exact HF.out _ HB8.out | (go_ret2; exact HF.out _ HB8.out)
end
