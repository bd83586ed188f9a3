import Derived.Test.YtmljdnlmpiklgaaGreatDoorLoadLease
namespace Go.Proofs.YtmljdnlmpiklgaaGreatDoor
open Go Go.RowKit Txt Sp
theorem Texts.open_ne {w:World} {v:Value} {l:List ByteArray} (h:Texts w v l) (hl:0<l.length):∃b o cap,v = .slice (some ⟨b,o,none⟩) l.length cap∧l.length≤cap∧cap≤maxLen∧b<w.heap.size∧∀j x,l[j]? = some x→w.cell? ⟨b,o+j,none⟩=some (.string x):=by
 obtain⟨ad,cap,rfl,h1,h2,h3⟩:=h
 obtain⟨b,o,rfl,hb,hc⟩:=h3 hl
 exact⟨b,o,cap,rfl,h1,h2,hb,hc⟩
theorem Texts.rest {w:World} {b o n cap:Nat} {x:ByteArray} {l:List ByteArray} (hn:n=l.length) (h1:n+1≤cap) (h2:cap≤maxLen) (hb:b<w.heap.size) (hc:∀j y,(x :: l)[j]? = some y→w.cell? ⟨b,o+j,none⟩=some (.string y)) {c:Nat} (hcc:c=cap-1):Texts w (.slice (some ⟨b,o+1,none⟩) n c) l:=by
 subst hn hcc
 refine⟨_,_,rfl,by omega,by omega,fun _=>⟨b,o+1,rfl,hb,fun j y hy=>?_⟩⟩
 have:=hc (j+1) y (by simpa using hy)
 rw[show o+1+j=o+(j+1) by omega]
 exact this
theorem unnodeP_cons (g:Sp.Geom) (w:List UInt8) (r:List (List UInt8)):q15z g (w :: r)=if r.length=13 then match numsP r with
 | some n=>if(q36z w n).check g=0 then some (inodeB (q36z w n)) else none
 | none=>none
 else none:=rfl
theorem unnodeP_len {g:Sp.Geom} {ws:List (List UInt8)} (h:ws.length≠14):q15z g ws=none:=by
 cases ws with
 | nil=>rfl
 | cons w r=>
   rw[unnodeP_cons,if_neg (by simp only[List.length_cons] at h; omega)]
theorem unnodeP_none {g:Sp.Geom} {w:List UInt8} {r:List (List UInt8)} (h:numsP r=none):q15z g (w :: r)=none:=by
 rw[unnodeP_cons,h]
 split <;> rfl
theorem unnodeP_some {g:Sp.Geom} {w:List UInt8} {r:List (List UInt8)} {l:List Nat} (hr:r.length=13) (h:numsP r=some l):q15z g (w :: r)=if(q36z w l).check g=0 then some (inodeB (q36z w l)) else none:=by
 rw[unnodeP_cons,if_pos hr,h]
theorem list13 {l:List Nat} (h:l.length=13):∃a b c d e0 e1 e2 e3 e4 e5 e6 e7 m,l=[a,b,c,d,e0,e1,e2,e3,e4,e5,e6,e7,m]:=by
 match l,h with
 | [a,b,c,d,e0,e1,e2,e3,e4,e5,e6,e7,m],_=>exact⟨a,b,c,d,e0,e1,e2,e3,e4,e5,e6,e7,m,rfl⟩
def nodeRel (w1:World) (b:Nat) (x1 x2 x3 x4 x6:Int) (v:Value) (wx:World):Prop:=v = .pointer (some ⟨b,0,none⟩)∧wx=(w1.alloc (.cells #[.int .i64 0,.int .i64 x1,.int .i64 x2,.int .i64 x3,.int .i64 x4,.int .i64 0,.int .i64 0,.int .i64 0,.int .i64 0,.int .i64 0,.int .i64 0,.int .i64 0,.int .i64 0,.int .i64 x6] 71)).drew
section
set_option maxHeartbeats 16000000
set_option maxRecDepth 20000 in
theorem dunnode_any (w:World) (g:Sp.Geom) (v:Value) (ws:List (List UInt8)) (hv:Texts w v (ws.map ofL)) (hs:∀x∈ws,x.length≤4000000) :
 Calls Tryz.prog 43 #[gV g,v] w (q1z (q15z g ws) w):=by
 by_cases h14:ws.length=14
 rotate_left
 ·obtain⟨ad,n,cap,rfl,HN,hn2,_⟩:=texts_facts hv
  have hn:n=ws.length:=by have:=HN.out; rw[List.length_map] at this; exact this
  have hno:=fun(w':World) (hb:Below w.heap.size w w')=>rd_no (w:=w) (unnodeP_len (g:=g) h14) ⟨#[]⟩ hb
  obtain⟨Q,hQ⟩:=zx (q1z (q15z g ws) w)
  rw[hQ] at hno ⊢
  have q1:((n:Int) == 14)=false:=beq_eq_false_iff_ne.2 (by omega)
  have q2:((n:Int) != 14)=true:=by rw[bne,q1]; rfl
  obtain⟨ga,gb,gc⟩:=g
  unfold gV
  have HNO:=zh hno
  clear hno
  clear hQ hv hs h14 hn HN
  obtain⟨W0,hW0⟩:=zg w ga gb gc
  have hk:=g_keep hW0
  have HB0:=zh hk.1
  have HK:=zh hk.2
  clear hk
  go_enter Tryz.func43,Tryz.ntmps43
  go_wp2
  first | exact HNO.out _ HB0.out | (go_ret2; exact HNO.out _ HB0.out)
 obtain⟨kw,r,rfl⟩:∃k r,ws=k :: r:=by
  cases ws with
  | nil=>simp at h14
  | cons k r=>exact⟨k,r,rfl⟩
 have h13:r.length=13:=by simpa using h14
 obtain⟨bb,o,cap,hvv,h1,h2,hb,hc⟩:=hv.open_ne (by simp)
 have hl14:((kw :: r).map ofL).length=14:=by simp[h13]
 rw[hl14] at hvv h1
 subst hvv
 have hc0:w.cell? ⟨bb,o,none⟩=some (.string (ofL kw)):=hc 0 _ rfl
 have hrest:Texts w (.slice (some ⟨bb,o+1,none⟩) 13 (cap-1)) (r.map ofL):=Texts.rest (x:=ofL kw) (by rw[List.length_map,h13]) h1 h2 hb (fun j y hy=>hc j y hy) rfl
 have hread:=fun(W:World) (hW:Below w.heap.size w W)=>dreads_any W _ r (hrest.below hW) (fun x hx=>by have:=hs x (List.mem_cons_of_mem _ hx); omega) (by omega)
 unfold q24z at hread
 have HC0:Hid (∀W,Below w.heap.size w W→W.cell? ⟨bb,o,none⟩=some (.string (ofL kw))):=fun W hW=>(hW.cell (p:=⟨bb,o,none⟩) hb).trans hc0
 have hno:=fun(h:q15z g (kw :: r)=none) (T:ByteArray) (w':World) (hb:Below w.heap.size w w')=>rd_no (w:=w) h T hb
 have hyes:=fun(s:ByteArray) (h:q15z g (kw :: r)=some s) (w':World) (hb:Below w.heap.size w w')=>q37z (w:=w) h hb
 obtain⟨Q,hQ⟩:=zx (q1z (q15z g (kw :: r)) w)
 rw[hQ] at hno hyes ⊢
 cases hnum:numsP r with
 | none=>
   rw[hnum] at hread
   have HNo:=zh (hno (unnodeP_none hnum) ⟨#[]⟩)
   obtain⟨ga,gb,gc⟩:=g
   unfold gV
   have HREAD:=zh hread
   clear hread
   clear hQ hv hs h14 hno hyes hrest hc0 hc hnum hl14 h13
   obtain⟨W0,hW0⟩:=zg w ga gb gc
   have hk:=g_keep hW0
   have HB0:=zh hk.1
   have HK:=zh hk.2
   clear hk
   go_enter Tryz.func43,Tryz.ntmps43
   go_wp2_with fail
   refine(HREAD.out _ HB0.out).mono ?_
   rintro e w1 ⟨v,rfl,hown,hb1⟩
   have HB1:=zh (blN HB0.out hb1)
   obtain⟨oad,ocap,rfl⟩:=hown.form
   clear hown hb1
   go_wp2
   first | exact HNo.out _ HB1.out | (go_ret2; exact HNo.out _ HB1.out)
 | some l=>
   have hP:=unnodeP_some (g:=g) (w:=kw) h13 hnum
   obtain⟨n0,n1,n2,n3,e0,e1,e2,e3,e4,e5,e6,e7,m,rfl⟩:=list13 (l:=l) (by rw[q32z hnum,h13])
   have hN:q36z kw [n0,n1,n2,n3,e0,e1,e2,e3,e4,e5,e6,e7,m]=iN (kindP kw) (n0:Int) (n3:Int) (n1:Int) (n2:Int) (e0:Int) (e1:Int) (e2:Int) (e3:Int) (e4:Int) (e5:Int) (e6:Int) (e7:Int) (m:Int):=rfl
   rw[hN] at hP
   have hen:=fun W:World=>iencode_any W g (kindP kw) (n0:Int) (n3:Int) (n1:Int) (n2:Int) (e0:Int) (e1:Int) (e2:Int) (e3:Int) (e4:Int) (e5:Int) (e6:Int) (e7:Int) (m:Int)
   unfold IEnc at hen
   rw[hnum] at hread
   have hE:∃T C,(if(iN (kindP kw) (n0:Int) (n3:Int) (n1:Int) (n2:Int) (e0:Int) (e1:Int) (e2:Int) (e3:Int) (e4:Int) (e5:Int) (e6:Int) (e7:Int) (m:Int)).check g=0 then inodeB (iN (kindP kw) (n0:Int) (n3:Int) (n1:Int) (n2:Int) (e0:Int) (e1:Int) (e2:Int) (e3:Int) (e4:Int) (e5:Int) (e6:Int) (e7:Int) (m:Int)) else⟨#[]⟩)=T∧(iN (kindP kw) (n0:Int) (n3:Int) (n1:Int) (n2:Int) (e0:Int) (e1:Int) (e2:Int) (e3:Int) (e4:Int) (e5:Int) (e6:Int) (e7:Int) (m:Int)).check g=C∧Hid (∀w',Below w.heap.size w w'→Q (.returned (.tuple #[.string T,.bool (C == 0)])) w'):=by
    generalize iN (kindP kw) (n0:Int) (n3:Int) (n1:Int) (n2:Int) (e0:Int) (e1:Int) (e2:Int) (e3:Int) (e4:Int) (e5:Int) (e6:Int) (e7:Int) (m:Int)=N at hP
    refine⟨_,_,rfl,rfl,fun w' hb=>?_⟩
    by_cases hok:N.check g=0
    ·rw[hok,if_pos rfl]
     exact hyes _ (hP.trans (if_pos hok)) w' hb
    ·rw[if_neg hok]
     have:(N.check g == 0)=false:=beq_eq_false_iff_ne.2 hok
     rw[this]
     exact hno (hP.trans (if_neg hok)) _ w' hb
   obtain⟨T,C,hT,hC,HF⟩:=hE
   rw[hC] at hT
   simp only[hC] at hen
   simp only[hT] at hen
   obtain⟨kk,hkk⟩:=zx (kindP kw)
   rw[hkk] at hen
   have HKK:=zh hkk
   obtain⟨SK,hSK⟩:=zx (ofL kw)
   have HSK:=zh hSK
   rw[hSK] at HC0
   obtain⟨ga,gb,gc⟩:=g
   unfold gV iA at hen
   unfold gV
   have HREAD:=zh hread
   have HEN:=zh hen
   clear hread hen
   clear hQ hv hs h14 hno hyes hrest hc0 hc hnum hl14 h13 hP hN hT hC hkk hSK
   obtain⟨W0,hW0⟩:=zg w ga gb gc
   have hk:=g_keep hW0
   have HB0:=zh hk.1
   have HK:=zh hk.2
   clear hk
   go_enter Tryz.func43,Tryz.ntmps43
   go_wp2_with fail
   refine(HREAD.out _ HB0.out).mono ?_
   rintro e w1 ⟨v,rfl,hown,hb1⟩
   have HB1:Hid (Below W0.heap.size W0 w1):=hb1
   have hints:Ints w1 v [(n0:Int),(n1:Int),(n2:Int),(n3:Int),(e0:Int),(e1:Int),(e2:Int),(e3:Int),(e4:Int),(e5:Int),(e6:Int),(e7:Int),(m:Int)]:=hown.ints
   obtain⟨bk,oo,ncap,hnv,hbk,hcl⟩:=hints.open (by simp)
   have hnc:13≤ncap:=by
    obtain⟨ad,cp,e,q1,_⟩:=hints
    rw[e] at hnv
    cases hnv
    exact q1
   have hnv2:v = .slice (some ⟨bk,oo,none⟩) 13 ncap:=hnv
   subst hnv2
   have HCL:Hid (∀W,Below w1.heap.size w1 W→W.cell? ⟨bk,oo,none⟩=some (.int .i64 (n0:Int))∧W.cell? ⟨bk,oo+1,none⟩=some (.int .i64 (n1:Int))∧W.cell? ⟨bk,oo+2,none⟩=some (.int .i64 (n2:Int))∧W.cell? ⟨bk,oo+3,none⟩=some (.int .i64 (n3:Int))∧W.cell? ⟨bk,oo+12,none⟩=some (.int .i64 (m:Int))):=fun W hW=>⟨(hW.cell (p:=⟨bk,oo,none⟩) hbk).trans (hcl 0 _ rfl),(hW.cell (p:=⟨bk,oo+1,none⟩) hbk).trans (hcl 1 _ rfl),(hW.cell (p:=⟨bk,oo+2,none⟩) hbk).trans (hcl 2 _ rfl),(hW.cell (p:=⟨bk,oo+3,none⟩) hbk).trans (hcl 3 _ rfl),(hW.cell (p:=⟨bk,oo+12,none⟩) hbk).trans (hcl 12 _ rfl)⟩
   have HCD:Hid (∀W,Below w1.heap.size w1 W→∀j v,[Value.int .i64 (e0:Int),.int .i64 (e1:Int),.int .i64 (e2:Int),.int .i64 (e3:Int),.int .i64 (e4:Int),.int .i64 (e5:Int),.int .i64 (e6:Int),.int .i64 (e7:Int)][j]? = some v→W.cell? ⟨bk,oo+4+j,none⟩=some v):=fun W hW j v hj=>by
    refine(hW.cell (p:=⟨bk,oo+4+j,none⟩) hbk).trans ?_
    match j,hj with
    | 0,hj=>cases hj; exact hcl 4 _ rfl
    | 1,hj=>cases hj; exact hcl 5 _ rfl
    | 2,hj=>cases hj; exact hcl 6 _ rfl
    | 3,hj=>cases hj; exact hcl 7 _ rfl
    | 4,hj=>cases hj; exact hcl 8 _ rfl
    | 5,hj=>cases hj; exact hcl 9 _ rfl
    | 6,hj=>cases hj; exact hcl 10 _ rfl
    | 7,hj=>cases hj; exact hcl 11 _ rfl
    | q+8,hj=>simp at hj
   clear hown hb1 hints hcl hbk hnv
   go_wp2_with fail
   go_cut [8] (fun v wx=>nodeRel w1 w1.heap.size (n0:Int) (n3:Int) (n1:Int) (n2:Int) (m:Int) v wx)
   case first=>
    have hS:=HCL.out w1 (Below.refl _ _)
    refine wp_region_held_drew (S:=fun W=>W.cell? ⟨bk,oo,none⟩=some (.int .i64 (n0:Int))∧W.cell? ⟨bk,oo+1,none⟩=some (.int .i64 (n1:Int))∧W.cell? ⟨bk,oo+2,none⟩=some (.int .i64 (n2:Int))∧W.cell? ⟨bk,oo+3,none⟩=some (.int .i64 (n3:Int))∧W.cell? ⟨bk,oo+12,none⟩=some (.int .i64 (m:Int))) (by kernel_rfl) (by first | trivial | assumption) (fun hHeld=>?_)
    refine tkH 0 ?_; simp only[Act.put,ps0]
    refine tkH 1 ?_; simp only[Act.put,ps0]
    refine tkH 2 ?_; simp only[Act.put,ps0]
    refine tkH 3 ?_; simp only[Act.put,ps0]
    refine tkH 4 ?_; simp only[Act.put,ps0]
    refine tkH 5 ?_; simp only[Act.put,ps0]
    refine tkH 6 ?_; simp only[Act.put,ps0]
    refine tkH 7 ?_; simp only[Act.put,ps0]
    refine tkH 8 ?_; simp only[Act.put,ps0]
    refine tkH 9 ?_; simp only[Act.put,ps0]
    refine tkH 10 ?_; simp only[Act.put,ps0]
    refine tkH 11 ?_; simp only[Act.put,ps0]
    refine tkH 12 ?_; simp only[Act.put,ps0]
    refine tkH 13 ?_; simp only[Act.put,ps0]
    refine tkH 14 ?_; simp only[Act.put,ps0]
    refine tkH 15 ?_; simp only[Act.put,ps0]
    refine wpAnyH_ready (rs:=[16]) (by kernel_rfl) (by simp) ?_
    refine AllReadyH.cons rfl (fun K hK=>?_) ?_
    ·try simp only[gg0]
     go_simp
     refine hK.out _ _ ?s1 (fun hHeld=>?_)
     case s1=>exact HCL.out _ (blD (bl2 _))
     clear hK K
     try simp only[Act.put,ps0]
     refine wpAnyH_ready (rs:=[17]) (by kernel_rfl) (by simp) ?_
     refine AllReadyH.cons rfl (fun K hK=>?_) ?_
     ·try simp only[gg0]
      go_simp
      refine hK.out _ _ ?s2 (fun hHeld=>?_)
      case s2=>
       refine HCL.out _ ?_
       repeat' first | with_reducible exact Below.refl _ _ | with_reducible refine blD ?_ | with_reducible refine bl1 ?_ _ | with_reducible refine Below.setCell ?_ ?_ _ | exact Nat.le_refl _
      clear hK K
      try simp only[Act.put,ps0]
      refine wpAnyH_done (by kernel_rfl) ?_ _
      clear hHeld
      go_wp2
      go_meet
      case rel=>exact⟨rfl,rfl⟩
     exact AllReadyH.nil
    exact AllReadyH.nil
   case rest=>
   obtain⟨rfl,hwc⟩:=hcut
   have HBc:Hid (Below w1.heap.size w1 wc.drew):=by rw[hwc]; exact blD (blD (bl2 _))
   have hzc:wc.drew.heap[w1.heap.size]? = some (.cells ([Value.int .i64 0,.int .i64 (n0:Int),.int .i64 (n3:Int),.int .i64 (n1:Int),.int .i64 (n2:Int),.int .i64 0,.int .i64 0,.int .i64 0,.int .i64 0,.int .i64 0,.int .i64 0,.int .i64 0,.int .i64 0,.int .i64 (m:Int)]:List Value).toArray 71 (0,0)):=by rw[hwc]; exact heapNew w1 _
   have HZC:=zh hzc
   have hszI:(Tryz.prog.info? 3).map (·.size)=some 1:=by kernel_rfl
   clear hwc hzc
   have hn12:(12:Int)≤(ncap:Int):=by omega
   have hn12n:12≤ncap:=by omega
   go_wp2_with fail
   go_still_tail 4,(by kernel_rfl)
   change wpList _ _ _ _ _ (wc.drew)
   generalize wc.drew=W5 at HBc HZC ⊢
   go_wp2_with (refine wpList_copy_splice rfl (.tmp 39) (.tmp 41) 79 79 rfl 3 Tryz.underlying79 hszI _ _ _ _ _ _ rfl rfl w1.heap.size 5 _ 71 HZC.out [Value.int .i64 (e0:Int),.int .i64 (e1:Int),.int .i64 (e2:Int),.int .i64 (e3:Int),.int .i64 (e4:Int),.int .i64 (e5:Int),.int .i64 (e6:Int),.int .i64 (e7:Int)] ?c1 ?c2 ?c3 ?c4 w1.heap.size w1 HBc.out (Nat.le_refl _) ?c5)
   case c1=>rfl
   case c2=>exact fun j v hj=>HCD.out W5 HBc.out j v hj
   case c3=>show 5+8≤14; omega
   case c4=>simp[Value.oneCell']
   intro w6 hz6 hb6
   have HZ6:Hid (w6.heap[w1.heap.size]? = some (.cells #[.int .i64 0,.int .i64 (n0:Int),.int .i64 (n3:Int),.int .i64 (n1:Int),.int .i64 (n2:Int),.int .i64 (e0:Int),.int .i64 (e1:Int),.int .i64 (e2:Int),.int .i64 (e3:Int),.int .i64 (e4:Int),.int .i64 (e5:Int),.int .i64 (e6:Int),.int .i64 (e7:Int),.int .i64 (m:Int)] 71 (0,0))):=hz6.out
   have HB6:Hid (Below W0.heap.size W0 w6):=blN HB1.out hb6
   have c0:=HC0.out w6 (blN HB0.out HB6.out)
   have hk1:=fun W:World=>dkind_any W 1
   have hk2:=fun W:World=>dkind_any W 2
   obtain⟨KF,hKF⟩:=zx (ofL (kindL 1))
   obtain⟨KD,hKD⟩:=zx (ofL (kindL 2))
   have HKF:Hid (ofL wFile=KF):=hKF
   have HKD:Hid (ofL wDir=KD):=hKD
   rw[hKF] at hk1
   rw[hKD] at hk2
   have HK1:=zh hk1
   have HK2:=zh hk2
   clear hk1 hk2
   clear hz6 hb6 hKF hKD HZC HBc HCL HCD
   have qF:=list_eq SK KF
   have qD:=list_eq SK KD
   by_cases hF:kw=wFile
   ·have hk:kk=1:=by rw[←HKK.out,hF]; rfl
    subst hk
    rw[decide_eq_true (by rw[←HSK.out,←HKF.out,hF])] at qF
    clear qD hF
    have y0:=zc 0 HZ6.out
    have v0:w6.frozen? ⟨w1.heap.size,0,none⟩=false:=freeOf HZ6.out
    have hz7:(w6.setCell ⟨w1.heap.size,0,none⟩ (.int .i64 1)).heap[w1.heap.size]? = some (.cells #[.int .i64 1,.int .i64 (n0:Int),.int .i64 (n3:Int),.int .i64 (n1:Int),.int .i64 (n2:Int),.int .i64 (e0:Int),.int .i64 (e1:Int),.int .i64 (e2:Int),.int .i64 (e3:Int),.int .i64 (e4:Int),.int .i64 (e5:Int),.int .i64 (e6:Int),.int .i64 (e7:Int),.int .i64 (m:Int)] 71 (0,0)):=setHeap_at (k:=0) HZ6.out (.int .i64 1)
    have hb7:=HB6.out.setCell (p:=⟨w1.heap.size,0,none⟩) HB1.out.size (.int .i64 1)
    obtain⟨W7,hW7⟩:=zx (w6.setCell ⟨w1.heap.size,0,none⟩ (.int .i64 1))
    rw[hW7] at hz7 hb7
    have HZ7:=zh hz7
    have HB7:=zh hb7
    have HW7:=zh hW7
    clear hz7 hb7 hW7
    go_wp2_with fail
    with_reducible refine(HK1.out _).mono ?_
    rintro e w7 ⟨rfl,hw7⟩
    subst hw7
    go_upto_region 13 with fail
    rw[HW7.out]
    obtain⟨z0,z1,z2⟩:=HK.out W7 HB7.out
    try clear y0 v0
    have y0:=zc 0 HZ7.out
    have y1:=zc 1 HZ7.out
    have y2:=zc 2 HZ7.out
    have y3:=zc 3 HZ7.out
    have y4:=zc 4 HZ7.out
    have y5:=zc 5 HZ7.out
    have y6:=zc 6 HZ7.out
    have y7:=zc 7 HZ7.out
    have y8:=zc 8 HZ7.out
    have y9:=zc 9 HZ7.out
    have y10:=zc 10 HZ7.out
    have y11:=zc 11 HZ7.out
    have y12:=zc 12 HZ7.out
    have y13:=zc 13 HZ7.out
    go_wp2_with fail
    refine(HEN.out _).mono ?_
    rintro e w8 ⟨rfl,hb8⟩
    have HB8:=zh (blN HB0.out (blN HB7.out hb8))
    clear hb8 z0 z1 z2 y0 y1 y2 y3 y4 y5 y6 y7 y8 y9 y10 y11 y12 y13
    go_wp2
    first | exact HF.out _ HB8.out | (go_ret2; exact HF.out _ HB8.out)
   by_cases hD:kw=wDir
   ·have hk:kk=2:=by rw[←HKK.out,hD]; rfl
    subst hk
    rw[decide_eq_false (by rw[←HSK.out,←HKF.out,hD]; decide)] at qF
    rw[decide_eq_true (by rw[←HSK.out,←HKD.out,hD])] at qD
    clear hD hF
    have y0:=zc 0 HZ6.out
    have v0:w6.frozen? ⟨w1.heap.size,0,none⟩=false:=freeOf HZ6.out
    have hz7:(w6.setCell ⟨w1.heap.size,0,none⟩ (.int .i64 2)).heap[w1.heap.size]? = some (.cells #[.int .i64 2,.int .i64 (n0:Int),.int .i64 (n3:Int),.int .i64 (n1:Int),.int .i64 (n2:Int),.int .i64 (e0:Int),.int .i64 (e1:Int),.int .i64 (e2:Int),.int .i64 (e3:Int),.int .i64 (e4:Int),.int .i64 (e5:Int),.int .i64 (e6:Int),.int .i64 (e7:Int),.int .i64 (m:Int)] 71 (0,0)):=setHeap_at (k:=0) HZ6.out (.int .i64 2)
    have hb7:=HB6.out.setCell (p:=⟨w1.heap.size,0,none⟩) HB1.out.size (.int .i64 2)
    obtain⟨W7,hW7⟩:=zx (w6.setCell ⟨w1.heap.size,0,none⟩ (.int .i64 2))
    rw[hW7] at hz7 hb7
    have HZ7:=zh hz7
    have HB7:=zh hb7
    have HW7:=zh hW7
    clear hz7 hb7 hW7
    go_wp2_with fail
    with_reducible refine(HK1.out _).mono ?_
    rintro e w7 ⟨rfl,hw7⟩
    subst hw7
    go_wp2_with fail
    with_reducible refine(HK2.out _).mono ?_
    rintro e w7 ⟨rfl,hw7⟩
    subst hw7
    go_upto_region 13 with fail
    rw[HW7.out]
    obtain⟨z0,z1,z2⟩:=HK.out W7 HB7.out
    try clear y0 v0
    have y0:=zc 0 HZ7.out
    have y1:=zc 1 HZ7.out
    have y2:=zc 2 HZ7.out
    have y3:=zc 3 HZ7.out
    have y4:=zc 4 HZ7.out
    have y5:=zc 5 HZ7.out
    have y6:=zc 6 HZ7.out
    have y7:=zc 7 HZ7.out
    have y8:=zc 8 HZ7.out
    have y9:=zc 9 HZ7.out
    have y10:=zc 10 HZ7.out
    have y11:=zc 11 HZ7.out
    have y12:=zc 12 HZ7.out
    have y13:=zc 13 HZ7.out
    go_wp2_with fail
    refine(HEN.out _).mono ?_
    rintro e w8 ⟨rfl,hb8⟩
    have HB8:=zh (blN HB0.out (blN HB7.out hb8))
    clear hb8 z0 z1 z2 y0 y1 y2 y3 y4 y5 y6 y7 y8 y9 y10 y11 y12 y13
    go_wp2
    first | exact HF.out _ HB8.out | (go_ret2; exact HF.out _ HB8.out)
   ·have hk:kk=0:=by rw[←HKK.out]; unfold kindP; rw[if_neg hF,if_neg hD]
    subst hk
    rw[decide_eq_false (fun h=>hF (ofL_inj (by rw[HSK.out,h,HKF.out])))] at qF
    rw[decide_eq_false (fun h=>hD (ofL_inj (by rw[HSK.out,h,HKD.out])))] at qD
    clear hD hF
    obtain⟨W7,hW7⟩:=zx (w6)
    have HW7:=zh hW7
    have HZ7:Hid (W7.heap[w1.heap.size]? = some (.cells #[.int .i64 0,.int .i64 (n0:Int),.int .i64 (n3:Int),.int .i64 (n1:Int),.int .i64 (n2:Int),.int .i64 (e0:Int),.int .i64 (e1:Int),.int .i64 (e2:Int),.int .i64 (e3:Int),.int .i64 (e4:Int),.int .i64 (e5:Int),.int .i64 (e6:Int),.int .i64 (e7:Int),.int .i64 (m:Int)] 71 (0,0))):=by rw[←hW7]; exact HZ6.out
    have HB7:Hid (Below W0.heap.size W0 W7):=by rw[←hW7]; exact HB6.out
    clear hW7
    go_wp2_with fail
    with_reducible refine(HK1.out _).mono ?_
    rintro e w7 ⟨rfl,hw7⟩
    subst hw7
    go_wp2_with fail
    with_reducible refine(HK2.out _).mono ?_
    rintro e w7 ⟨rfl,hw7⟩
    subst hw7
    go_upto_region 13 with fail
    rw[HW7.out]
    obtain⟨z0,z1,z2⟩:=HK.out W7 HB7.out
    try clear y0 v0
    have y0:=zc 0 HZ7.out
    have y1:=zc 1 HZ7.out
    have y2:=zc 2 HZ7.out
    have y3:=zc 3 HZ7.out
    have y4:=zc 4 HZ7.out
    have y5:=zc 5 HZ7.out
    have y6:=zc 6 HZ7.out
    have y7:=zc 7 HZ7.out
    have y8:=zc 8 HZ7.out
    have y9:=zc 9 HZ7.out
    have y10:=zc 10 HZ7.out
    have y11:=zc 11 HZ7.out
    have y12:=zc 12 HZ7.out
    have y13:=zc 13 HZ7.out
    go_wp2_with fail
    refine(HEN.out _).mono ?_
    rintro e w8 ⟨rfl,hb8⟩
    have HB8:=zh (blN HB0.out (blN HB7.out hb8))
    clear hb8 z0 z1 z2 y0 y1 y2 y3 y4 y5 y6 y7 y8 y9 y10 y11 y12 y13
    go_wp2
    first | exact HF.out _ HB8.out | (go_ret2; exact HF.out _ HB8.out)
end
