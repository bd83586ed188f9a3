import Derived.Test.YtgofmnhfajmbfaaGreatDoorCheckVisit
set_option maxRecDepth 20000
set_option maxHeartbeats 4000000
namespace Go.Proofs.YtgofmnhfajmbfaaGreatDoor
open Go Go.RowKit Txt Sp
def q114z (ps:List Nat) (l:List (Int×Bool)):List (Int×Bool):=ps.foldl (fun l (p:Nat)=>IM.setM l (p:Int) true) l
theorem getM_ones:∀(ps:List Nat) (l:List (Int×Bool)) (p:Nat),(IM.getM (q114z ps l) (p:Int)).getD false=(decide (p∈ps)||(IM.getM l (p:Int)).getD false)
 | [],l,p=>by simp[q114z]
 | q :: r,l,p=>by
   have ih:=getM_ones r (IM.setM l (q:Int) true) p
   show(IM.getM (q114z r (IM.setM l (q:Int) true)) (p:Int)).getD false=_
   rw[ih,IM.getM_set]
   by_cases h:(p:Int)=(q:Int)
   ·have h':p=q:=by omega
    rw[if_pos h]
    simp[h']
   ·have h':¬p=q:=by omega
    rw[if_neg h]
    simp[h']
theorem onesOf_snoc (ps:List Nat) (p:Nat) (l:List (Int×Bool)):q114z (ps ++ [p]) l=IM.setM (q114z ps l) (p:Int) true:=by
 unfold q114z
 rw[List.foldl_append]
 rfl
def TknAt (w w':World) (v:Value) (r:Option (List Nat)):Prop:=
 (r=none∧v = .map none)∨∃ps mb l,r=some ps∧v = .map (some mb)∧IM.MapAt Value.bool w' mb l∧w.heap.size≤mb∧∀p:Nat,(IM.getM l (p:Int)).getD false=decide (p∈ps)
section
variable {w w1 w':World} {base B N:Nat} {g:Sp.Geom} {vs:Value} {m:LookP} {t t':Sp.Look} {D D' K:Nat→Prop} {S:Int→ByteArray}
def TakenPost (w:World) (base B:Nat) (g:Sp.Geom) (vs:Value) (m:LookP) (D:Nat→Prop) (r:Sp.Look×Option (List Nat)) (e:Ending) (w':World):Prop:=
 ∃v,e = .returned v∧TknAt w w' v r.2∧q8z w base B g vs m r.1 D w' D
theorem ctaken_any (h:LookS w base B N g vs m S t D) {k:Int} (hk:0≤k∧k<g.groups) (b:Bool) (n:Int):Calls Tryz.prog 151 #[pt B,.int .i64 k,.bool b,.int .i64 n] w (TakenPost w base B g vs m D (t.taken g S k b n)):=by
 have hin:=map_in h.ok hk b
 have hma:=mapAt_in h.ok hk b
 have hmap:=fun W:World=>gmap_any W g k b
 rw[hma] at hmap
 dsimp only at hmap
 rw[←h.size] at hin
 obtain⟨a,ha⟩:∃a:Nat,q134z g k b=(a:Int):=⟨(q134z g k b).toNat,by omega⟩
 rw[ha] at hin hmap
 have haN:a<N:=by omega
 obtain⟨s,hs⟩:=zx (S a)
 have htk:t.taken g S k b n=if mapC s n=0 then(t,some (q12z s.data.toList n.toNat)) else(t.tell 1 a,none):=by
  unfold Look.taken
  rw[hma]
  dsimp only
  rw[ha,hs]
 obtain⟨r,hr⟩:=zx (t.taken g S k b n)
 rw[hr] at htk ⊢
 have hpl:=fun W:World=>mplaces_any W s n
 have hpn:(q12z s.data.toList n.toNat).length≤64∨mapC s n≠0:=by
  by_cases h0:mapC s n=0
  ·have:=q64z h0
   have:=placesL_length s.data.toList n.toNat
   exact Or.inl (by omega)
  ·exact Or.inr h0
 unfold q106z at hpl
 obtain⟨c,hc⟩:=zx (mapC s n)
 rw[hc] at htk hpl hpn
 obtain⟨ps,hps⟩:=zx (q12z s.data.toList n.toNat)
 rw[hps] at htk hpl hpn
 obtain⟨bv,o,cap,rfl,hN6,-⟩:=h.secs.facts haN
 have HK:Hid (∀W,Below w.heap.size w W→W.cell? ⟨bv,o+a,none⟩=some (.string s)):=fun W hW=>by
  obtain⟨b',o',cap',e',-,hc'⟩:=(h.below hW).secs.facts haN
  cases e'
  rw[hs] at hc'
  exact hc'
 have ha0:(0:Int)≤(a:Int):=by omega
 have ha1:(a:Int)<(N:Int):=by omega
 obtain⟨⟨c0,c1,c2⟩,c3,-⟩:=h.look.cells
 obtain⟨ga,gb,gc⟩:=g
 unfold gV at hmap
 dsimp only at hmap c0 c1 c2
 have hmm:=@run_makeMap Tryz.prog
 have HH:=zh h
 have HTk:=zh htk
 have HPn:=zh hpn
 have HMAP:=zh hmap
 have HPL:=zh hpl
 clear hmap hpl
 clear h hk hin hma ha hs hr hc hps htk hpn
 unfold pt
 go_enter Tryz.func151,Tryz.ntmps151
 go_wp2_with fail
 clear c0 c1 c2 c3
 refine(HMAP.out _).mono ?_
 rintro e w1 ⟨rfl,hb1⟩
 have HB1:=zh hb1
 have z:=HK.out w1 hb1
 obtain⟨-,c3,-⟩:=(HH.out.below hb1).look.cells
 clear hb1
 go_wp2_with fail
 clear z c3
 refine(HPL.out _).mono ?_
 rintro e w2 ⟨v2,rfl,ho2,hb2⟩
 have HB2:=zh (blN HB1.out hb2)
 clear hb2
 by_cases hc0:c=0
 ·rw[if_pos hc0] at ho2
  have HR:Hid (r=(t,some ps)):=by show _=_; rw[HTk.out,if_pos hc0]
  have hlen:ps.length≤64:=HPn.out.elim id (fun h=>absurd hc0 h)
  have q0:(c == 0)=true:=by rw[hc0]; rfl
  have q1:(c != 0)=false:=by rw[hc0]; rfl
  have hrow:RowAt w2 v2 1 (ps.map (fun n:Nat=>[Value.int .i64 (n:Int)])):=RowAt.own (base:=w1.heap.size) (e:=3) (fun x hx=>by
   obtain⟨y,_,rfl⟩:=List.mem_map.1 hx
   rfl) (by
   rw[List.length_map,List.flatten_eq_flatMap,List.flatMap_map]
   have e:(ps.flatMap (id ∘ fun n:Nat=>[Value.int .i64 (n:Int)]))=ps.map (fun n:Nat=>Value.int .i64 (n:Int)):=by rw[List.map_eq_flatMap]; rfl
   show w2.ownsRow _ _ _ _ _ (ps.flatMap (id ∘ fun n:Nat=>[Value.int .i64 (n:Int)]))
   rw[e]
   exact ho2)
  obtain⟨ad,len,pcap,rfl,HN,hn2,HF⟩:=RowAt.facts hrow
  have hlen':len≤64:=by rw[HN.out]; exact hlen
  obtain⟨W3,hW3⟩:=zx (w2.alloc (.map #[] 0))
  have HB3:Hid (Below w2.heap.size w2 W3):=by rw[←hW3]; exact bl2 _
  have HM3:Hid (IM.MapAt Value.bool W3 w2.heap.size (q114z (ps.take 0) [])):=by
   show IM.MapAt _ _ _ _
   rw[←hW3]
   exact⟨_,q5z w2 _,(IM.IsMap.new:IM.IsMap Value.bool _ [])⟩
  clear hc0 ho2 hrow hlen
  go_wp2_with fail
  clear hW3
  go_loopw [46] (fun i46 wr=>∃j:Nat,j≤len∧i46 = .int .i64 (j:Int)∧Hid (Turn (fun q=>q=w2.heap.size) W3 wr∧IM.MapAt Value.bool wr w2.heap.size (q114z (ps.take j) []))) (fun i46 _=>len-(intOf i46).toNat)
  case atStart=>exact⟨0,Nat.zero_le _,rfl,Turn.refl _ _,HM3.out⟩
  case round=>
   obtain⟨j,hj,rfl,HRel⟩:=hrel
   have HZ3:Hid (w2.heap.size<wr.heap.size):=HRel.out.2.lt
   by_cases hlt:j<len
   ·obtain⟨bl,oo,x,rfl,hbl,hx,hcl⟩:=HF.out j hlt
    have c0:wr.cell? ⟨bl,oo+j,none⟩=some (.int .i64 (x:Int)):=by
     have h1:=hcl 0 _ rfl
     rw[Nat.mul_one,Nat.add_zero] at h1
     have h2:W3.cell? ⟨bl,oo+j,none⟩=some (.int .i64 (x:Int)):=(HB3.out.cell (p:=⟨bl,oo+j,none⟩) hbl).trans h1
     have h3:=HRel.out.1.block bl (Nat.lt_of_lt_of_le hbl HB3.out.size) (fun e=>by have e:bl=w2.heap.size:=e; omega)
     unfold World.cell? at h2 ⊢
     simp only at h2 ⊢
     rw[h3]
     exact h2
    obtain⟨o',hrun,ho'⟩:=IM.run_update (P:=Tryz.prog) Tryz.underlying138 Tryz.underlying3 HRel.out.2 (x:Int) true
    obtain⟨W4,hW4⟩:=zx (ChangeMaps.setBlock wr w2.heap.size o')
    have HR1:Hid (Turn (fun q=>q=w2.heap.size) W3 W4∧IM.MapAt Value.bool W4 w2.heap.size (q114z (ps.take (j+1)) [])):=by
     rw[←hW4]
     have ht:ps.take (j+1)=ps.take j ++ [x]:=by rw[List.take_add_one,hx]; rfl
     exact⟨HRel.out.1.trans (q42z wr w2.heap.size o') (fun _ _ h=>h) (fun _ _ h=>h),by rw[ht,onesOf_snoc]; exact⟨o',IM.heap_setBlock_at HZ3.out,ho'⟩⟩
    rw[hW4] at hrun
    clear hx hcl hbl ho' HRel hW4
    go_wp2
    go_roundw
    case rel=>exact⟨j+1,by omega,by go_num,HR1⟩
    case measure=>simp[intOf]; omega
   ·have hjl:j=len:=by omega
    subst hjl
    have HEnd:Hid (TakenPost w base B ⟨ga,gb,gc⟩ (.slice (some ⟨bv,o,none⟩) N cap) m D r (.returned (.map (some w2.heap.size))) wr):=by
     have ht:ps.take j=ps:=List.take_of_length_le (by rw[HN.out]; exact Nat.le_refl _)
     have hm:=HRel.out.2
     rw[ht] at hm
     have hb:Below w.heap.size w wr:=(blN HB2.out HB3.out).trans (HRel.out.1.below (fun q hq=>by have:=HB2.out.size; omega) (blN HB2.out HB3.out).size)
     rw[HR.out]
     exact⟨_,rfl,Or.inr ⟨ps,w2.heap.size,_,rfl,rfl,hm,HB2.out.size,fun p=>by rw[getM_ones]; simp[IM.getM]⟩,q8z.none HH.out.look hb⟩
    clear hj hlt HRel
    go_wp2
    go_ret
    exact HEnd.out
 ·have HR:Hid (r=(t.tell 1 a,none)):=by show _=_; rw[HTk.out,if_neg hc0]
  have q0:(c == 0)=false:=beq_eq_false_iff_ne.2 hc0
  have q1:(c != 0)=true:=by simpa using hc0
  have htl:=q73z (HH.out.below HB2.out).look 1 (a:Int)
  unfold pt at htl
  have HTL:=zh htl
  clear htl
  clear hc0 ho2
  go_wp2_with fail
  refine HTL.out.mono ?_
  rintro e w3 ⟨rfl,hto3⟩
  have HEnd:Hid (TakenPost w base B ⟨ga,gb,gc⟩ (.slice (some ⟨bv,o,none⟩) N cap) m D r (.returned (.map none)) w3):=by
   rw[HR.out]
   exact⟨_,rfl,Or.inl ⟨rfl,rfl⟩,q8z.ahead HB2.out hto3⟩
  clear hto3
  go_wp2
  go_ret
  exact HEnd.out
end
section
variable {w w1 w':World} {base B N:Nat} {g:Sp.Geom} {vs:Value} {m:LookP} {t t':Sp.Look} {D D' K:Nat→Prop} {S:Int→ByteArray}
def q7z (w:World) (base B:Nat) (g:Sp.Geom) (vs:Value) (m:LookP) (t:Sp.Look) (D:Nat→Prop) (w':World):Prop:=q8z w base B g vs m t D w' D∧Turn (fun j=>j=m.found) w w'
theorem q7z.trans (h:q7z w base B g vs m t D w1) (k:q7z w1 base B g vs m t' D w'):q7z w base B g vs m t' D w':=⟨h.1.trans k.1,h.2.trans k.2 (fun _ _ h=>h) (fun _ _ h=>h)⟩
theorem q7z.behind (h:q7z w base B g vs m t D w1) (hb:Below w1.heap.size w1 w'):q7z w base B g vs m t D w':=⟨h.1.behind hb,h.2.trans (Turn.of_below (K:=fun j=>j=m.found) hb) (fun _ _ h=>h) (fun _ _ h=>h)⟩
theorem q7z.ahead (h:q7z w1 base B g vs m t D w') (hb:Below w.heap.size w w1):q7z w base B g vs m t D w':=⟨q8z.ahead hb h.1,(Turn.of_below (K:=fun j=>j=m.found) hb).trans h.2 (fun _ _ h=>h) (fun _ _ h=>h)⟩
theorem q7z.none (h:LookAt w base B g vs m t D) (hb:Below w.heap.size w w'):q7z w base B g vs m t D w':=⟨q8z.none h hb,Turn.of_below hb⟩
theorem q7z.heap (h:q7z w base B g vs m t D w') {k:Nat} {cs:Array Value} {e:TypeId} (ho:w.heap[k]? = some (.cells cs e (0,0))) (hl:LookAt w base B g vs m t' D):w'.heap[k]? = some (.cells cs e (0,0)):=
 h.2.heap ho (fun hk=>by
  obtain⟨o,hh,es,ck,rfl,_⟩:=hl.found
  rw[show k=m.found from hk,hh] at ho
  cases ho)
theorem q7z.row (h:q7z w base B g vs m t D w') {e:TypeId} {size n:Nat} {α:Type} {f:α→List Value} {v:Value} {l:List α} (hr:OwnR e size f n w v l) (hl:LookAt w base B g vs m t' D):OwnR e size f n w' v l:=
 hr.turn h.2 (fun k hk hkf=>by
  obtain⟨o,hh,es,ck,rfl,_⟩:=hl.found
  obtain⟨_,⟨rfl,_⟩ | ⟨gb,cap,cur,rfl,_,hc,_⟩⟩:=hr
  ·cases hk
  ·cases hk
   rw[show gb=m.found from hkf,hh] at hc
   cases hc)
theorem q76z (h:LookAt w base B g vs m t D) (k a:Int):Calls Tryz.prog 147 #[pt B,.int .i64 k,.int .i64 a] w fun e w'=>e = .returned (.tuple #[])∧q7z w base B g vs m (t.tell k a) D w':=by
 obtain⟨W,hrun,hW,hT⟩:=h.tell k a
 obtain⟨-,-,-,-,-,-,c8⟩:=h.cells
 have HQ:Hid (q7z w base B g vs m (t.tell k a) D W):=⟨⟨hW,fun _ h=>Or.inl h,hT.mono (fun j _ hj=>by rw[show j=m.found from hj]; exact h.own.2.2.2.2)⟩,hT⟩
 unfold pt
 clear hW hT h
 go_enter Tryz.func147,Tryz.ntmps147
 go_wp2
 go_end0
 exact⟨rfl,HQ.out⟩
theorem creached_any (h:LookAt w base B g vs m t D) (i:Int) (hc:t.called i) (hlen:(t.namesOf i).length≤30000) (n:Sp.Inode):Calls Tryz.prog 152 #[pt B,.int .i64 i,.agg (nA n)] w fun e w'=>e = .returned (.tuple #[])∧q7z w base B g vs m (t.reached i n) D w':=by
 obtain⟨v,hlk,hv,-,-⟩:=h.naming i i
 obtain⟨y,l,hcl⟩:=hc
 have hnm:t.namesOf i=y :: l:=by unfold Look.namesOf; rw[hcl]; rfl
 obtain⟨ad,cap,rfl⟩:=hv.form
 have hrow:OwnR 3 1 intC base w (.slice ad (t.namesOf i).length cap) (y :: l):=by rw[←hnm]; exact hv
 obtain⟨L,hL⟩:=zx ((t.namesOf i).length)
 have hL1:1≤L:=by rw[←hL,hnm]; simp
 rw[hL] at hlk hrow hlen
 have HCell:Hid (∀W,OwnR 3 1 intC base W (.slice ad L cap) (y :: l)→∃bb oo,ad=some ⟨bb,oo,none⟩∧W.cell? ⟨bb,oo,none⟩=some (.int .i64 y)):=fun W hr=>by
  obtain⟨ad',n',cap',e',hn',-,hf'⟩:=RowAt.facts (OwnR.row (f:=intC) (size:=1) (fun _ _=>rfl) hr)
  cases e'
  obtain⟨bb,oo,x,e1,-,hx,hcc⟩:=hf'.out 0 (by omega)
  have hx:y=x:=by simpa using hx
  subst hx
  have:=hcc 0 _ rfl
  simp only[Nat.zero_mul,Nat.add_zero] at this
  exact⟨bb,oo,e1,this⟩
 obtain⟨bb,oo,rfl,-⟩:=HCell.out w hrow
 have hre:t.reached i n=(if n.kind≠2 then(if n.links<(L:Int) then t.tell 5 i else if(L:Int)<n.links then t.tell 8 i else t) else if 1<L then(if n.links<(L:Int) then t.tell 5 i else if(L:Int)<n.links then t.tell 8 i else t).tell 6 i else if n.parent≠y then(if n.links<(L:Int) then t.tell 5 i else if(L:Int)<n.links then t.tell 8 i else t).tell 7 i else(if n.links<(L:Int) then t.tell 5 i else if(L:Int)<n.links then t.tell 8 i else t)):=by
  unfold Look.reached
  simp only[hL]
  rw[hnm]
  rfl
 obtain⟨t1,ht1⟩:=zx ((if n.links<(L:Int) then t.tell 5 i else if(L:Int)<n.links then t.tell 8 i else t))
 rw[ht1] at hre
 unfold nA iA
 obtain⟨x0,h0⟩:=zx (n.kind)
 obtain⟨x1,h1⟩:=zx (n.links)
 obtain⟨x2,h2⟩:=zx (n.size)
 obtain⟨x3,h3⟩:=zx (n.parent)
 obtain⟨x4,h4⟩:=zx (n.gen)
 obtain⟨d0,h5⟩:=zx (n.direct.getD 0 0)
 obtain⟨d1,h6⟩:=zx (n.direct.getD 1 0)
 obtain⟨d2,h7⟩:=zx (n.direct.getD 2 0)
 obtain⟨d3,h8⟩:=zx (n.direct.getD 3 0)
 obtain⟨d4,h9⟩:=zx (n.direct.getD 4 0)
 obtain⟨d5,h10⟩:=zx (n.direct.getD 5 0)
 obtain⟨d6,h11⟩:=zx (n.direct.getD 6 0)
 obtain⟨d7,h12⟩:=zx (n.direct.getD 7 0)
 obtain⟨x6,h13⟩:=zx (n.more)
 rw[h0,h3] at hre
 rw[h1] at ht1
 rw[h0,h1,h2,h3,h4,h5,h6,h7,h8,h9,h10,h11,h12,h13]
 obtain⟨u,hu⟩:=zx (t.reached i n)
 rw[hu] at hre ⊢
 obtain⟨W1,hW1⟩:=zx (w.alloc (.cells #[.int .i64 x0,.int .i64 x1,.int .i64 x2,.int .i64 x3,.int .i64 x4,.int .i64 d0,.int .i64 d1,.int .i64 d2,.int .i64 d3,.int .i64 d4,.int .i64 d5,.int .i64 d6,.int .i64 d7,.int .i64 x6] 69))
 have HB1:Hid (Below w.heap.size w W1):=by rw[←hW1]; exact bl2 _
 have HZ1:Hid (W1.heap[w.heap.size]? = some (.cells #[.int .i64 x0,.int .i64 x1,.int .i64 x2,.int .i64 x3,.int .i64 x4,.int .i64 d0,.int .i64 d1,.int .i64 d2,.int .i64 d3,.int .i64 d4,.int .i64 d5,.int .i64 d6,.int .i64 d7,.int .i64 x6] 69 (0,0))):=by rw[←hW1]; exact q5z w _
 have HL1:=zh (h.below HB1.out)
 have HRow:=zh (OwnR.below hrow HB1.out)
 have hlk1:=hlk W1 (Turn.of_below HB1.out)
 obtain⟨-,-,-,-,c6,-⟩:=HL1.out.cells
 have y1:=zc 1 HZ1.out
 have HRe:=zh hre
 have HT1:=zh ht1
 have HA:Hid (q7z w base B g vs m t D W1):=q7z.none h HB1.out
 clear h hlk hv hcl hnm hrow hL hre ht1 h0 h1 h2 h3 h4 h5 h6 h7 h8 h9 h10 h11 h12 h13 hu
 unfold pt
 go_enter Tryz.func152,Tryz.ntmps152
 go_upto_block 0 with fail
 clear hlk1 c6 hW1
 go_cut [] (fun wx=>Hid (q7z W1 base B g vs m t1 D wx))
 case first=>
  by_cases hlt:x1<(L:Int)
  ·have q1:decide (x1<(L:Int))=true:=decide_eq_true hlt
   have hte:t.tell 5 i=t1:=by rw[←HT1.out,if_pos hlt]
   have htl:=q76z HL1.out 5 i
   rw[hte] at htl
   unfold pt at htl
   have HTL:=zh htl
   clear htl
   clear hlt hte
   go_wp2_with fail
   refine HTL.out.mono ?_
   rintro e w3 ⟨rfl,hto3⟩
   have HR:=zh hto3
   clear hto3
   go_wp2
   go_meet
   case rel=>exact HR
  ·have q1:decide (x1<(L:Int))=false:=decide_eq_false hlt
   by_cases hgt:(L:Int)<x1
   ·have q2:decide (x1 > (L:Int))=true:=decide_eq_true hgt
    have hte:t.tell 8 i=t1:=by rw[←HT1.out,if_neg hlt,if_pos hgt]
    have htl:=q76z HL1.out 8 i
    rw[hte] at htl
    unfold pt at htl
    have HTL:=zh htl
    clear htl
    clear hlt hgt hte
    go_wp2_with fail
    refine HTL.out.mono ?_
    rintro e w3 ⟨rfl,hto3⟩
    have HR:=zh hto3
    clear hto3
    go_wp2
    go_meet
    case rel=>exact HR
   ·have q2:decide (x1 > (L:Int))=false:=decide_eq_false hgt
    have hte:t=t1:=by rw[←HT1.out,if_neg hlt,if_neg hgt]
    have HR:Hid (q7z W1 base B g vs m t1 D W1):=by rw[←hte]; exact q7z.none HL1.out (Below.refl _ _)
    clear hlt hgt hte
    go_wp2
    go_meet
    case rel=>exact HR
 case rest=>
  have HC:=zh hcut.out
  clear hcut y1
  have hzc:=HC.out.heap HZ1.out HL1.out
  have y0:=zc 0 hzc
  have y3:=zc 3 hzc
  have hrc:=HC.out.row HRow.out HL1.out
  obtain⟨bb',oo',e',cz⟩:=HCell.out wc hrc
  cases e'
  have HAc:=zh (HA.out.trans HC.out)
  clear hzc hrc
  by_cases hk2:x0=2
  ·have q0:(x0 == 2)=true:=by rw[hk2]; rfl
   have q1:(x0 != 2)=false:=by rw[hk2]; rfl
   have hre2:=HRe.out
   rw[if_neg (fun h=>h hk2)] at hre2
   by_cases hm1:1<L
   ·have q2:decide ((L:Int) > 1)=true:=decide_eq_true (by omega)
    have q3:decide (1<L)=true:=decide_eq_true hm1
    rw[if_pos hm1] at hre2
    have htl:=q76z HC.out.1.1 6 i
    rw[←hre2] at htl
    unfold pt at htl
    have HTL:=zh htl
    clear htl
    clear hk2 hre2
    go_wp2_with fail
    refine HTL.out.mono ?_
    rintro e w3 ⟨rfl,hto3⟩
    have HR:=zh (HAc.out.trans hto3)
    clear hto3
    go_wp2
    go_end0
    exact⟨rfl,HR.out⟩
   ·have q2:decide ((L:Int) > 1)=false:=decide_eq_false (by omega)
    have q3:decide (1<L)=false:=decide_eq_false hm1
    rw[if_neg hm1] at hre2
    by_cases hp:x3=y
    ·have q4:(x3 == y)=true:=by rw[hp]; exact beq_self_eq_true y
     have q5:(x3 != y)=false:=by rw[bne,q4]; rfl
     rw[if_neg (fun h=>h hp)] at hre2
     have HR:Hid (q7z w base B g vs m u D wc):=by rw[hre2]; exact HAc.out
     clear hk2 hre2 hp
     go_wp2_with fail
     have hL0:0<L:=hL1
     have hL0i:(0:Int)<(L:Int):=by omega
     have hS:wc.drew.cell? ⟨w.heap.size,3,none⟩=some (.int .i64 x3)∧wc.drew.cell? ⟨bb,oo,none⟩=some (.int .i64 y):=⟨y3,cz⟩
     go_region_held3 (fun W=>W.cell? ⟨w.heap.size,3,none⟩=some (.int .i64 x3)∧W.cell? ⟨bb,oo,none⟩=some (.int .i64 y)) (exact hS) (fail)
     go_wp2
     go_end0
     exact⟨rfl,q7z.behind HR.out (blD (Below.refl _ _))⟩
    ·have q4:(x3 == y)=false:=beq_eq_false_iff_ne.2 hp
     have q5:(x3 != y)=true:=by rw[bne,q4]; rfl
     rw[if_pos hp] at hre2
     have htl:=q76z (HC.out.1.1.below (blD (Below.refl _ _))) 7 i
     rw[←hre2] at htl
     unfold pt at htl
     have HTL:=zh htl
     clear htl
     clear hk2 hre2 hp
     go_wp2_with fail
     have hL0:0<L:=hL1
     have hL0i:(0:Int)<(L:Int):=by omega
     have hS:wc.drew.cell? ⟨w.heap.size,3,none⟩=some (.int .i64 x3)∧wc.drew.cell? ⟨bb,oo,none⟩=some (.int .i64 y):=⟨y3,cz⟩
     go_region_held3 (fun W=>W.cell? ⟨w.heap.size,3,none⟩=some (.int .i64 x3)∧W.cell? ⟨bb,oo,none⟩=some (.int .i64 y)) (exact hS) (fail)
     go_wp2_with fail
     refine HTL.out.mono ?_
     rintro e w3 ⟨rfl,hto3⟩
     have HR:=zh (HAc.out.trans (hto3.ahead (blD (Below.refl _ _))))
     clear hto3
     go_wp2
     go_end0
     exact⟨rfl,HR.out⟩
  ·have q0:(x0 == 2)=false:=beq_eq_false_iff_ne.2 hk2
   have q1:(x0 != 2)=true:=by simpa using hk2
   have HR:Hid (q7z w base B g vs m u D wc):=by rw[HRe.out,if_pos hk2]; exact HAc.out
   clear hk2
   go_wp2
   refine bodyPost_ret (results_none rfl _ _ _) rfl ?_
   exact⟨rfl,HR.out⟩
end
