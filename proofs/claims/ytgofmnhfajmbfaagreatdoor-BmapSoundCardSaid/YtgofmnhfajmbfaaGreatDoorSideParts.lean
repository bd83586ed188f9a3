import Derived.Test.YtgofmnhfajmbfaaGreatDoorDepsSend
set_option maxRecDepth 20000
set_option maxHeartbeats 4000000
namespace Go.Proofs.YtgofmnhfajmbfaaGreatDoor
open Go Go.RowKit Txt Sp
def sentB (i:Int) (c:Chg):Bool:=decide (c.at_=i) && decide (c.state=2)
def chgV (x:Chg×Value):Value:=.agg #[.int .i64 x.1.num,.int .i64 x.1.at_,.int .i64 x.1.off,.string x.1.bytes,x.2,.int .i64 x.1.state]
theorem chgDone_any {w:World} (x:Chg×Value) (i:Int) (bx:Nat) (c1:w.cell? ⟨bx,0,none⟩=some (.int .i64 i)) (hb:bx<w.heap.size) :
 Calls Tryz.prog 240 #[chgV x,.pointer (some ⟨bx,0,none⟩)] w fun e w'=>e = .returned (.bool (sentB i x.1))∧Below w.heap.size w w':=by
 obtain⟨⟨cn,ca,co,cb,cah,cs⟩,u⟩:=x
 unfold chgV sentB
 dsimp only
 obtain⟨W,hW⟩:=zx (w.alloc (.cells #[.int .i64 cn,.int .i64 ca,.int .i64 co,.string cb,u,.int .i64 cs] 209))
 have hz:=heapNew w (.cells #[.int .i64 cn,.int .i64 ca,.int .i64 co,.string cb,u,.int .i64 cs] 209)
 rw[hW] at hz
 have y1:W.cell? ⟨w.heap.size,1,none⟩=some (.int .i64 ca):=zc 1 hz
 have y5:W.cell? ⟨w.heap.size,5,none⟩=some (.int .i64 cs):=zc 5 hz
 have HB:Hid (Below w.heap.size w W):=by rw[←hW]; exact bl2 _
 have c2:W.cell? ⟨bx,0,none⟩=some (.int .i64 i):=(HB.out.cell (p:=⟨bx,0,none⟩) hb).trans c1
 clear hz c1
 go_enter Tryz.func240,Tryz.ntmps240
 by_cases h1:ca=i
 ·subst h1
  rw[decide_eq_true rfl,Bool.true_and]
  have q:(cs == 2)=decide (cs=2):=rfl
  obtain⟨b,hb2⟩:=zx (decide (cs=2))
  rw[hb2] at q ⊢
  clear hb2 hb
  go_wp2
  go_ret
  exact⟨rfl,HB.out⟩
 ·rw[decide_eq_false h1,Bool.false_and]
  have q:(ca == i)=false:=beq_eq_false_iff_ne.2 h1
  clear hb h1
  go_wp2
  go_ret
  exact⟨rfl,HB.out⟩
def IndPost (i:Int) (ps:List (Chg×Value)) (w:World) (e:Ending) (w':World):Prop:=
 Below w.heap.size w w'∧((e = .returned (.int .i64 (-1))∧∀x∈ps,sentB i x.1=false)∨∃(k:Nat) (x:Chg×Value),e = .returned (.int .i64 (k:Int))∧ps[k]? = some x∧sentB i x.1=true∧∀t∈ps.take k,sentB i t.1=false)
theorem chgIndex_any {w:World} {base bx:Nat} {v:Value} {ps:List (Chg×Value)} (i:Int) (hv:OwnR 209 6 chgC base w v ps) (c1:w.cell? ⟨bx,0,none⟩=some (.int .i64 i)) (hb:bx<w.heap.size) :
 Calls Tryz.prog 275 #[v,.func (.func 240) #[] #[.pointer (some ⟨bx,0,none⟩)]] w (IndPost i ps w):=by
 obtain⟨ad,n,cap,rfl,HN,hn2,HF⟩:=RowAt.facts (OwnR.row (f:=chgC) (size:=6) (fun _ _=>rfl) hv)
 have hs:=fun(W:World) (hW:Below w.heap.size w W) (x:Chg×Value)=>chgDone_any x i bx ((hW.cell (p:=⟨bx,0,none⟩) hb).trans c1) (Nat.lt_of_lt_of_le hb hW.size)
 unfold chgV at hs
 have HS:=zh hs
 clear hv hs c1 hb
 go_enter Tryz.func275,Tryz.ntmps275
 go_wp2
 go_loopw [8] (fun q wr=>∃k:Nat,k≤n∧q = .int .i64 k∧Hid (∀t∈ps.take k,sentB i t.1=false)∧Hid (Below w.heap.size w wr)) (fun q _=>n-(intOf q).toNat)
 case atStart=>exact⟨0,Nat.zero_le _,rfl,zh (by simp),Below.refl _ _⟩
 case round=>
  obtain⟨k,hk,rfl,HA,HB⟩:=hrel
  by_cases hlt:k<n
  ·obtain⟨b,o,x,rfl,hb,hxx,hc⟩:=HF.out k hlt
   have hk0:(k:Int)<(n:Int):=by omega
   obtain⟨⟨cn,ca,co,cb,cah,cs⟩,u⟩:=x
   have cc:=fun(m:Nat) (y:Value) (hy:(chgC (⟨cn,ca,co,cb,cah,cs⟩,u))[m]? = some y)=>(HB.out.cell (p:=⟨b,o+k*6+m,none⟩) hb).trans (hc m y hy)
   have c0:=cc 0 _ rfl
   have c1:=cc 1 _ rfl
   have c2:=cc 2 _ rfl
   have c3:=cc 3 _ rfl
   have c4:=cc 4 _ rfl
   have c5:=cc 5 _ rfl
   simp only[Nat.add_zero] at c0
   have hcall:=HS.out wr HB.out (⟨cn,ca,co,cb,cah,cs⟩,u)
   dsimp only at hcall
   clear cc
   cases h64:sentB i ⟨cn,ca,co,cb,cah,cs⟩ with
   | true=>
     have HE:Hid (∀w',Below w.heap.size w w'→IndPost i ps w (.returned (.int .i64 (k:Int))) w'):=fun w' hw=>⟨hw,Or.inr ⟨k,_,rfl,hxx,h64,HA.out⟩⟩
     rw[h64] at hcall
     have HC:=zh hcall
     clear hxx h64 hcall hc hb
     go_wp2_with fail
     refine HC.out.mono ?_
     rintro e w2 ⟨rfl,hb2⟩
     have HB2:=zh (blN HB.out hb2)
     clear hb2
     go_wp2
     refine bodyPost_ret (v:=.int .i64 (k:Int)) (by simp[results,Tryz.results275,go_sem]) rfl ?_
     exact HE.out _ HB2.out
   | false=>
     have HA2:Hid (∀t∈ps.take (k+1),sentB i t.1=false):=by
      show ∀t∈ps.take (k+1),sentB i t.1=false
      rw[q31z hxx]
      intro t ht
      rcases List.mem_append.1 ht with ht | ht
      ·exact HA.out t ht
      ·rw[List.mem_singleton.1 ht]; exact h64
     rw[h64] at hcall
     have HC:=zh hcall
     clear hxx h64 hcall hc hb
     go_wp2_with fail
     refine HC.out.mono ?_
     rintro e w2 ⟨rfl,hb2⟩
     have HB2:=zh (blN HB.out hb2)
     clear hb2
     go_wp2
     go_roundw
     case rel=>exact⟨k+1,by omega,by go_num,HA2,HB2⟩
     case measure=>simp[intOf]; omega
  ·have htk:ps.take k=ps:=List.take_of_length_le (by have:=HN.out; omega)
   have ha:=HA.out
   rw[htk] at ha
   have HE:Hid (∀w',Below w.heap.size w w'→IndPost i ps w (.returned (.int .i64 (-1))) w'):=fun w' hw=>⟨hw,Or.inl ⟨rfl,ha⟩⟩
   clear ha htk
   go_wp2
   refine bodyPost_ret (v:=.int .i64 (-1)) (by simp[results,Tryz.results275,go_sem]) rfl ?_
   exact HE.out _ HB.out
theorem clear_chgs {w:World} {g cap n:Nat} {R:List (Chg×Value)} (h:RowG w g cap R) {i:Nat} (hn:n+i=R.length) (h0:0<n) (ty:TypeId) (c:Nat):∃Z:List Value,Z.length=(R.length-i)*6 ∧
 (Builtin.clear_ #[205] ty #[.slice (some ⟨g,i*6,none⟩) n c]).run Tryz.prog w = .ok (.tuple #[]) (sets w g (i*6) Z):=by
 obtain⟨cur,h1,h2,h3,h4⟩:=h
 obtain⟨Z,hZ⟩:=zx ((Builtin.zeroCells (Value.agg #[.int .i64 0,.int .i64 0,.int .i64 0,.string ⟨#[]⟩,.slice none 0 0,.int .i64 0]).cells n).toList)
 have hl:Z.length=n*6:=by
  rw[←hZ]
  simp[Builtin.zeroCells,Value.cells]
 have h1c:∀v∈Z,v.oneCell' = true:=by
  rw[←hZ]
  intro v hv
  simp only[Builtin.zeroCells,Value.cells,Array.toList_map,List.mem_map] at hv
  obtain⟨q,-,rfl⟩:=hv
  have:∀r,r<6→((#[.int .i64 0,.int .i64 0,.int .i64 0,.string ⟨#[]⟩,.slice none 0 0,.int .i64 0]:Array Value)[r]!).oneCell' = true:=by
   intro r hr
   match r,hr with
   | 0,_=>rfl
   | 1,_=>rfl
   | 2,_=>rfl
   | 3,_=>rfl
   | 4,_=>rfl
   | 5,_=>rfl
  exact this _ (Nat.mod_lt _ (by decide))
 refine⟨Z,by rw[hl]; congr 1; omega,?_⟩
 have hst:=run_storeCells_cells (P:=Tryz.prog) g (i*6) Z 0 w (fun j hj=>by
  have:i*6+0+j<cur.size:=by omega
  rw[cellOf (k:=i*6+0+j) h1 (Array.getElem?_eq_getElem this)]
  rfl) (fun j _=>q4z h1) h1c
 simp only[Nat.add_zero] at hst
 rw[setCells_sets] at hst
 obtain⟨m,rfl⟩:∃m,n=m+1:=⟨n-1,by omega⟩
 simp[Builtin.clear_,run_underlying Tryz.underlying205,hZ,hst]
def leftP (i:Int) (ps:List (Chg×Value)):List (Chg×Value):=ps.filter fun x=>!sentB i x.1
def q44z (i:Int) (ps:List (Chg×Value)) (w:World) (g cap:Nat) (a j:Nat) (wr:World):Prop:=
 a<j∧∃R:List (Chg×Value),R.length=ps.length∧R.take a=leftP i (ps.take j)∧R.drop j=ps.drop j∧RowG wr g cap R∧Turn (fun k=>k=g) w wr
def q188z (i:Int) (base:Nat) (v:Value) (ps:List (Chg×Value)) (w:World) (e:Ending) (w':World):Prop:=
 ∃v',e = .returned v'∧OwnR 209 6 chgC base w' v' (leftP i ps)∧(∀k,v'.ownBlock=some k→v.ownBlock=some k)∧∃K,(∀k,K k→v.ownBlock=some k)∧q69z 209 w K∧Turn K w w'
theorem leftP_none {i:Int} {ps:List (Chg×Value)} (h:∀x∈ps,sentB i x.1=false):leftP i ps=ps:=
 List.filter_eq_self.2 fun x hx=>by rw[h x hx]; rfl
theorem leftP_snoc {i:Int} {ps:List (Chg×Value)} {j:Nat} {x:Chg×Value} (hx:ps[j]? = some x):leftP i (ps.take (j+1))=leftP i (ps.take j) ++ (if sentB i x.1=true then [] else [x]):=by
 unfold leftP
 rw[List.take_add_one,hx,Option.toList_some,List.filter_append]
 congr 1
 cases h:sentB i x.1 with
 | true=>simp[h]
 | false=>simp[h]
theorem q44z.skip {i:Int} {ps:List (Chg×Value)} {w wr:World} {g cap a j:Nat} (h:q44z i ps w g cap a j wr) {x:Chg×Value} (hx:ps[j]? = some x) (hs:sentB i x.1=true):q44z i ps w g cap a (j+1) wr:=by
 obtain⟨h1,R,r1,r2,r3,r4⟩:=h
 refine⟨by omega,R,r1,?_,?_,r4⟩
 ·rw[r2,leftP_snoc hx,if_pos hs,List.append_nil]
 ·rw[←List.tail_drop,r3,List.tail_drop]
theorem q44z.keep {i:Int} {ps:List (Chg×Value)} {w wr:World} {g cap a j:Nat} (h:q44z i ps w g cap a j wr) {x:Chg×Value} (hx:ps[j]? = some x) (hs:sentB i x.1=false):q44z i ps w g cap (a+1) (j+1) (sets wr g (a*6) (chgC x)):=by
 obtain⟨h1,R,r1,r2,r3,r4,r5⟩:=h
 have hj:=(List.getElem?_eq_some_iff.1 hx).1
 refine⟨by omega,R.set a x,by rw[List.length_set,r1],?_,?_,r4.set (by omega) x,r5.trans (q166z _ _ _) (fun _ _ h=>h) (fun _ _ h=>h)⟩
 ·rw[List.take_add_one,List.getElem?_set,if_pos rfl,if_pos (by omega),List.take_set_of_le (Nat.le_refl a),r2,leftP_snoc hx,if_neg (by rw[hs]; decide)]
  rfl
 ·rw[List.drop_set_of_lt (by omega),←List.tail_drop,r3,List.tail_drop]
theorem q44z.below {i:Int} {ps:List (Chg×Value)} {w wr w2:World} {g cap a j:Nat} (h:q44z i ps w g cap a j wr) (hb:Below wr.heap.size wr w2):q44z i ps w g cap a j w2:=by
 obtain⟨h1,R,r1,r2,r3,r4,r5⟩:=h
 exact⟨h1,R,r1,r2,r3,r4.below hb,r5.trans (Turn.of_below (K:=fun _=>False) hb) (fun _ _ h=>h) (fun _ _ h=>h.elim)⟩
theorem q44z.cell {i:Int} {ps:List (Chg×Value)} {w wr:World} {g cap a j:Nat} (h:q44z i ps w g cap a j wr) {x:Chg×Value} (hx:ps[j]? = some x) {m:Nat} {y:Value} (hy:(chgC x)[m]? = some y):wr.cell? ⟨g,j*6+m,none⟩=some y:=by
 obtain⟨h1,R,r1,r2,r3,r4,r5⟩:=h
 have e:R[j]? = some x:=by
  have:=congrArg List.head? r3
  rwa [List.head?_drop,List.head?_drop,hx] at this
 exact r4.cell e hy
theorem q44z.done {i:Int} {ps:List (Chg×Value)} {w wr:World} {base g cap a:Nat} {v:Value} (h:q44z i ps w g cap a ps.length wr) (hv:v.ownBlock=some g) (hg:base≤g) (hc:cap≤maxLen) (hty:q69z 209 w (fun k=>k=g)) {Z:List Value} (hZ:Z.length=(ps.length-a)*6) :
 q188z i base v ps w (.returned (.slice (some ⟨g,0,none⟩) a cap)) (sets wr g (a*6) Z):=by
 obtain⟨h1,R,r1,r2,r3,r4,r5⟩:=h
 rw[List.take_length] at r2
 have ht:=r4.tail (i:=a) (by omega) (Z:=Z) (by rw[hZ,r1])
 have ho:=ht.own (base:=base) hg hc (i:=a) (by rw[List.length_take]; omega)
 rw[List.take_take,Nat.min_self,r2] at ho
 refine⟨_,rfl,ho,fun k hk=>?_,fun k=>k=g,fun k hk=>by rw[hk]; exact hv,hty,r5.trans (q166z _ _ _) (fun _ _ h=>h) (fun _ _ h=>h)⟩
 rw[hv]
 exact hk
theorem q44z.row {i:Int} {ps:List (Chg×Value)} {w wr:World} {g cap a j:Nat} (h:q44z i ps w g cap a j wr):∃R:List (Chg×Value),R.length=ps.length∧RowG wr g cap R∧a<j:=by
 obtain⟨h1,R,r1,r2,r3,r4,r5⟩:=h
 exact⟨R,r1,r4,h1⟩
section
theorem chgDelete_any {w:World} {base bx:Nat} {v:Value} {ps:List (Chg×Value)} (i:Int) (hv:OwnR 209 6 chgC base w v ps) (hsl:∀x∈ps,∃ad m c,x.2 = .slice ad m c) (hbx:w.heap[bx]? = some (.cells #[.int .i64 i] 3 (0,0))) :
 Calls Tryz.prog 239 #[v,.func (.func 240) #[] #[.pointer (some ⟨bx,0,none⟩)]] w (q188z i base v ps w):=by
 have hi:=chgIndex_any i hv (zc 0 hbx) (Array.getElem?_eq_some_iff.1 hbx).1
 obtain⟨pr,hpr⟩:=zx (IndPost i ps w)
 rw[hpr] at hi
 have HI:=zh hi
 clear hi
 by_cases hall:∀x∈ps,sentB i x.1=false
 ·have HF:Hid (∀e w1,pr e w1→e = .returned (.int .i64 (-1))∧q188z i base v ps w (.returned v) w1):=by
   rw[←hpr]
   rintro e w1 ⟨hb1,⟨rfl,-⟩ | ⟨k,x,rfl,hk,hx,-⟩⟩
   ·exact⟨rfl,v,rfl,by rw[leftP_none hall]; exact hv.below hb1,fun _ h=>h,fun _=>False,fun _ h=>h.elim,fun _ h=>h.elim,Turn.of_below hb1⟩
   ·exact absurd (hall x (List.mem_of_getElem? hk)) (by rw[hx]; decide)
  clear hv hbx hpr hall hsl
  go_enter Tryz.func239,Tryz.ntmps239
  go_wp2_with fail
  refine HI.out.mono ?_
  intro e w1 hp
  obtain⟨rfl,hd⟩:=HF.out e w1 hp
  have HD:=zh hd
  clear hp hd
  go_wp2
  refine bodyPost_ret (v:=v) (by simp[results,Tryz.results239,go_sem]) rfl ?_
  exact HD.out
 ·have hne:ps≠[]:=fun e=>hall (by rw[e]; intro x hx; cases hx)
  obtain⟨g,cap,rfl,hg,hc,hr⟩:=hv.rowG hne
  have hty:q69z 209 w (fun k=>k=g):=by
   rintro k rfl
   obtain⟨cur,h1,_⟩:=hr
   exact⟨_,_,h1⟩
  have hgb:bx≠g:=fun e=>(hty.not hbx (by decide)) e
  have hbw:=(Array.getElem?_eq_some_iff.1 hbx).1
  obtain⟨n,hn⟩:=zx (ps.length)
  have hcn:n≤cap:=by
   obtain⟨cur,_,_,h3,_⟩:=hr
   omega
  have hc2:cap≤9223372036854775807:=hc
  have HF:Hid (∀e w1,pr e w1→∃k:Nat,k<n∧e = .returned (.int .i64 (k:Int))∧q44z i ps w g cap k (k+1) w1):=by
   rw[←hpr]
   rintro e w1 ⟨hb1,⟨rfl,hno⟩ | ⟨k,x,rfl,hk,hx,hbe⟩⟩
   ·exact absurd hno hall
   ·have hkl:=(List.getElem?_eq_some_iff.1 hk).1
    refine⟨k,by omega,rfl,by omega,ps,rfl,?_,rfl,hr.below hb1,Turn.of_below hb1⟩
    rw[leftP_snoc hk,if_pos hx,List.append_nil,leftP_none hbe]
  have HS:Hid (∀(a j:Nat) (wr W:World),q44z i ps w g cap a j wr→Below wr.heap.size wr W→∀x:Chg×Value,Calls Tryz.prog 240 #[chgV x,.pointer (some ⟨bx,0,none⟩)] W fun e w'=>e = .returned (.bool (sentB i x.1))∧Below W.heap.size W w'):=by
   rintro a j wr W ⟨_,R,_,_,_,_,hT⟩ hW x
   have hx:=heapOld hW (hT.heap hbx hgb)
   exact chgDone_any x i bx (zc 0 hx) (Array.getElem?_eq_some_iff.1 hx).1
  have HX:Hid (∀j,j<n→∃x,ps[j]? = some x∧∃ad m c,x.2 = .slice ad m c):=fun j hj=>⟨_,List.getElem?_eq_getElem (by omega),hsl _ (List.getElem_mem (by omega))⟩
  have HDone:Hid (∀(a:Nat) (wr:World) (Z:List Value),q44z i ps w g cap a n wr→Z.length=(n-a)*6→q188z i base (.slice (some ⟨g,0,none⟩) ps.length cap) ps w (.returned (.slice (some ⟨g,0,none⟩) a cap)) (sets wr g (a*6) Z)):=by
   intro a wr Z h hZ
   rw[←hn] at h hZ
   exact h.done rfl hg hc hty hZ
  have HClr:Hid (∀(a:Nat) (wr:World),q44z i ps w g cap a n wr→∀(ty:TypeId) (c:Nat),∃Z:List Value,Z.length=(n-a)*6∧(Builtin.clear_ #[205] ty #[.slice (some ⟨g,a*6,none⟩) (n-a) c]).run Tryz.prog wr = .ok (.tuple #[]) (sets wr g (a*6) Z)):=by
   intro a wr h ty c
   obtain⟨R,r1,r2,r3⟩:=h.row
   obtain⟨Z,h1,h2⟩:=clear_chgs r2 (i:=a) (n:=n-a) (by omega) (by omega) ty c
   exact⟨Z,by rw[h1,r1,hn],h2⟩
  rw[hn] at HI HDone ⊢
  clear hv hbx hpr hall hsl hr hne hty hgb hg hc hn
  go_enter Tryz.func239,Tryz.ntmps239
  go_wp2_with fail
  refine HI.out.mono ?_
  intro e w1 hp
  obtain⟨k0,hk0,rfl,hd⟩:=HF.out e w1 hp
  have HD:=zh hd
  clear hp hd HF
  have q1:((k0:Int) == -1)=false:=beq_eq_false_iff_ne.2 (by omega)
  go_wp2
  go_loopw [5,6] (fun s5 s6 wr=>∃a j:Nat,j≤n∧a<j∧s5 = .int .i64 (a:Int)∧s6 = .int .i64 (j:Int)∧Hid (q44z i ps w g cap a j wr)) (fun _ s6 _=>n-(intOf s6).toNat)
  case atStart=>exact⟨k0,k0+1,by omega,by omega,rfl,by go_num,HD⟩
  case round=>
   clear HD
   obtain⟨a,j,hj,haj,rfl,rfl,HR⟩:=hrel
   by_cases hlt:j<n
   ·obtain⟨x,hx,ua,un,uc,hu⟩:=HX.out j hlt
    obtain⟨W,hW⟩:=zx (wr.alloc (.cells (chgC x).toArray 209))
    have hz:=heapNew wr (.cells (chgC x).toArray 209)
    rw[hW] at hz
    have hbW:Below wr.heap.size wr W:=by rw[←hW]; exact bl2 _
    have hcall:=HS.out a j wr W HR.out hbW x
    have HSkip:Hid (∀w2,Below W.heap.size W w2→sentB i x.1=true→q44z i ps w g cap a (j+1) w2):=fun w2 h2 hs=>(HR.out.below (blN hbW h2)).skip hx hs
    have HKeep:Hid (∀w2,Below W.heap.size W w2→sentB i x.1=false→q44z i ps w g cap (a+1) (j+1) (sets w2 g (a*6) (chgC x))):=fun w2 h2 hs=>(HR.out.below (blN hbW h2)).keep hx hs
    have HPut:Hid (∀w2,Below W.heap.size W w2→(∀m,m<6→∃y,w2.cell? ⟨g,a*6+m,none⟩=some y)∧∀k,w2.frozen? ⟨g,k,none⟩=false):=fun w2 h2=>by
     obtain⟨R,r1,r2,r3⟩:=(HR.out.below (blN hbW h2)).row
     have ha:a<R.length:=by have:=(List.getElem?_eq_some_iff.1 hx).1; omega
     exact⟨fun m hm=>⟨_,r2.cell (List.getElem?_eq_getElem ha) (List.getElem?_eq_getElem (show m<(chgC R[a]).length from hm))⟩,r2.free⟩
    have HNew:Hid (∀w2,Below W.heap.size W w2→∀m y,(chgC x)[m]? = some y→w2.cell? ⟨wr.heap.size,m,none⟩=some y):=fun w2 h2 m y hy=>cellOf (heapOld h2 hz) (by simpa using hy)
    have cc:=fun(m:Nat) (y:Value) (hy:(chgC x)[m]? = some y)=>HR.out.cell hx hy
    obtain⟨⟨cn,ca,co,cb,cah,cs⟩,u⟩:=x
    cases hu
    have c0:=cc 0 _ rfl
    have c1:=cc 1 _ rfl
    have c2:=cc 2 _ rfl
    have c3:=cc 3 _ rfl
    have c4:=cc 4 _ rfl
    have c5:=cc 5 _ rfl
    simp only[Nat.add_zero] at c0
    have y0:=HNew.out W (Below.refl _ _) 0 _ rfl
    have y1:=HNew.out W (Below.refl _ _) 1 _ rfl
    have y2:=HNew.out W (Below.refl _ _) 2 _ rfl
    have y3:=HNew.out W (Below.refl _ _) 3 _ rfl
    have y4:=HNew.out W (Below.refl _ _) 4 _ rfl
    have y5:=HNew.out W (Below.refl _ _) 5 _ rfl
    unfold chgC at hW
    unfold chgV at hcall
    dsimp only at hcall hW
    have k1:(j:Int)<(n:Int):=by omega
    have k2:(a:Int)<(n:Int):=by omega
    clear cc hx hz hbW
    cases hs:sentB i ⟨cn,ca,co,cb,cah,cs⟩ with
    | true=>
      rw[hs] at hcall
      have HC:=zh hcall
      have HSk:=zh (fun w2 h2=>HSkip.out w2 h2 hs)
      clear hcall HSkip HKeep HPut hs
      go_wp2_with fail
      clear c0 c1 c2 c3 c4 c5 y0 y1 y2 y3 y4 y5 hW
      refine HC.out.mono ?_
      rintro e w2 ⟨rfl,hb2⟩
      have HR2:=zh (HSk.out w2 hb2)
      clear hb2
      go_wp2
      go_roundw
      case rel=>exact⟨a,j+1,by omega,by omega,rfl,by go_num,HR2⟩
      case measure=>simp[intOf]; omega
    | false=>
      rw[hs] at hcall
      have HC:=zh hcall
      have HKp:=zh (fun w2 h2=>HKeep.out w2 h2 hs)
      clear hcall HSkip HKeep hs
      go_wp2_with fail
      clear c0 c1 c2 c3 c4 c5 y0 y1 y2 y3 y4 y5 hW
      refine HC.out.mono ?_
      rintro e w2 ⟨rfl,hb2⟩
      have HR2:=zh (HKp.out w2 hb2)
      have y0:=HNew.out w2 hb2 0 _ rfl
      have y1:=HNew.out w2 hb2 1 _ rfl
      have y2:=HNew.out w2 hb2 2 _ rfl
      have y3:=HNew.out w2 hb2 3 _ rfl
      have y4:=HNew.out w2 hb2 4 _ rfl
      have y5:=HNew.out w2 hb2 5 _ rfl
      obtain⟨hp,hfz⟩:=HPut.out w2 hb2
      obtain⟨u0,p0⟩:=hp 0 (by decide)
      obtain⟨u1,p1⟩:=hp 1 (by decide)
      obtain⟨u2,p2⟩:=hp 2 (by decide)
      obtain⟨u3,p3⟩:=hp 3 (by decide)
      obtain⟨u4,p4⟩:=hp 4 (by decide)
      obtain⟨u5,p5⟩:=hp 5 (by decide)
      simp only[Nat.add_zero] at p0
      clear hb2 hp
      go_wp2
      go_roundw
      case rel=>exact⟨a+1,j+1,by omega,by omega,by go_num,by go_num,HR2⟩
      case measure=>simp[intOf]; omega
   ·obtain rfl:j=n:=by omega
    obtain⟨Z,hZ,hcl⟩:=HClr.out a wr HR.out 0 (cap-a)
    have HD2:=zh (HDone.out a wr Z HR.out hZ)
    have k1:¬((j:Int)<(j:Int)):=by omega
    clear HX HS HDone HClr hZ
    go_wp2
    refine bodyPost_ret (v:=.slice (some ⟨g,0,none⟩) a cap) (by simp[results,Tryz.results239,go_sem]) rfl ?_
    exact HD2.out
end
theorem sentB_isU (i:Int) (c:Chg):sentB i c=c.isU i:=by
 unfold sentB Sp.Chg.isU
 by_cases h1:c.at_=i <;> by_cases h2:c.state=2 <;> simp[h1,h2]
theorem DepsAt.deleted {w:World} {base B:Nat} {d:Sp.Deps} {D:Nat→Prop} (h:DepsAt w base B d D) (i:Int):∃(ad:Option Addr) (n cap:Nat) (ps:List (Chg×Value)),w.cell? ⟨B,0,none⟩=some (.slice ad n cap)∧OwnR 209 6 chgC base w (.slice ad n cap) ps∧(∀x∈ps,∃ad m c,x.2 = .slice ad m c) ∧
 ∀e w2,q188z i base (.slice ad n cap) ps w e w2→∃a2 n2 c2,e = .returned (.slice a2 n2 c2)∧(∃y,w2.cell? ⟨B,0,none⟩=some y)∧w2.frozen? ⟨B,0,none⟩=false∧DepsAt (w2.setCell ⟨B,0,none⟩ (.slice a2 n2 c2)) base B (d.done i) D∧q17z w D (w2.setCell ⟨B,0,none⟩ (.slice a2 n2 c2)):=by
 obtain⟨⟨v,ps,h1,h2,h3,h4,h5⟩,ho,hl⟩:=h
 obtain⟨ad,cap,hv⟩:=h3.form
 refine⟨ad,ps.length,cap,ps,by rw[←hv]; exact zc 0 h1,by rw[←hv]; exact h3,fun x hx=>?_,?_⟩
 ·obtain⟨a,c,e⟩:=(h5 x hx).1.form
  exact⟨a,_,c,e⟩
 rw[←hv]
 rintro e w2 ⟨v',rfl,r1,r2,K,k1,k2,hT⟩
 obtain⟨a2,c2,hv'⟩:=r1.form
 refine⟨a2,_,c2,by rw[hv'],?_⟩
 rw[←hv']
 have hBK:¬K B:=fun hk=>by
  obtain⟨cs,fr,hh⟩:=k2 B hk
  rw[h1] at hh
  unfold depsO at hh
  cases hh
 have h12:=hT.heap h1 hBK
 have hTs:Turn (fun j=>j=B) w2 (w2.setCell ⟨B,0,none⟩ v'):=q14z
 have hTT:Turn (fun j=>K j∨j=B) w (w2.setCell ⟨B,0,none⟩ v'):=hT.trans hTs (fun _ _ h=>Or.inl h) (fun _ _ h=>Or.inr h)
 have hv'B:∀k,v'.ownBlock=some k→k≠B:=fun k hk e=>by
  subst e
  have:=h4 k (r2 k hk)
  obtain⟨_,⟨rfl,_⟩ | ⟨g,cap,cur,rfl,hg,hh,_⟩⟩:=r1
  ·cases hk
  ·cases hk
   rw[h12] at hh
   unfold depsO at hh
   cases hh
 refine⟨⟨_,zc 0 h12⟩,q4z h12,⟨⟨v',leftP i ps,?_,?_,r1.turn hTs hv'B,fun k hk=>h4 k (r2 k hk),fun x hx=>?_⟩,ho,hl⟩,fun j=>K j∨j=B,fun j hj=>hj.elim (fun hk=>h4 j (k1 j hk)) (fun e=>e ▸ ho),fun j hj=>?_,hTT⟩
 ·have:=q13z (k:=0) h12 v'
  exact this
 ·show(leftP i ps).map Prod.fst=(d.done i).l
  unfold leftP Sp.Deps.done
  rw[←h2]
  show _=(ps.map Prod.fst).filter _
  rw[List.filter_map]
  congr 1
  apply List.filter_congr
  intro x _
  show(!sentB i x.1) = !(x.1.isU i)
  rw[sentB_isU]
 ·obtain⟨q1,q2⟩:=h5 x (List.mem_filter.1 hx).1
  refine⟨q1.turn hTT (fun k hk hK=>?_),q2⟩
  obtain⟨_,⟨e,_⟩ | ⟨g,cap,cur,e,hg,hh,_⟩⟩:=q1
  ·rw[e] at hk; cases hk
  ·rw[e] at hk
   cases hk
   rcases hK with hK | e
   ·obtain⟨cs,fr,hc⟩:=k2 _ hK
    rw[hc] at hh
    cases hh
   ·have e:g=B:=e
    rw[e,h1] at hh
    unfold depsO at hh
    cases hh
 ·rcases hj with hk | e
  ·obtain⟨cs,fr,hc⟩:=k2 j hk
   exact⟨cs,fr,_,hc,Or.inr rfl⟩
  ·have e:j=B:=e
   subst e
   exact⟨_,_,_,h1,Or.inl rfl⟩
section
theorem depsDone_any {w:World} {base B:Nat} {d:Sp.Deps} {D:Nat→Prop} (h:DepsAt w base B d D) (hD:∀j,D j→j<w.heap.size) (hf:d.l.length≤1024) (i:Int) (hu:d.under i) :
 Calls Tryz.prog 171 #[pt B,.int .i64 i] w fun e w'=>∃a n c,e = .returned (.tuple #[.slice a n c,.int .i64 0])∧DepsAt w' base B (d.done i) D∧q17z w D w':=by
 obtain⟨W0,hW0⟩:=zx (w.alloc (.cells #[.int .i64 i] 3))
 have hb0:Below w.heap.size w W0:=by rw[←hW0]; exact bl2 _
 have hz0:W0.heap[w.heap.size]? = some (.cells #[.int .i64 i] 3 (0,0)):=by rw[←hW0]; exact heapNew w _
 have h0:=h.below hb0
 have hof:=q118z h0 i 2 hf
 have hne:d.places i 2 d.l.length≠[]:=fun e=>places_under.1 e hu
 have hin:∀q∈d.places i 2 d.l.length,0≤q∧q<(d.l.length:Int):=fun q hq=>by
  rw[places_pl] at hq
  exact q167z hq
 have hll:(d.places i 2 d.l.length).length≤1024:=Nat.le_trans (places_len d i 2 _) hf
 have hnl:(q104z d (d.places i 2 d.l.length)).length=(d.places i 2 d.l.length).length:=by unfold q104z; rw[List.length_map]
 obtain⟨pl,hpl⟩:=zx (d.places i 2 d.l.length)
 rw[hpl] at hof hne hin hll hnl
 have hnum:=fun(W:World) (hW:Below W0.heap.size W0 W) (v:Value) (hv:Ints W v pl)=>depsNumbers_any (h0.below hW) v pl hv hin hll
 have c0:W0.cell? ⟨w.heap.size,0,none⟩=some (.int .i64 i):=zc 0 hz0
 have hdel:=fun(W:World) (hW:Below W0.heap.size W0 W)=>(h0.below hW).deleted i
 have hcd:=fun(W:World) (base:Nat) (v:Value) (ps:List (Chg×Value)) (hW:Below W0.heap.size W0 W) (hv:OwnR 209 6 chgC base W v ps) (hsl:∀x∈ps,∃ad m c,x.2 = .slice ad m c)=>chgDelete_any i hv hsl (heapOld hW hz0)
 have HBel:Hid (∀W w',Below W0.heap.size W0 W→q17z W D w'→q17z w D w'):=fun W w' hW h=>q17z.trans hD (q17z.of_below (blN hb0 hW)) h
 unfold pt at hof hnum ⊢
 have HNE:Hid (pl.length≠0):=fun e=>hne (List.eq_nil_of_length_eq_zero e)
 have HNL:=zh hnl
 have HD0:=zh h0
 have HOF:=zh hof
 have HNUM:=zh hnum
 have HDEL:=zh hdel
 have HCD:=zh hcd
 clear hof hnum hdel hcd
 clear h h0 hD hu hne hin hll hf hb0 hz0 hpl hnl
 go_enter Tryz.func171,Tryz.ntmps171
 go_wp2_with fail
 clear c0 hW0
 refine HOF.out.mono ?_
 rintro e w1 ⟨v,rfl,hv1,hb1⟩
 obtain⟨ad0,n0,cap0,rfl,h00,-,-⟩:=RowAt.facts (OwnR.row (f:=intC) (fun _ _=>rfl) hv1)
 have HB1:=zh hb1
 have HV1:Hid (Ints w1 (.slice ad0 n0 cap0) pl):=OwnR.row (f:=intC) (fun _ _=>rfl) hv1
 clear hb1 hv1 h00
 go_wp2_with fail
 refine(HNUM.out w1 HB1.out _ HV1.out).mono ?_
 rintro e w2 ⟨v,rfl,hv2,hb2⟩
 obtain⟨ad2,n2,cap2,rfl,h02,-,-⟩:=RowAt.facts (OwnR.row (f:=intC) (fun _ _=>rfl) hv2)
 have hn2:n2≠0:=fun e=>HNE.out (by have:=h02.out; have:=HNL.out; omega)
 have q1:((n2:Int) == 0)=false:=beq_eq_false_iff_ne.2 (by omega)
 have HB2:=zh (blN HB1.out hb2)
 clear hb2 hv2 h02 HV1 HNUM hn2
 obtain⟨ad,n,cap,ps,c0,hv,hsl,hfin⟩:=HDEL.out w2 HB2.out
 have hca:=HCD.out w2 _ _ ps HB2.out hv hsl
 have HFIN:=zh hfin
 have HCA:=zh hca
 clear hfin hca hv hsl HDEL HCD
 go_wp2_with fail
 clear c0
 refine HCA.out.mono ?_
 intro e w3 hp
 obtain⟨a3,n3,c3,rfl,⟨y,hy⟩,hfz,hd3,hT3⟩:=HFIN.out e w3 hp
 have HE:Hid (∃a n c,Ending.returned (.tuple #[.slice ad2 n2 cap2,.int .i64 0]) = .returned (.tuple #[.slice a n c,.int .i64 0])∧DepsAt (w3.setCell ⟨B,0,none⟩ (.slice a3 n3 c3)) base B (d.done i) D∧q17z w D (w3.setCell ⟨B,0,none⟩ (.slice a3 n3 c3))):=
  ⟨_,_,_,rfl,hd3,HBel.out w2 _ HB2.out hT3⟩
 clear hp hd3 hT3 HFIN HCA HBel
 go_wp2
 go_ret2
 exact HE.out
end
structure SideP (w:World) (base B Bc Bd fm:Nat) (S:Sp.Side) (D Dd:Nat→Prop):Prop where
 obj:w.heap[B]? = some (softO Bc Bd S.node S.epoch fm)
 deps:DepsAt w base Bc S.deps D
 fly:IM.MapAt intV w fm S.fly
 fmb:base≤fm
 fmD:D fm
 fmd:¬Dd fm
 disk:DiskAt w 0 Bd S.disk Dd
 sub:∀k,Dd k→D k
 own:D B
 low:base≤B
def q12z (w:World) (D:Nat→Prop) (w':World):Prop:=∃K,(∀j,K j→D j)∧Turn K w w'
theorem q12z.of_below {w w':World} {D:Nat→Prop} (h:Below w.heap.size w w'):q12z w D w':=⟨fun _=>False,fun _ h=>h.elim,Turn.of_below h⟩
theorem q12z.trans {a b c:World} {D:Nat→Prop} (h:q12z a D b) (k:q12z b D c):q12z a D c:=by
 obtain⟨K1,d1,t1⟩:=h
 obtain⟨K2,d2,t2⟩:=k
 exact⟨fun j=>K1 j∨K2 j,fun j hj=>hj.elim (d1 j) (d2 j),t1.trans t2 (fun _ _ h=>Or.inl h) (fun _ _ h=>Or.inr h)⟩
theorem q12z.size {w w':World} {D:Nat→Prop} (h:q12z w D w'):w.heap.size≤w'.heap.size:=by
 obtain⟨K,_,hT⟩:=h
 exact hT.size
theorem q17z.ownT {w w':World} {D:Nat→Prop} (h:q17z w D w'):q12z w D w':=by
 obtain⟨K,h1,_,h3⟩:=h
 exact⟨K,h1,h3⟩
theorem q20z.ownT {w w':World} {D Dd:Nat→Prop} (h:q20z w Dd w') (hs:∀k,Dd k→D k):q12z w D w':=by
 obtain⟨K,h1,_,h3⟩:=h
 exact⟨K,fun j hj=>hs j (h1 j hj),h3⟩
theorem DskK.not {w:World} {K:Nat→Prop} (h:DskK w K) {k:Nat} {cs:Array Value} {e:TypeId} {fr:Nat×Nat} (hk:w.heap[k]? = some (.cells cs e fr)) (h1:e≠198) (h2:e≠9):¬K k:=fun hK=>by
 rcases h k hK with ⟨cs',fr',e',h',he⟩ | ⟨es,cl,h'⟩
 ·rw[hk] at h'
  cases h'
  exact he.elim h1 h2
 ·rw[hk] at h'
  cases h'
section
variable {w w':World} {base B Bc Bd fm:Nat} {S:Sp.Side} {D Dd:Nat→Prop}
theorem SideAt.parts (h:SideAt w 0 B Bd S D):∃Bc fm Dd,SideP w 0 B Bc Bd fm S D Dd:=by
 obtain⟨⟨Bc,fm,Dd,h1,h2,h3,h4,h5,h9,h6,h6'⟩,h7,h8⟩:=h
 exact⟨Bc,fm,Dd,h1,h2,h3,h4,h5,h9,h6,fun k hk=>(h6' k hk).resolve_right (Nat.not_lt_zero k),h7,h8⟩
theorem SideP.side (h:SideP w base B Bc Bd fm S D Dd):SideAt w base B Bd S D:=
 ⟨⟨Bc,fm,Dd,h.obj,h.deps,h.fly,h.fmb,h.fmD,h.fmd,h.disk,fun k hk=>Or.inl (h.sub k hk)⟩,h.own,h.low⟩
theorem SideP.below (h:SideP w base B Bc Bd fm S D Dd) (hb:Below w.heap.size w w'):SideP w' base B Bc Bd fm S D Dd:=
 ⟨heapOld hb h.obj,h.deps.below hb,h.fly.old (hb.block _ h.fly.lt),h.fmb,h.fmD,h.fmd,h.disk.below hb,h.sub,h.own,h.low⟩
theorem SideP.chg (h:SideP w base B Bc Bd fm S D Dd) {d:Sp.Deps} (hd:DepsAt w' base Bc d D) (hT:q17z w D w'):SideP w' base B Bc Bd fm { S with deps:=d } D Dd:=by
 obtain⟨K,k1,k2,hT⟩:=hT
 have h1:=h.obj
 unfold softO at h1
 exact⟨hT.heap h.obj (k2.not h1 (by decide) (by decide)),hd,mapAt_turn hT h.fly (k2.notMap h.fly),h.fmb,h.fmD,h.fmd,h.disk.turnK hT k2,h.sub,h.own,h.low⟩
theorem DepsAt.turnD {d:Sp.Deps} {K:Nat→Prop} (h:DepsAt w base Bc d D) (hT:Turn K w w') (hK:DskK w K):DepsAt w' base Bc d D:=by
 obtain⟨⟨v,ps,h1,h2,h3,h4,h5⟩,ho,hl⟩:=h
 have hn:∀{e:TypeId} {sz b0:Nat} {α:Type} {f:α→List Value} {u:Value} {l:List α},e≠198→e≠9→OwnR e sz f b0 w u l→∀k,u.ownBlock=some k→¬K k:=by
  intro e sz b0 α f u l e1 e2 hu k hk
  obtain⟨_,⟨rfl,_⟩ | ⟨g,cap,cur,rfl,hg,hh,_⟩⟩:=hu
  ·cases hk
  ·cases hk
   exact hK.not hh e1 e2
 have h1':=h1
 unfold depsO at h1'
 exact⟨⟨v,ps,hT.heap h1 (hK.not h1' (by decide) (by decide)),h2,h3.turn hT (hn (by decide) (by decide) h3),h4,fun x hx=>⟨(h5 x hx).1.turn hT (hn (by decide) (by decide) (h5 x hx).1),(h5 x hx).2⟩⟩,ho,hl⟩
theorem SideP.dsk (h:SideP w base B Bc Bd fm S D Dd) {d:Sp.Disk} (hd:DiskAt w' 0 Bd d Dd) (hT:q20z w Dd w'):SideP w' base B Bc Bd fm { S with disk:=d } D Dd:=by
 obtain⟨K,k1,k2,hT⟩:=hT
 have h1:=h.obj
 unfold softO at h1
 exact⟨hT.heap h.obj (k2.not h1 (by decide) (by decide)),h.deps.turnD hT k2,mapAt_turn hT h.fly (fun hk=>h.fmd (k1 _ hk)),h.fmb,h.fmD,h.fmd,hd,h.sub,h.own,h.low⟩
theorem SideP.setFly (h:SideP w base B Bc Bd fm S D Dd) {o':Obj} {l:List (Int×Int)} (ho:IM.IsMap intV o' l):SideP (ChangeMaps.setBlock w fm o') base B Bc Bd fm { S with fly:=l } D Dd∧q12z w D (ChangeMaps.setBlock w fm o'):=by
 have hT:Turn (fun j=>j=fm) w (ChangeMaps.setBlock w fm o'):=q98z
 have hmap:∃es cl,w.heap[fm]? = some (.map es cl):=by
  obtain⟨o,h1,es,cl,rfl,_⟩:=h.fly
  exact⟨es,cl,h1⟩
 have hne:∀{k:Nat} {cs:Array Value} {e:TypeId} {fr:Nat×Nat},w.heap[k]? = some (.cells cs e fr)→k≠fm:=fun hk e=>by
  obtain⟨es,cl,hm⟩:=hmap
  rw[e,hm] at hk
  cases hk
 have hrow:∀{e:TypeId} {sz b0:Nat} {α:Type} {f:α→List Value} {u:Value} {l:List α},OwnR e sz f b0 w u l→∀k,u.ownBlock=some k→k≠fm:=by
  intro e sz b0 α f u l hu k hk
  obtain⟨_,⟨rfl,_⟩ | ⟨g,cap,cur,rfl,hg,hh,_⟩⟩:=hu
  ·cases hk
  ·cases hk
   exact hne hh
 have h1:=h.obj
 unfold softO at h1
 have hdeps:DepsAt (ChangeMaps.setBlock w fm o') base Bc S.deps D:=by
  obtain⟨⟨v,ps,h1,h2,h3,h4,h5⟩,ho,hl⟩:=h.deps
  have h1':=h1
  unfold depsO at h1'
  exact⟨⟨v,ps,hT.heap h1 (hne h1'),h2,h3.turn hT (hrow h3),h4,fun x hx=>⟨(h5 x hx).1.turn hT (hrow (h5 x hx).1),(h5 x hx).2⟩⟩,ho,hl⟩
 exact⟨⟨hT.heap h.obj (hne h1),hdeps,⟨o',IM.heap_setBlock_at h.fly.lt,ho⟩,h.fmb,h.fmD,h.fmd,h.disk.turn hT (fun k hk e=>h.fmd (by have e:k=fm:=e; exact e ▸ hk)),h.sub,h.own,h.low⟩,fun j=>j=fm,fun j e=>by have e:j=fm:=e; exact e ▸ h.fmD,hT⟩
theorem SideP.turn {K:Nat→Prop} (h:SideP w base B Bc Bd fm S D Dd) (hT:Turn K w w') (hk:∀k,D k→¬K k) (hKb:∀k,K k→base≤k):SideP w' base B Bc Bd fm S D Dd:=
 ⟨hT.heap h.obj (hk _ h.own),h.deps.turn hT hk hKb,mapAt_turn hT h.fly (hk _ h.fmD),h.fmb,h.fmD,h.fmd,h.disk.turn hT (fun k hk'=>hk k (h.sub k hk')),h.sub,h.own,h.low⟩
theorem turn_low {n:Nat} (hb:Below n w w'):Turn (fun k=>n≤k) w w':=⟨hb.os,hb.tape,hb.output,hb.size,fun k _ hk=>hb.block k (by omega)⟩
theorem SideP.lowB {n:Nat} (h:SideP w base B Bc Bd fm S D Dd) (hD:∀j,D j→j<n) (hb:Below n w w'):SideP w' base B Bc Bd fm S D Dd:=
 h.turn (turn_low hb) (fun k hk hn=>by have:=hD k hk; omega) (fun k hk=>by have:=hD _ h.own; have:=h.low; omega)
theorem q12z.lowB {w0:World} (h:q12z w0 D w) (hb:Below w0.heap.size w w'):q12z w0 D w':=by
 obtain⟨K,h1,hT⟩:=h
 exact⟨K,h1,⟨hb.os.trans hT.os,hb.tape.trans hT.tape,hb.output.trans hT.output,Nat.le_trans hT.size hb.size,fun k hk hn=>(hb.block k hk).trans (hT.block k hk hn)⟩⟩
theorem OwnR.ownT {α:Type} {e:TypeId} {sz b0:Nat} {f:α→List Value} {u:Value} {l:List α} (hu:OwnR e sz f b0 w u l) (hT:q12z w D w') (hD:∀j,D j→j<b0):OwnR e sz f b0 w' u l:=by
 obtain⟨K,h1,hT⟩:=hT
 exact hu.turn hT (fun k hk hK=>by have:=(hu.lt k hk).1; have:=hD k (h1 k hK); omega)
end
