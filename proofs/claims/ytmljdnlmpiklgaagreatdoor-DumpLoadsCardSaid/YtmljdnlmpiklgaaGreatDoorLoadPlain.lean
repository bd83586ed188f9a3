import Derived.Test.YtmljdnlmpiklgaaGreatDoorLoadHex
set_option maxRecDepth 20000
namespace Go.Proofs.YtmljdnlmpiklgaaGreatDoor
open Go Go.RowKit Txt Sp
def q1z (o:Option ByteArray) (w:World) (e:Ending) (w':World):Prop:=
 ∃T,e = .returned (.tuple #[.string T,.bool o.isSome])∧(∀s,o=some s→T=s)∧Below w.heap.size w w'
theorem rd_no {o:Option ByteArray} {w w':World} (h:o=none) (T:ByteArray) (hb:Below w.heap.size w w'):q1z o w (.returned (.tuple #[.string T,.bool false])) w':=by
 subst h
 exact⟨_,rfl,fun _ h=>absurd h (by simp),hb⟩
theorem q37z {o:Option ByteArray} {s:ByteArray} {w w':World} (h:o=some s) (hb:Below w.heap.size w w'):q1z o w (.returned (.tuple #[.string s,.bool true])) w':=by
 subst h
 exact⟨_,rfl,fun _ h=>Option.some.inj h,hb⟩
theorem Ints.open {w:World} {v:Value} {l:List Int} (h:Ints w v l) (hl:0<l.length):∃b o cap,v = .slice (some ⟨b,o,none⟩) l.length cap∧b<w.heap.size∧∀j n,l[j]? = some n→w.cell? ⟨b,o+j,none⟩=some (.int .i64 n):=by
 obtain⟨ad,n,cap,rfl,HN,hn2,HF⟩:=RowAt.facts (f:=fun n:Int=>[Value.int .i64 n]) h
 have hn:n=l.length:=HN.out
 obtain⟨b,o,x,rfl,hb,hx,hc⟩:=HF.out 0 (by omega)
 refine⟨b,o,cap,by rw[hn],hb,fun j m hj=>?_⟩
 have hjn:j<n:=by rw[hn]; exact(List.getElem?_eq_some_iff.1 hj).1
 obtain⟨b2,o2,x2,he,hb2,hx2,hc2⟩:=HF.out j hjn
 cases he
 rw[hj] at hx2
 cases hx2
 have:=hc2 0 _ rfl
 rw[Nat.mul_one,Nat.add_zero] at this
 exact this
def q16z (many:Int) (ws:List (List UInt8)):Option (List Nat):=match numsP ws with
 | some l=>if many<0∨(l.length:Int)=many then some l else none
 | none=>none
def q35z (o:Option (List Nat)) (w:World) (e:Ending) (w':World):Prop:=
 ∃v,e = .returned (.tuple #[v,.bool o.isSome])∧(∀l,o=some l→OwnN w.heap.size w' v l)∧Below w.heap.size w w'
theorem cn_no {o:Option (List Nat)} {w w':World} (h:o=none) (v:Value) (hb:Below w.heap.size w w'):q35z o w (.returned (.tuple #[v,.bool false])) w':=by
 subst h
 exact⟨_,rfl,fun _ h=>absurd h (by simp),hb⟩
theorem cn_yes {o:Option (List Nat)} {l:List Nat} {v:Value} {w w':World} (h:o=some l) (hv:OwnN w.heap.size w' v l) (hb:Below w.heap.size w w'):q35z o w (.returned (.tuple #[v,.bool true])) w':=by
 subst h
 exact⟨_,rfl,fun _ h=>by cases h; exact hv,hb⟩
section
set_option maxHeartbeats 8000000
theorem dcounted_any (w:World) (v:Value) (many:Int) (ws:List (List UInt8)) (hv:Texts w v (ws.map ofL)) (hs:∀x∈ws,x.length≤4000000000) (hl:ws.length≤4000000):Calls Tryz.prog 88 #[v,.int .i64 many] w (q35z (q16z many ws) w):=by
 have hr:=dreads_any w v ws hv hs hl
 obtain⟨ad,vn,cap,rfl,_,_,_⟩:=texts_facts hv
 have hno:=fun(h:q16z many ws=none) (v:Value) (w':World) (hb:Below w.heap.size w w')=>cn_no h v hb
 have hyes:=fun(l:List Nat) (h:q16z many ws=some l) (w':World) (v:Value) (hv:OwnN w.heap.size w' v l) (hb:Below w.heap.size w w')=>cn_yes h hv hb
 obtain⟨Q,hQ⟩:=zx (q35z (q16z many ws) w)
 rw[hQ] at hno hyes ⊢
 clear hQ hv hs hl
 unfold q24z at hr
 unfold q16z at hno hyes
 cases hn:numsP ws with
 | none=>
   rw[hn] at hr hno
   have HNo:=zh (hno rfl)
   have HR:=zh hr
   clear hr
   clear hno hyes hn
   go_enter Tryz.func88,Tryz.ntmps88
   go_wp2_with fail
   refine HR.out.mono ?_
   rintro e w1 ⟨v,rfl,hv,hb1⟩
   have HB1:=zh hb1
   obtain⟨oad,ocap,rfl⟩:=hv.form
   clear hv hb1
   go_wp2
   first | exact HNo.out _ _ HB1.out | (go_ret2; exact HNo.out _ _ HB1.out)
 | some l=>
   rw[hn] at hr hno hyes
   by_cases hm:many<0
   ·have f1:decide (many<0)=true:=decide_eq_true hm
    have HY:=zh (hyes l (by show(if _ then _ else _)=_; rw[if_pos (Or.inl hm)]))
    have HR:=zh hr
    clear hr
    clear hno hyes hn
    go_enter Tryz.func88,Tryz.ntmps88
    go_wp2_with fail
    refine HR.out.mono ?_
    rintro e w1 ⟨v,rfl,hv,hb1⟩
    have HX:=zh (HY.out _ _ hv hb1)
    obtain⟨oad,ocap,rfl⟩:=hv.form
    clear hv hb1
    go_wp2
    first | exact HX.out | (go_ret2; exact HX.out)
   ·have f1:decide (many<0)=false:=decide_eq_false hm
    by_cases hlm:(l.length:Int)=many
    ·have f2:((l.length:Int) == many)=true:=beq_iff_eq.2 hlm
     have HY:=zh (hyes l (by show(if _ then _ else _)=_; rw[if_pos (Or.inr hlm)]))
     have HR:=zh hr
     clear hr
     clear hno hyes hn
     go_enter Tryz.func88,Tryz.ntmps88
     go_wp2_with fail
     refine HR.out.mono ?_
     rintro e w1 ⟨v,rfl,hv,hb1⟩
     have HX:=zh (HY.out _ _ hv hb1)
     obtain⟨oad,ocap,rfl⟩:=hv.form
     obtain⟨ll,hll⟩:=zx (l.length)
     have hv2:((Option.getD (some l) []).length)=ll:=hll
     rw[hv2] at HX ⊢
     rw[hll] at f2
     clear hv hb1 hll hv2 hlm
     go_wp2
     first | exact HX.out | (go_ret2; exact HX.out)
    ·have f2:((l.length:Int) == many)=false:=beq_eq_false_iff_ne.2 hlm
     have HNo:=zh (hno (by show(if _ then _ else _)=_; rw[if_neg (fun h=>h.elim hm hlm)]))
     have HR:=zh hr
     clear hr
     clear hno hyes hn
     go_enter Tryz.func88,Tryz.ntmps88
     go_wp2_with fail
     refine HR.out.mono ?_
     rintro e w1 ⟨v,rfl,hv,hb1⟩
     have HB1:=zh hb1
     obtain⟨oad,ocap,rfl⟩:=hv.form
     obtain⟨ll,hll⟩:=zx (l.length)
     have hv2:((Option.getD (some l) []).length)=ll:=hll
     rw[hv2]
     rw[hll] at f2
     clear hv hb1 hll hv2 hlm
     go_wp2
     first | exact HNo.out _ _ HB1.out | (go_ret2; exact HNo.out _ _ HB1.out)
theorem smay_no (w:World) (n:Nat) (h:¬n<4294967296):Calls Tryz.prog 68 #[.int .i64 (n:Int)] w fun e w'=>e = .returned (.bool false)∧w' = w:=by
 have f1:decide ((n:Int)≥0)=true:=decide_eq_true (by omega)
 have f1':decide (0≤(n:Int))=true:=decide_eq_true (by omega)
 have f2:decide ((n:Int)≤4294967295)=false:=decide_eq_false (by omega)
 clear h
 go_enter Tryz.func68,Tryz.ntmps68
 go_wp2
 go_ret
 exact⟨rfl,rfl⟩
def q61z (a b:Nat):ByteArray:=if a<4294967296∧b<4294967296 then wallB a b else⟨#[]⟩
def q62z (a b:Nat):Int:=if a<4294967296∧b<4294967296 then 0 else 1
theorem sfence_all (w:World) (a b:Nat):Calls Tryz.prog 33 #[.agg #[.int .i64 (a:Int),.int .i64 (b:Int)]] w fun e w'=>e = .returned (.tuple #[.string (q61z a b),.int .i64 (q62z a b)])∧Below w.heap.size w w':=by
 by_cases hab:a<4294967296∧b<4294967296
 ·unfold q61z q62z
  rw[if_pos hab,if_pos hab]
  exact sfence_any w a b hab.1 hab.2
 unfold q61z q62z
 rw[if_neg hab,if_neg hab]
 obtain⟨W0,hW0⟩:=zx (w.alloc (.cells #[.int .i64 (a:Int),.int .i64 (b:Int)] 35))
 have HB0:Hid (Below w.heap.size w W0):=by rw[←hW0]; exact bl2 _
 have hz:W0.heap[w.heap.size]? = some (.cells #[.int .i64 (a:Int),.int .i64 (b:Int)] 35 (0,0)):=by rw[←hW0]; exact heapNew w _
 have c0:W0.cell? ⟨w.heap.size,0,none⟩=some (.int .i64 (a:Int)):=cellOf hz rfl
 have c1:W0.cell? ⟨w.heap.size,1,none⟩=some (.int .i64 (b:Int)):=cellOf hz rfl
 by_cases ha:a<4294967296
 ·have hm1:=fun W:World=>smay_any W a ha
  have hm2:=fun W:World=>smay_no W b (fun h=>hab ⟨ha,h⟩)
  have HM1:=zh hm1
  have HM2:=zh hm2
  clear hm1 hm2
  clear hab ha hz
  go_enter Tryz.func33,Tryz.ntmps33
  go_wp2_with fail
  refine(HM1.out _).mono ?_
  rintro e w1 ⟨rfl,hw1⟩
  subst hw1
  go_wp2_with fail
  refine(HM2.out _).mono ?_
  rintro e w2 ⟨rfl,hw2⟩
  subst hw2
  go_wp2
  go_ret2
  exact⟨rfl,HB0.out⟩
 ·have hm1:=fun W:World=>smay_no W a ha
  have HM1:=zh hm1
  clear hm1
  clear hab ha hz
  go_enter Tryz.func33,Tryz.ntmps33
  go_wp2_with fail
  refine(HM1.out _).mono ?_
  rintro e w1 ⟨rfl,hw1⟩
  subst hw1
  go_wp2
  go_ret2
  exact⟨rfl,HB0.out⟩
def q30z (ws:List (List UInt8)):Option ByteArray:=match numsP ws with
 | some [a,b,c]=>if Geom.ok ⟨a,b,c⟩ then some (superB ⟨a,b,c⟩) else none
 | _=>none
theorem superP_no {ws:List (List UInt8)} (h:q16z 3 ws=none):q30z ws=none:=by
 unfold q16z at h
 unfold q30z
 cases hn:numsP ws with
 | none=>rfl
 | some l=>
   rw[hn] at h
   match l,h with
   | [],_=>rfl
   | [_],_=>rfl
   | [_,_],_=>rfl
   | [_,_,_],h=>exact absurd h (by simp)
   | _ :: _ :: _ :: _ :: _,_=>rfl
theorem superP_yes {ws:List (List UInt8)} {l:List Nat} (h:q16z 3 ws=some l):∃a b c,l=[a,b,c]∧q30z ws=if Geom.ok ⟨a,b,c⟩ then some (superB ⟨a,b,c⟩) else none:=by
 unfold q16z at h
 unfold q30z
 cases hn:numsP ws with
 | none=>rw[hn] at h; cases h
 | some m=>
   rw[hn] at h
   dsimp only at h
   split at h
   ·rename_i hc
    cases h
    match l,hc with
    | [a,b,c],_=>exact⟨a,b,c,rfl,rfl⟩
    | [],hc=>simp at hc
    | [_],hc=>simp at hc
    | [_,_],hc=>simp at hc
    | _ :: _ :: _ :: _ :: _,hc=>simp at hc; omega
   ·cases h
def q31z (ws:List (List UInt8)):Option ByteArray:=match numsP ws with
 | some [a,b]=>if a<4294967296∧b<4294967296 then some (wallB a b) else none
 | _=>none
theorem fenceP_no {ws:List (List UInt8)} (h:q16z 2 ws=none):q31z ws=none:=by
 unfold q16z at h
 unfold q31z
 cases hn:numsP ws with
 | none=>rfl
 | some l=>
   rw[hn] at h
   match l,h with
   | [],_=>rfl
   | [_],_=>rfl
   | [_,_],h=>exact absurd h (by simp)
   | _ :: _ :: _ :: _,_=>rfl
theorem fenceP_yes {ws:List (List UInt8)} {l:List Nat} (h:q16z 2 ws=some l):∃a b,l=[a,b]∧q31z ws=if a<4294967296∧b<4294967296 then some (wallB a b) else none:=by
 unfold q16z at h
 unfold q31z
 cases hn:numsP ws with
 | none=>rw[hn] at h; cases h
 | some m=>
   rw[hn] at h
   dsimp only at h
   split at h
   ·rename_i hc
    cases h
    match l,hc with
    | [a,b],_=>exact⟨a,b,rfl,rfl⟩
    | [],hc=>simp at hc
    | [_],hc=>simp at hc
    | _ :: _ :: _ :: _,hc=>simp at hc; omega
   ·cases h
def mapP (n:Int) (ws:List (List UInt8)):Option ByteArray:=match numsP ws with
 | some l=>mapS n l
 | none=>none
theorem mapP_no {n:Int} {ws:List (List UInt8)} (h:q16z (-1) ws=none):mapP n ws=none:=by
 unfold q16z at h
 unfold mapP
 cases hn:numsP ws with
 | none=>rfl
 | some l=>
   rw[hn] at h
   exact absurd h (by simp)
theorem mapP_yes {n:Int} {ws:List (List UInt8)} {l:List Nat} (h:q16z (-1) ws=some l):mapP n ws=mapS n l:=by
 unfold q16z at h
 unfold mapP
 cases hn:numsP ws with
 | none=>rw[hn] at h; cases h
 | some m=>
   rw[hn] at h
   dsimp only at h
   rw[if_pos (Or.inl (by decide))] at h
   cases h
   rfl
theorem fold_get:∀(l:List Nat) (z:List UInt8) (i:Nat),i<z.length→((l.map Int.ofNat).foldl (fun z p=>z.set p.toNat 1) z)[i]? = if i∈l then some 1 else z[i]?
 | [],z,i,h=>by simp
 | p :: r,z,i,h=>by
   rw[List.map_cons,List.foldl_cons,fold_get r _ i (by rw[List.length_set]; exact h)]
   have e:(Int.ofNat p).toNat=p:=rfl
   rw[e]
   by_cases hr:i∈r
   ·rw[if_pos hr,if_pos (List.mem_cons_of_mem _ hr)]
   ·rw[if_neg hr]
    by_cases hp:p=i
    ·subst hp
     rw[if_pos (List.mem_cons_self ..),List.getElem?_set_self h]
    ·rw[if_neg (fun h2=>by rcases List.mem_cons.1 h2 with h2 | h2; exact hp h2.symm; exact hr h2),List.getElem?_set_ne hp]
theorem ofL1_map (l:List Nat):ofL1 (l.map Int.ofNat)=mapB l:=by
 apply List.ext_getElem?
 intro i
 by_cases hi:i<64
 ·unfold ofL1
  rw[fold_get l (zeros 64) i (by rw[zeros_length]; exact hi)]
  unfold mapB
  rw[List.getElem?_map,List.getElem?_range hi,Option.map_some,show(zeros 64)[i]? = some 0 from by unfold zeros; rw[List.getElem?_replicate,if_pos hi]]
  by_cases h:i∈l
  ·rw[if_pos h,if_pos (by simpa using h)]
  ·rw[if_neg h,if_neg (by simpa using h)]
 ·rw[List.getElem?_eq_none (by rw[ofL1_length]; omega),List.getElem?_eq_none (by unfold mapB; simp; omega)]
theorem dplain_super (w:World) (g:Sp.Geom) (v:Value) (ws:List (List UInt8)) (hv:Texts w v (ws.map ofL)) (hs:∀x∈ws,x.length≤4000000000) (hl:ws.length≤4000000) :
 Calls Tryz.prog 45 #[gV g,.string ⟨#[115,117,112,101,114]⟩,v] w (q1z (q30z ws) w):=by
 have hc:=fun(W:World) (hW:Below w.heap.size w W)=>dcounted_any W v 3 ws (hv.below hW) hs hl
 obtain⟨ad,vn,cap,rfl,_,_,_⟩:=texts_facts hv
 have hno:=fun(h:q30z ws=none) (T:ByteArray) (w':World) (hb:Below w.heap.size w w')=>rd_no h T hb
 have hyes:=fun(s:ByteArray) (h:q30z ws=some s) (w':World) (hb:Below w.heap.size w w')=>q37z h hb
 obtain⟨Q,hQ⟩:=zx (q1z (q30z ws) w)
 rw[hQ] at hno hyes ⊢
 clear hQ hv hs hl
 unfold q35z at hc
 cases hn:q16z 3 ws with
 | none=>
   have HNo:=zh (hno (superP_no hn))
   rw[hn] at hc
   obtain⟨ga,gb,gc⟩:=g
   unfold gV
   have HC:=zh hc
   clear hc
   clear hno hyes hn
   obtain⟨W0,hW0⟩:=zg w ga gb gc
   have hk:=g_keep hW0
   have HB0:=zh hk.1
   have HK:=zh hk.2
   clear hk
   go_enter Tryz.func45,Tryz.ntmps45
   go_wp2_with fail
   refine(HC.out _ HB0.out).mono ?_
   rintro e w1 ⟨v,rfl,hv,hb1⟩
   have HB1:=zh (blN HB0.out hb1)
   clear hv hb1
   go_wp2
   first | exact HNo.out _ _ HB1.out | (go_ret2; exact HNo.out _ _ HB1.out)
 | some l=>
   obtain⟨a,b,c,rfl,hP⟩:=superP_yes hn
   rw[hn] at hc
   rw[hP] at hno hyes
   have hse:=fun W:World=>sencode_any W ⟨(a:Int),(b:Int),(c:Int)⟩
   unfold gV at hse
   dsimp only at hse
   have hE:∃T C,(if Geom.ok ⟨(a:Int),(b:Int),(c:Int)⟩ then superB ⟨(a:Int),(b:Int),(c:Int)⟩ else ofL [])=T∧Geom.check ⟨(a:Int),(b:Int),(c:Int)⟩=C∧Hid (∀w',Below w.heap.size w w'→Q (.returned (.tuple #[.string T,.bool (C == 0)])) w'):=by
    refine⟨_,_,rfl,rfl,fun w' hb=>?_⟩
    by_cases hok:Geom.ok ⟨(a:Int),(b:Int),(c:Int)⟩
    ·rw[Geom.check_ok hok,if_pos hok]
     exact hyes _ (if_pos hok) w' hb
    ·rw[Geom.check_no hok,if_neg hok]
     exact hno (if_neg hok) _ w' hb
   obtain⟨T,C,hT,hC,HF⟩:=hE
   simp only[hT,hC] at hse
   obtain⟨x,hx⟩:∃x:Int,(a:Int)=x:=⟨_,rfl⟩
   obtain⟨y,hy⟩:∃x:Int,(b:Int)=x:=⟨_,rfl⟩
   obtain⟨z,hz⟩:∃x:Int,(c:Int)=x:=⟨_,rfl⟩
   rw[hx,hy,hz] at hse
   have HX:=zh hx
   have HY:=zh hy
   have HZ:=zh hz
   obtain⟨ga,gb,gc⟩:=g
   unfold gV
   have HC:=zh hc
   have HSE:=zh hse
   clear hc hse
   clear hno hyes hn hP hT hC hx hy hz
   obtain⟨W0,hW0⟩:=zg w ga gb gc
   have hk:=g_keep hW0
   have HB0:=zh hk.1
   have HK:=zh hk.2
   clear hk
   go_enter Tryz.func45,Tryz.ntmps45
   go_wp2_with fail
   refine(HC.out _ HB0.out).mono ?_
   rintro e w1 ⟨v,rfl,hv,hb1⟩
   have HB1:=zh (blN HB0.out hb1)
   obtain⟨bk,o,cap,rfl,hbk,hcl⟩:=(hv _ rfl).ints.open (by simp)
   have HCL:Hid (∀W,Below w1.heap.size w1 W→W.cell? ⟨bk,o,none⟩=some (.int .i64 x)∧W.cell? ⟨bk,o+1,none⟩=some (.int .i64 y)∧W.cell? ⟨bk,o+2,none⟩=some (.int .i64 z)):=fun W hW=>by
    refine⟨?_,?_,?_⟩
    ·rw[←HX.out]; exact(hW.cell (p:=⟨bk,o,none⟩) hbk).trans (hcl 0 _ rfl)
    ·rw[←HY.out]; exact(hW.cell (p:=⟨bk,o+1,none⟩) hbk).trans (hcl 1 _ rfl)
    ·rw[←HZ.out]; exact(hW.cell (p:=⟨bk,o+2,none⟩) hbk).trans (hcl 2 _ rfl)
   clear hv hb1 hcl hbk
   go_wp2_with fail
   go_region_held3 (fun W=>W.cell? ⟨bk,o,none⟩=some (.int .i64 x)∧W.cell? ⟨bk,o+1,none⟩=some (.int .i64 y)∧W.cell? ⟨bk,o+2,none⟩=some (.int .i64 z))
    ((refine HCL.out _ ?_; repeat' first | with_reducible exact Below.refl _ _ | with_reducible exact HB2.out | with_reducible refine blD ?_ | with_reducible refine bl1 ?_ _))
    (first
      | (go_at_call 32
         refine(HSE.out _).mono ?_
         rintro e w2 ⟨rfl,hb2⟩
         have HB2:Hid (Below w1.heap.size w1 w2):=blN (by repeat' first | with_reducible exact Below.refl _ _ | with_reducible refine blD ?_ | with_reducible refine bl1 ?_ _) hb2
         clear hb2
         simp only))
   all_goals
    have HB3:Hid (Below w.heap.size w w2):=blN HB1.out HB2.out
    go_wp2
    first | exact HF.out _ HB3.out | (go_ret2; exact HF.out _ HB3.out)
theorem dplain_fence (w:World) (g:Sp.Geom) (v:Value) (ws:List (List UInt8)) (hv:Texts w v (ws.map ofL)) (hs:∀x∈ws,x.length≤4000000000) (hl:ws.length≤4000000) :
 Calls Tryz.prog 45 #[gV g,.string ⟨#[102,101,110,99,101]⟩,v] w (q1z (q31z ws) w):=by
 have hc:=fun(W:World) (hW:Below w.heap.size w W)=>dcounted_any W v 2 ws (hv.below hW) hs hl
 obtain⟨ad,vn,cap,rfl,_,_,_⟩:=texts_facts hv
 have hno:=fun(h:q31z ws=none) (T:ByteArray) (w':World) (hb:Below w.heap.size w w')=>rd_no h T hb
 have hyes:=fun(s:ByteArray) (h:q31z ws=some s) (w':World) (hb:Below w.heap.size w w')=>q37z h hb
 obtain⟨Q,hQ⟩:=zx (q1z (q31z ws) w)
 rw[hQ] at hno hyes ⊢
 clear hQ hv hs hl
 unfold q35z at hc
 cases hn:q16z 2 ws with
 | none=>
   have HNo:=zh (hno (fenceP_no hn))
   rw[hn] at hc
   obtain⟨ga,gb,gc⟩:=g
   unfold gV
   have HC:=zh hc
   clear hc
   clear hno hyes hn
   obtain⟨W0,hW0⟩:=zg w ga gb gc
   have hk:=g_keep hW0
   have HB0:=zh hk.1
   have HK:=zh hk.2
   clear hk
   go_enter Tryz.func45,Tryz.ntmps45
   go_wp2_with fail
   refine(HC.out _ HB0.out).mono ?_
   rintro e w1 ⟨v,rfl,hv,hb1⟩
   have HB1:=zh (blN HB0.out hb1)
   clear hv hb1
   go_wp2
   first | exact HNo.out _ _ HB1.out | (go_ret2; exact HNo.out _ _ HB1.out)
 | some l=>
   obtain⟨a,b,rfl,hP⟩:=fenceP_yes hn
   rw[hn] at hc
   rw[hP] at hno hyes
   have hse:=fun W:World=>sfence_all W a b
   have hE:∃T C,q61z a b=T∧q62z a b=C∧Hid (∀w',Below w.heap.size w w'→Q (.returned (.tuple #[.string T,.bool (C == 0)])) w'):=by
    refine⟨_,_,rfl,rfl,fun w' hb=>?_⟩
    unfold q61z q62z
    by_cases hok:a<4294967296∧b<4294967296
    ·rw[if_pos hok,if_pos hok]
     exact hyes _ (if_pos hok) w' hb
    ·rw[if_neg hok,if_neg hok]
     exact hno (if_neg hok) _ w' hb
   obtain⟨T,C,hT,hC,HF⟩:=hE
   simp only[hT,hC] at hse
   obtain⟨x,hx⟩:∃x:Int,(a:Int)=x:=⟨_,rfl⟩
   obtain⟨y,hy⟩:∃x:Int,(b:Int)=x:=⟨_,rfl⟩
   rw[hx,hy] at hse
   have HX:=zh hx
   have HY:=zh hy
   obtain⟨ga,gb,gc⟩:=g
   unfold gV
   have HC:=zh hc
   have HSE:=zh hse
   clear hc hse
   clear hno hyes hn hP hT hC hx hy
   obtain⟨W0,hW0⟩:=zg w ga gb gc
   have hk:=g_keep hW0
   have HB0:=zh hk.1
   have HK:=zh hk.2
   clear hk
   go_enter Tryz.func45,Tryz.ntmps45
   go_wp2_with fail
   refine(HC.out _ HB0.out).mono ?_
   rintro e w1 ⟨v,rfl,hv,hb1⟩
   have HB1:=zh (blN HB0.out hb1)
   obtain⟨bk,o,cap,rfl,hbk,hcl⟩:=(hv _ rfl).ints.open (by simp)
   have HCL:Hid (∀W,Below w1.heap.size w1 W→W.cell? ⟨bk,o,none⟩=some (.int .i64 x)∧W.cell? ⟨bk,o+1,none⟩=some (.int .i64 y)):=fun W hW=>by
    refine⟨?_,?_⟩
    ·rw[←HX.out]; exact(hW.cell (p:=⟨bk,o,none⟩) hbk).trans (hcl 0 _ rfl)
    ·rw[←HY.out]; exact(hW.cell (p:=⟨bk,o+1,none⟩) hbk).trans (hcl 1 _ rfl)
   clear hv hb1 hcl hbk
   go_wp2_with fail
   go_region_held3 (fun W=>W.cell? ⟨bk,o,none⟩=some (.int .i64 x)∧W.cell? ⟨bk,o+1,none⟩=some (.int .i64 y))
    ((refine HCL.out _ ?_; repeat' first | with_reducible exact Below.refl _ _ | with_reducible exact HB2.out | with_reducible refine blD ?_ | with_reducible refine bl1 ?_ _))
    (first
      | (go_at_call 33
         refine(HSE.out _).mono ?_
         rintro e w2 ⟨rfl,hb2⟩
         have HB2:Hid (Below w1.heap.size w1 w2):=blN (by repeat' first | with_reducible exact Below.refl _ _ | with_reducible refine blD ?_ | with_reducible refine bl1 ?_ _) hb2
         clear hb2
         simp only))
   all_goals
    have HB3:Hid (Below w.heap.size w w2):=blN HB1.out HB2.out
    go_wp2
    first | exact HF.out _ HB3.out | (go_ret2; exact HF.out _ HB3.out)
theorem dplain_inodes (w:World) (g:Sp.Geom) (v:Value) (ws:List (List UInt8)) (hv:Texts w v (ws.map ofL)) (hs:∀x∈ws,x.length≤4000000000) (hl:ws.length≤4000000) :
 Calls Tryz.prog 45 #[gV g,.string ⟨#[105,110,111,100,101,115]⟩,v] w (q1z (mapP g.inodes ws) w):=by
 have hc:=fun(W:World) (hW:Below w.heap.size w W)=>dcounted_any W v (-1) ws (hv.below hW) hs hl
 obtain⟨ad,vn,cap,rfl,_,_,_⟩:=texts_facts hv
 have hno:=fun(h:mapP g.inodes ws=none) (T:ByteArray) (w':World) (hb:Below w.heap.size w w')=>rd_no h T hb
 have hyes:=fun(s:ByteArray) (h:mapP g.inodes ws=some s) (w':World) (hb:Below w.heap.size w w')=>q37z h hb
 obtain⟨Q,hQ⟩:=zx (q1z (mapP g.inodes ws) w)
 rw[hQ] at hno hyes ⊢
 clear hQ hv hs hl
 unfold q35z at hc
 cases hn:q16z (-1) ws with
 | none=>
   have HNo:=zh (hno (mapP_no hn))
   rw[hn] at hc
   obtain⟨ga,gb,gc⟩:=g
   unfold gV
   have HC:=zh hc
   clear hc
   clear hno hyes hn
   obtain⟨W0,hW0⟩:=zg w ga gb gc
   have hk:=g_keep hW0
   have HB0:=zh hk.1
   have HK:=zh hk.2
   clear hk
   go_enter Tryz.func45,Tryz.ntmps45
   go_wp2_with fail
   refine(HC.out _ HB0.out).mono ?_
   rintro e w1 ⟨v,rfl,hv,hb1⟩
   have HB1:=zh (blN HB0.out hb1)
   clear hv hb1
   go_wp2
   first | exact HNo.out _ _ HB1.out | (go_ret2; exact HNo.out _ _ HB1.out)
 | some l=>
   have hP:=mapP_yes (n:=g.inodes) hn
   rw[hn] at hc
   rw[hP] at hno hyes
   have hse:=fun(W:World) (v:Value) (hv:Ints W v (l.map Int.ofNat))=>mof_any W g.inodes v (l.map Int.ofNat) hv
   unfold OfPost at hse
   rw[ofL1_map] at hse
   have hE:∃T C,(if ofC g.inodes (l.map Int.ofNat)=0 then ofL (mapB l) else⟨#[]⟩)=T∧ofC g.inodes (l.map Int.ofNat)=C∧Hid (∀w',Below w.heap.size w w'→Q (.returned (.tuple #[.string T,.bool (C == 0)])) w'):=by
    refine⟨_,_,rfl,rfl,fun w' hb=>?_⟩
    by_cases hok:ofC g.inodes (l.map Int.ofNat)=0
    ·rw[hok,if_pos rfl]
     exact hyes _ (if_pos hok) w' hb
    ·rw[if_neg hok]
     have:(ofC g.inodes (l.map Int.ofNat) == 0)=false:=beq_eq_false_iff_ne.2 hok
     rw[this]
     exact hno (if_neg hok) _ w' hb
   obtain⟨T,C,hT,hC,HF⟩:=hE
   simp only[hT] at hse
   simp only[hC] at hse
   obtain⟨ga,gb,gc⟩:=g
   unfold gV
   have HC:=zh hc
   have HSE:=zh hse
   clear hc hse
   clear hno hyes hn hP hT hC
   obtain⟨W0,hW0⟩:=zg w ga gb gc
   have hk:=g_keep hW0
   have HB0:=zh hk.1
   have HK:=zh hk.2
   clear hk
   obtain⟨z0,z1,z2⟩:=HK.out W0 (Below.refl _ _)
   go_enter Tryz.func45,Tryz.ntmps45
   go_wp2_with fail
   refine(HC.out _ HB0.out).mono ?_
   rintro e w1 ⟨v,rfl,hv,hb1⟩
   have HB1:=zh hb1
   clear z0 z1 z2
   obtain⟨z0,z1,z2⟩:=HK.out w1 HB1.out
   have HV:=zh ((hv _ rfl).ints)
   obtain⟨oad,ocap,rfl⟩:=(hv _ rfl).form
   clear hv hb1
   go_wp2_with fail
   refine(HSE.out _ _ HV.out).mono ?_
   rintro e w2 ⟨rfl,hb2⟩
   have HB2:Hid (Below w.heap.size w w2):=blN HB0.out (blN HB1.out hb2)
   clear hb2 z0 z1 z2
   go_wp2
   first | exact HF.out _ HB2.out | (go_ret2; exact HF.out _ HB2.out)
theorem dplain_blocks (w:World) (g:Sp.Geom) (v:Value) (ws:List (List UInt8)) (hv:Texts w v (ws.map ofL)) (hs:∀x∈ws,x.length≤4000000000) (hl:ws.length≤4000000) :
 Calls Tryz.prog 45 #[gV g,.string ⟨#[98,108,111,99,107,115]⟩,v] w (q1z (mapP g.blocks ws) w):=by
 have hc:=fun(W:World) (hW:Below w.heap.size w W)=>dcounted_any W v (-1) ws (hv.below hW) hs hl
 obtain⟨ad,vn,cap,rfl,_,_,_⟩:=texts_facts hv
 have hno:=fun(h:mapP g.blocks ws=none) (T:ByteArray) (w':World) (hb:Below w.heap.size w w')=>rd_no h T hb
 have hyes:=fun(s:ByteArray) (h:mapP g.blocks ws=some s) (w':World) (hb:Below w.heap.size w w')=>q37z h hb
 obtain⟨Q,hQ⟩:=zx (q1z (mapP g.blocks ws) w)
 rw[hQ] at hno hyes ⊢
 clear hQ hv hs hl
 unfold q35z at hc
 cases hn:q16z (-1) ws with
 | none=>
   have HNo:=zh (hno (mapP_no hn))
   rw[hn] at hc
   obtain⟨ga,gb,gc⟩:=g
   unfold gV
   have HC:=zh hc
   clear hc
   clear hno hyes hn
   obtain⟨W0,hW0⟩:=zg w ga gb gc
   have hk:=g_keep hW0
   have HB0:=zh hk.1
   have HK:=zh hk.2
   clear hk
   go_enter Tryz.func45,Tryz.ntmps45
   go_wp2_with fail
   refine(HC.out _ HB0.out).mono ?_
   rintro e w1 ⟨v,rfl,hv,hb1⟩
   have HB1:=zh (blN HB0.out hb1)
   clear hv hb1
   go_wp2
   first | exact HNo.out _ _ HB1.out | (go_ret2; exact HNo.out _ _ HB1.out)
 | some l=>
   have hP:=mapP_yes (n:=g.blocks) hn
   rw[hn] at hc
   rw[hP] at hno hyes
   have hse:=fun(W:World) (v:Value) (hv:Ints W v (l.map Int.ofNat))=>mof_any W g.blocks v (l.map Int.ofNat) hv
   unfold OfPost at hse
   rw[ofL1_map] at hse
   have hE:∃T C,(if ofC g.blocks (l.map Int.ofNat)=0 then ofL (mapB l) else⟨#[]⟩)=T∧ofC g.blocks (l.map Int.ofNat)=C∧Hid (∀w',Below w.heap.size w w'→Q (.returned (.tuple #[.string T,.bool (C == 0)])) w'):=by
    refine⟨_,_,rfl,rfl,fun w' hb=>?_⟩
    by_cases hok:ofC g.blocks (l.map Int.ofNat)=0
    ·rw[hok,if_pos rfl]
     exact hyes _ (if_pos hok) w' hb
    ·rw[if_neg hok]
     have:(ofC g.blocks (l.map Int.ofNat) == 0)=false:=beq_eq_false_iff_ne.2 hok
     rw[this]
     exact hno (if_neg hok) _ w' hb
   obtain⟨T,C,hT,hC,HF⟩:=hE
   simp only[hT] at hse
   simp only[hC] at hse
   obtain⟨ga,gb,gc⟩:=g
   unfold gV
   have HC:=zh hc
   have HSE:=zh hse
   clear hc hse
   clear hno hyes hn hP hT hC
   obtain⟨W0,hW0⟩:=zg w ga gb gc
   have hk:=g_keep hW0
   have HB0:=zh hk.1
   have HK:=zh hk.2
   clear hk
   obtain⟨z0,z1,z2⟩:=HK.out W0 (Below.refl _ _)
   go_enter Tryz.func45,Tryz.ntmps45
   go_wp2_with fail
   refine(HC.out _ HB0.out).mono ?_
   rintro e w1 ⟨v,rfl,hv,hb1⟩
   have HB1:=zh hb1
   clear z0 z1 z2
   obtain⟨z0,z1,z2⟩:=HK.out w1 HB1.out
   have HV:=zh ((hv _ rfl).ints)
   obtain⟨oad,ocap,rfl⟩:=(hv _ rfl).form
   clear hv hb1
   go_wp2_with fail
   refine(HSE.out _ _ HV.out).mono ?_
   rintro e w2 ⟨rfl,hb2⟩
   have HB2:Hid (Below w.heap.size w w2):=blN HB0.out (blN HB1.out hb2)
   clear hb2 z0 z1 z2
   go_wp2
   first | exact HF.out _ HB2.out | (go_ret2; exact HF.out _ HB2.out)
end
