import Derived.Test.YtgofmnhfajmbfaaGreatDoorTurnShape
namespace Go.Proofs.YtgofmnhfajmbfaaGreatDoor
open Go Go.RowKit Txt Sp
def nodeL (n:Sp.Inode):List UInt8:=q54z ++ kindL n.kind ++ listL [n.links.toNat,n.parent.toNat,n.gen.toNat,n.size.toNat] ++ listL (n.direct.map Int.toNat) ++ listL [n.more.toNat]
def q139z (g:Sp.Geom) (s:ByteArray) (w:World) (e:Ending) (w':World):Prop:=
 e = .returned (.tuple #[.string (if g.ok∧q13z g s then ofL (nodeL (q6z s)) else⟨#[]⟩),.bool (decide (g.ok∧q13z g s))])∧Below w.heap.size w w'
theorem node_no {g:Sp.Geom} {s:ByteArray} {w w':World} (h:¬(g.ok∧q13z g s)) (hb:Below w.heap.size w w'):q139z g s w (.returned (.tuple #[.string ⟨#[]⟩,.bool false])) w':=by
 refine⟨?_,hb⟩
 rw[if_neg h,decide_eq_false h]
theorem node_yes {g:Sp.Geom} {s T:ByteArray} {w w':World} (h:g.ok∧q13z g s) (hT:ofL (nodeL (q6z s))=T) (hb:Below w.heap.size w w'):q139z g s w (.returned (.tuple #[.string T,.bool true])) w':=by
 refine⟨?_,hb⟩
 rw[if_pos h,decide_eq_true h,hT]
section
set_option maxHeartbeats 8000000
set_option maxRecDepth 20000 in
theorem dnode_any (w:World) (g:Sp.Geom) (s:ByteArray) (ht:TabOk w):Calls Tryz.prog 225 #[gV g,.string s] w (q139z g s w):=by
 have hd:=fun W:World=>idecode_any W g s
 unfold IDec at hd
 have hno:=fun(h:¬(g.ok∧q13z g s)) (w':World)=>node_no (w:=w) (w':=w') h
 by_cases hyes:g.ok∧q13z g s
 rotate_left
 ·have hcode:∃c,(if g.ok then(if q13z g s then(0:Int) else 60) else 4)=c∧c≠0:=by
   by_cases h1:g.ok
   ·rw[if_pos h1,if_neg (fun h2=>hyes ⟨h1,h2⟩)]; exact⟨60,rfl,by decide⟩
   ·rw[if_neg h1]; exact⟨4,rfl,by decide⟩
  obtain⟨c,hc,hc0⟩:=hcode
  rw[hc,if_neg hyes] at hd
  have HN:=zh (hno hyes)
  obtain⟨Q,hQ⟩:=zx (q139z g s w)
  rw[hQ] at HN ⊢
  have f1:(c == 0)=false:=beq_eq_false_iff_ne.2 hc0
  have f2:(c != 0)=true:=by simp[hc0]
  obtain⟨ga,gb,gc⟩:=g
  unfold gV nA iA at hd
  unfold gV
  have HD:=zh hd
  clear hd
  clear hyes hc hc0 hno hQ
  go_enter Tryz.func225,Tryz.ntmps225
  go_wp2_with fail
  refine(HD.out _).mono ?_
  rintro e w1 ⟨rfl,hb1⟩
  have HB1:=zh (blN (bl2 _) hb1)
  clear hb1
  go_wp2
  first | exact HN.out _ (bl1 HB1.out _) | (go_ret2; exact HN.out _ (bl1 HB1.out _))
 have hs:s.size=64:=hyes.2.1
 have hfit:=hyes.2.2.1
 have hB:=hyes.2.2.2
 have hg:=hyes.1
 have hcode:(if g.ok then(if q13z g s then(0:Int) else 60) else 4)=0:=by rw[if_pos hg,if_pos hyes.2]
 rw[hcode,if_pos hyes] at hd
 have hchk:(q6z s).check g=0:=by
  unfold Inode.check
  rw[if_pos hg,if_pos hfit]
 obtain⟨k,l,z,p,ge,d0,d1,d2,d3,d4,d5,d6,d7,m,hn⟩:∃k l z p ge d0 d1 d2 d3 d4 d5 d6 d7 m,q6z s=iN k l z p ge d0 d1 d2 d3 d4 d5 d6 d7 m:=⟨_,_,_,_,_,_,_,_,_,_,_,_,_,_,inodeOf_eq hs⟩
 have hyesP:=fun(T:ByteArray) (hT:ofL (nodeL (q6z s))=T) (w':World)=>node_yes (w:=w) (w':=w') hyes hT
 rw[hn] at hd hfit hB hchk hyesP
 obtain⟨a0,a1,a2,a3,a4,a5,a6,a7,a8,a9,a10,hall⟩:=fits_num hg hfit
 simp only[iN] at a0 a1 a2 a3 a4 a5 a6 a7 a8 a9 a10
 have hen:=fun W:World=>iencode_any W g k l z p ge d0 d1 d2 d3 d4 d5 d6 d7 m
 unfold IEnc at hen
 rw[hchk,if_pos rfl,hB] at hen
 obtain⟨l,rfl⟩:∃q:Nat,l=(q:Int):=⟨l.toNat,by omega⟩
 obtain⟨z,rfl⟩:∃q:Nat,z=(q:Int):=⟨z.toNat,by omega⟩
 obtain⟨p,rfl⟩:∃q:Nat,p=(q:Int):=⟨p.toNat,by omega⟩
 obtain⟨ge,rfl⟩:∃q:Nat,ge=(q:Int):=⟨ge.toNat,by omega⟩
 obtain⟨m,rfl⟩:∃q:Nat,m=(q:Int):=⟨m.toNat,by omega⟩
 obtain⟨e0,h0⟩:=hall d0 (by simp[iN])
 obtain⟨d0,rfl⟩:∃q:Nat,d0=(q:Int):=⟨d0.toNat,by omega⟩
 obtain⟨e1,h1⟩:=hall d1 (by simp[iN])
 obtain⟨d1,rfl⟩:∃q:Nat,d1=(q:Int):=⟨d1.toNat,by omega⟩
 obtain⟨e2,h2⟩:=hall d2 (by simp[iN])
 obtain⟨d2,rfl⟩:∃q:Nat,d2=(q:Int):=⟨d2.toNat,by omega⟩
 obtain⟨e3,h3⟩:=hall d3 (by simp[iN])
 obtain⟨d3,rfl⟩:∃q:Nat,d3=(q:Int):=⟨d3.toNat,by omega⟩
 obtain⟨e4,h4⟩:=hall d4 (by simp[iN])
 obtain⟨d4,rfl⟩:∃q:Nat,d4=(q:Int):=⟨d4.toNat,by omega⟩
 obtain⟨e5,h5⟩:=hall d5 (by simp[iN])
 obtain⟨d5,rfl⟩:∃q:Nat,d5=(q:Int):=⟨d5.toNat,by omega⟩
 obtain⟨e6,h6⟩:=hall d6 (by simp[iN])
 obtain⟨d6,rfl⟩:∃q:Nat,d6=(q:Int):=⟨d6.toNat,by omega⟩
 obtain⟨e7,h7⟩:=hall d7 (by simp[iN])
 obtain⟨d7,rfl⟩:∃q:Nat,d7=(q:Int):=⟨d7.toNat,by omega⟩
 have hline:nodeL (iN k l z p ge d0 d1 d2 d3 d4 d5 d6 d7 m)=q54z ++ kindL k ++ listL [l,p,ge,z] ++ listL [d0,d1,d2,d3,d4,d5,d6,d7] ++ listL [m]:=rfl
 rw[hline] at hyesP
 have hkl:(kindL k).length≤4:=by
  unfold kindL
  split
  ·decide
  ·split <;> decide
 have hcat:=q20z q54z (kindL k)
 have hb1:(ofL (kindL k)).size≤4:=by rw[q9z]; exact hkl
 have n1:=fun(W:World) (v:Value) (hv:Ints W v [(l:Int),(p:Int),(ge:Int),(z:Int)]) (ht:TabOk W)=>q69z W (q54z ++ kindL k) v [l,p,ge,z] hv (by rw[List.length_append]; have:q54z.length=6:=rfl; omega) (by simp) (by intro n hn; simp only[List.mem_cons,List.not_mem_nil,or_false] at hn; omega) ht
 have hq:∀L:List Nat,(∀n∈L,n<65536)→(listL L).length≤20*L.length:=fun L h=>q74z L (fun n hn=>by have:=h n hn; omega)
 have hq1:=hq [l,p,ge,z] (by intro n hn; simp only[List.mem_cons,List.not_mem_nil,or_false] at hn; omega)
 have hq2:=hq [d0,d1,d2,d3,d4,d5,d6,d7] (by intro n hn; simp only[List.mem_cons,List.not_mem_nil,or_false] at hn; omega)
 have hsz1:(q54z ++ kindL k ++ listL [l,p,ge,z]).length≤100:=by
  rw[List.length_append,List.length_append]
  have:q54z.length=6:=rfl
  have:[l,p,ge,z].length=4:=rfl
  omega
 have hsz2:(q54z ++ kindL k ++ listL [l,p,ge,z] ++ listL [d0,d1,d2,d3,d4,d5,d6,d7]).length≤300:=by
  rw[List.length_append]
  have:[d0,d1,d2,d3,d4,d5,d6,d7].length=8:=rfl
  omega
 have n2:=fun(W:World) (v:Value) (hv:Ints W v [(d0:Int),(d1:Int),(d2:Int),(d3:Int),(d4:Int),(d5:Int),(d6:Int),(d7:Int)]) (ht:TabOk W)=>q69z W (q54z ++ kindL k ++ listL [l,p,ge,z]) v [d0,d1,d2,d3,d4,d5,d6,d7] hv (by omega) (by simp) (by intro n hn; simp only[List.mem_cons,List.not_mem_nil,or_false] at hn; omega) ht
 have n3:=fun(W:World) (v:Value) (hv:Ints W v [(m:Int)]) (ht:TabOk W)=>q69z W (q54z ++ kindL k ++ listL [l,p,ge,z] ++ listL [d0,d1,d2,d3,d4,d5,d6,d7]) v [m] hv (by omega) (by simp) (by intro n hn; simp only[List.mem_singleton] at hn; omega) ht
 have hkd:=fun W:World=>dkind_any W k
 obtain⟨T0,hT0⟩:=zx (ofL (kindL k))
 obtain⟨T1,hT1⟩:=zx (ofL (q54z ++ kindL k))
 obtain⟨T2,hT2⟩:=zx (ofL (q54z ++ kindL k ++ listL [l,p,ge,z]))
 obtain⟨T3,hT3⟩:=zx (ofL (q54z ++ kindL k ++ listL [l,p,ge,z] ++ listL [d0,d1,d2,d3,d4,d5,d6,d7]))
 obtain⟨T4,hT4⟩:=zx (ofL (q54z ++ kindL k ++ listL [l,p,ge,z] ++ listL [d0,d1,d2,d3,d4,d5,d6,d7] ++ listL [m]))
 have HY:=zh (hyesP T4 hT4)
 rw[hT0] at hkd hb1 hcat
 rw[hT1] at hcat n1
 rw[hT2] at n1 n2
 rw[hT3] at n2 n3
 rw[hT4] at n3
 change (⟨#[105,110,111,100,101,32]⟩:ByteArray) ++ T0=T1 at hcat
 obtain⟨Q,hQ⟩:=zx (q139z g s w)
 rw[hQ] at HY ⊢
 have fs:(s.toList == s.toList)=true:=beq_self_eq_true _
 have HT:=zh ht
 obtain⟨ga,gb,gc⟩:=g
 unfold gV nA iA iN at hd
 unfold gV iA at hen
 unfold gV
 simp only[List.getD_cons_zero,List.getD_cons_succ] at hd
 have HD:=zh hd
 have HEN:=zh hen
 have N1:=zh n1
 have N2:=zh n2
 have N3:=zh n3
 have HKD:=zh hkd
 clear hd hen n1 n2 n3 hkd
 clear hs hfit hB hg hcode hchk hn hyesP hyes a0 a1 a2 a3 a4 a5 a6 a7 a8 a9 a10 hall hline hkl hq hq1 hq2 hsz1 hsz2 hT0 hT1 hT2 hT3 hT4 hQ ht hno e0 e1 e2 e3 e4 e5 e6 e7 h0 h1 h2 h3 h4 h5 h6 h7
 obtain⟨W0,hW0⟩:=zg w ga gb gc
 have hk:=q14z hW0
 have HB0:=zh hk.1
 have HK:=zh hk.2
 clear hk
 obtain⟨z0,z1,z2⟩:=HK.out W0 (Below.refl _ _)
 go_enter Tryz.func225,Tryz.ntmps225
 go_wp2_with fail
 clear z0 z1 z2
 refine(HD.out _).mono ?_
 rintro e w1 ⟨rfl,hbw1⟩
 have HB1:Hid (Below W0.heap.size W0 w1):=hbw1
 obtain⟨W2,hW2⟩:=zx (w1.alloc (.cells #[.int .i64 k,.int .i64 (l:Int),.int .i64 (z:Int),.int .i64 (p:Int),.int .i64 (ge:Int),.int .i64 (d0:Int),.int .i64 (d1:Int),.int .i64 (d2:Int),.int .i64 (d3:Int),.int .i64 (d4:Int),.int .i64 (d5:Int),.int .i64 (d6:Int),.int .i64 (d7:Int),.int .i64 (m:Int)] 69))
 have HB2:Hid (Below W0.heap.size W0 W2):=by rw[←hW2]; exact bl1 HB1.out _
 have hzn:W2.heap[w1.heap.size]? = some (.cells #[.int .i64 k,.int .i64 (l:Int),.int .i64 (z:Int),.int .i64 (p:Int),.int .i64 (ge:Int),.int .i64 (d0:Int),.int .i64 (d1:Int),.int .i64 (d2:Int),.int .i64 (d3:Int),.int .i64 (d4:Int),.int .i64 (d5:Int),.int .i64 (d6:Int),.int .i64 (d7:Int),.int .i64 (m:Int)] 69 (0,0)):=by rw[←hW2]; exact q5z w1 _
 have HZN:=zh hzn
 have HB2b:Hid (Below W2.heap.size W2 W2):=Below.refl _ _
 obtain⟨z0,z1,z2⟩:=HK.out W2 HB2.out
 clear hbw1 hzn
 have y0:=zc 0 (q1z HB2b.out HZN.out)
 have y1:=zc 1 (q1z HB2b.out HZN.out)
 have y2:=zc 2 (q1z HB2b.out HZN.out)
 have y3:=zc 3 (q1z HB2b.out HZN.out)
 have y4:=zc 4 (q1z HB2b.out HZN.out)
 have y5:=zc 5 (q1z HB2b.out HZN.out)
 have y6:=zc 6 (q1z HB2b.out HZN.out)
 have y7:=zc 7 (q1z HB2b.out HZN.out)
 have y8:=zc 8 (q1z HB2b.out HZN.out)
 have y9:=zc 9 (q1z HB2b.out HZN.out)
 have y10:=zc 10 (q1z HB2b.out HZN.out)
 have y11:=zc 11 (q1z HB2b.out HZN.out)
 have y12:=zc 12 (q1z HB2b.out HZN.out)
 have y13:=zc 13 (q1z HB2b.out HZN.out)
 go_wp2_with fail
 clear z0 z1 z2 y0 y1 y2 y3 y4 y5 y6 y7 y8 y9 y10 y11 y12 y13 hW2 HB2b
 refine(HEN.out _).mono ?_
 rintro e w3 ⟨rfl,hbw3⟩
 have HB3:Hid (Below W2.heap.size W2 w3):=hbw3
 clear hbw3
 have HZG:Hid (∀W,Below W2.heap.size W2 W→W.cell? ⟨w1.heap.size,0,none⟩=some (.int .i64 k)∧W.cell? ⟨w1.heap.size,1,none⟩=some (.int .i64 (l:Int))∧W.cell? ⟨w1.heap.size,2,none⟩=some (.int .i64 (z:Int))∧W.cell? ⟨w1.heap.size,3,none⟩=some (.int .i64 (p:Int))∧W.cell? ⟨w1.heap.size,4,none⟩=some (.int .i64 (ge:Int))∧W.cell? ⟨w1.heap.size,13,none⟩=some (.int .i64 (m:Int))):=fun W hW=>by
  have h:=q1z hW HZN.out
  exact⟨cellOf h rfl,cellOf h rfl,cellOf h rfl,cellOf h rfl,cellOf h rfl,cellOf h rfl⟩
 have hlim:¬9223372036854775807<6+T0.size:=by omega
 have HTB:Hid (∀W,Below W2.heap.size W2 W→TabOk W):=fun W hW=>HT.out.below (blN (blN HB0.out HB2.out) hW)
 have HI1:Hid (∀(W:World) (b:Nat),W.heap[b]? = some (.cells #[.int .i64 (l:Int),.int .i64 (p:Int),.int .i64 (ge:Int),.int .i64 (z:Int)] 3 (0,0))→Ints W (.slice (some ⟨b,0,none⟩) 4 4) [(l:Int),(p:Int),(ge:Int),(z:Int)]):=fun W b hW=>q75z (o:=0) hW (fun j n hj=>by
  match j,hj with
  | 0,hj=>have e:(l:Int)=n:=by simpa using hj
          rw[←e]; rfl
  | 1,hj=>have e:(p:Int)=n:=by simpa using hj
          rw[←e]; rfl
  | 2,hj=>have e:(ge:Int)=n:=by simpa using hj
          rw[←e]; rfl
  | 3,hj=>have e:(z:Int)=n:=by simpa using hj
          rw[←e]; rfl
  | q+4,hj=>simp at hj) (by unfold maxLen; simp) rfl
 have HI2:Hid (∀W,Below W2.heap.size W2 W→Ints W (.slice (some ⟨w1.heap.size,5,none⟩) 8 8) [(d0:Int),(d1:Int),(d2:Int),(d3:Int),(d4:Int),(d5:Int),(d6:Int),(d7:Int)]):=fun W hW=>q75z (o:=5) (q1z hW HZN.out) (fun j n hj=>by
  match j,hj with
  | 0,hj=>have e:(d0:Int)=n:=by simpa using hj
          rw[←e]; rfl
  | 1,hj=>have e:(d1:Int)=n:=by simpa using hj
          rw[←e]; rfl
  | 2,hj=>have e:(d2:Int)=n:=by simpa using hj
          rw[←e]; rfl
  | 3,hj=>have e:(d3:Int)=n:=by simpa using hj
          rw[←e]; rfl
  | 4,hj=>have e:(d4:Int)=n:=by simpa using hj
          rw[←e]; rfl
  | 5,hj=>have e:(d5:Int)=n:=by simpa using hj
          rw[←e]; rfl
  | 6,hj=>have e:(d6:Int)=n:=by simpa using hj
          rw[←e]; rfl
  | 7,hj=>have e:(d7:Int)=n:=by simpa using hj
          rw[←e]; rfl
  | q+8,hj=>simp at hj) (by unfold maxLen; simp) rfl
 have HI3:Hid (∀(W:World) (b:Nat),W.heap[b]? = some (.cells #[.int .i64 (m:Int)] 3 (0,0))→Ints W (.slice (some ⟨b,0,none⟩) 1 1) [(m:Int)]):=fun W b hW=>q75z (o:=0) hW (fun j n hj=>by
  match j,hj with
  | 0,hj=>have e:(m:Int)=n:=by simpa using hj
          rw[←e]; rfl
  | q+1,hj=>simp at hj) (by unfold maxLen; simp) rfl
 go_wp2_with fail
 go_region_held3 (fun W=>W.cell? ⟨w1.heap.size,0,none⟩=some (.int .i64 k)∧W.cell? ⟨w1.heap.size,1,none⟩=some (.int .i64 (l:Int))∧W.cell? ⟨w1.heap.size,2,none⟩=some (.int .i64 (z:Int))∧W.cell? ⟨w1.heap.size,3,none⟩=some (.int .i64 (p:Int))∧W.cell? ⟨w1.heap.size,4,none⟩=some (.int .i64 (ge:Int))∧W.cell? ⟨w1.heap.size,13,none⟩=some (.int .i64 (m:Int)))
  ((refine HZG.out _ ?_; repeat' first | with_reducible exact HB3.out | with_reducible exact HB4.out | with_reducible refine blD ?_ | with_reducible refine bl1 ?_ _))
  (first
    | (go_at_call 269
       refine(HKD.out _).mono ?_
       rintro e w3' ⟨rfl,hw3'⟩
       subst hw3'
       simp only)
    | (go_at_call 221
       refine(N1.out _ _ ?a1 ?a2).mono ?_
       case a1=>
        exact HI1.out _ _ (q5z w3 _)
       case a2=>
        refine HTB.out _ ?_
        repeat' first | with_reducible exact HB3.out | with_reducible refine blD ?_ | with_reducible refine bl1 ?_ _
       rintro e w4 ⟨rfl,hbw4⟩
       have HB4:Hid (Below W2.heap.size W2 w4):=blN (by repeat' first | with_reducible exact HB3.out | with_reducible refine blD ?_ | with_reducible refine bl1 ?_ _) hbw4
       clear hbw4
       simp only))
 all_goals
  go_wp2_with fail
  go_region_held3 (fun W=>W.cell? ⟨w1.heap.size,0,none⟩=some (.int .i64 k)∧W.cell? ⟨w1.heap.size,1,none⟩=some (.int .i64 (l:Int))∧W.cell? ⟨w1.heap.size,2,none⟩=some (.int .i64 (z:Int))∧W.cell? ⟨w1.heap.size,3,none⟩=some (.int .i64 (p:Int))∧W.cell? ⟨w1.heap.size,4,none⟩=some (.int .i64 (ge:Int))∧W.cell? ⟨w1.heap.size,13,none⟩=some (.int .i64 (m:Int)))
   ((refine HZG.out _ ?_; repeat' first | with_reducible exact HB4.out | with_reducible exact HB5.out | with_reducible exact HB6.out | with_reducible refine blD ?_ | with_reducible refine bl1 ?_ _))
   (first
     | (go_at_call_of 221 (Value.string T2)
        refine(N2.out _ _ ?a1 ?a2).mono ?_
        case a1=>
         (refine HI2.out _ ?_; repeat' first | with_reducible exact HB4.out | with_reducible refine blD ?_ | with_reducible refine bl1 ?_ _)
        case a2=>
         refine HTB.out _ ?_
         repeat' first | with_reducible exact HB4.out | with_reducible refine blD ?_ | with_reducible refine bl1 ?_ _
        rintro e w5 ⟨rfl,hbw5⟩
        have HX5:=zh hbw5
        have HB5:Hid (Below W2.heap.size W2 w5):=blN (by repeat' first | with_reducible exact HB4.out | with_reducible refine blD ?_ | with_reducible refine bl1 ?_ _) hbw5
        clear hbw5
        simp only)
     | (go_at_call_of 221 (Value.string T3)
        refine(N3.out _ _ ?a1 ?a2).mono ?_
        case a1=>
         first | exact HI3.out _ _ (q5z w5 _) | exact HI3.out _ _ (q1z HX5.out (q5z w4 _))
        case a2=>
         refine HTB.out _ ?_
         repeat' first | with_reducible exact HB5.out | with_reducible refine blD ?_ | with_reducible refine bl1 ?_ _
        rintro e w6 ⟨rfl,hbw6⟩
        have HB6:Hid (Below W2.heap.size W2 w6):=blN (by repeat' first | with_reducible exact HB5.out | with_reducible refine blD ?_ | with_reducible refine bl1 ?_ _) hbw6
        clear hbw6
        simp only))
  all_goals
   go_wp2
   first | exact HY.out _ (blN (blN HB0.out HB2.out) HB6.out) | (go_ret2; exact HY.out _ (blN (blN HB0.out HB2.out) HB6.out))
end
