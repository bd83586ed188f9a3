import Derived.Test.YtmljdnlmpiklgaaGreatDoorDumpAA
import Derived.Test.YtmljdnlmpiklgaaGreatDoorInodeDec
set_option maxRecDepth 20000
set_option maxHeartbeats 8000000
namespace Go.Proofs.YtmljdnlmpiklgaaGreatDoor
open Go Go.RowKit Txt Sp
def nodeL (n:Sp.Inode):List UInt8:=wInode ++ kindL n.kind ++ listL [n.links.toNat,n.parent.toNat,n.gen.toNat,n.size.toNat] ++ listL (n.direct.map Int.toNat) ++ listL [n.more.toNat]
def q56z (g:Sp.Geom) (s:ByteArray) (w:World) (e:Ending) (w':World):Prop:=
 e = .returned (.tuple #[.string (if g.ok∧isInode g s then ofL (nodeL (inodeOf s)) else⟨#[]⟩),.bool (decide (g.ok∧isInode g s))])∧Below w.heap.size w w'
theorem node_no {g:Sp.Geom} {s:ByteArray} {w w':World} (h:¬(g.ok∧isInode g s)) (hb:Below w.heap.size w w'):q56z g s w (.returned (.tuple #[.string ⟨#[]⟩,.bool false])) w':=by
 refine⟨?_,hb⟩
 rw[if_neg h,decide_eq_false h]
theorem node_yes {g:Sp.Geom} {s T:ByteArray} {w w':World} (h:g.ok∧isInode g s) (hT:ofL (nodeL (inodeOf s))=T) (hb:Below w.heap.size w w'):q56z g s w (.returned (.tuple #[.string T,.bool true])) w':=by
 refine⟨?_,hb⟩
 rw[if_pos h,decide_eq_true h,hT]
theorem ints_block {w:World} {b o:Nat} {cs:Array Value} {t:TypeId} {fr:Nat×Nat} {l:List Int} (h:w.heap[b]? = some (.cells cs t fr)) (hc:∀j n,l[j]? = some n→cs[o+j]? = some (.int .i64 n)) (h2:l.length≤maxLen) {n:Nat} (hn:n=l.length):Ints w (.slice (some ⟨b,o,none⟩) n n) l:=by
 subst hn
 refine⟨some ⟨b,o,none⟩,l.length,by rw[List.length_map],by rw[List.length_map]; exact Nat.le_refl _,h2,fun _=>⟨b,o,rfl,(Array.getElem?_eq_some_iff.1 h).1,fun j x hx i y hy=>?_⟩⟩
 rw[List.getElem?_map] at hx
 obtain⟨n,hn,rfl⟩:=Option.map_eq_some_iff.1 hx
 match i,hy with
 | 0,hy=>
   have e:Value.int .i64 n=y:=by simpa using hy
   rw[Nat.mul_one,Nat.add_zero,←e]
   exact cellOf h (hc j n hn)
 | k+1,hy=>simp at hy
section
theorem dnode_any (w:World) (g:Sp.Geom) (s:ByteArray) (ht:TabOk w):Calls Tryz.prog 96 #[gV g,.string s] w (q56z g s w):=by
 have hd:=fun W:World=>idecode_any W g s
 unfold IDec at hd
 have hno:=fun(h:¬(g.ok∧isInode g s)) (w':World)=>node_no (w:=w) (w':=w') h
 by_cases hyes:g.ok∧isInode g s
 rotate_left
 ·have hcode:∃c,(if g.ok then(if isInode g s then(0:Int) else 60) else 4)=c∧c≠0:=by
   by_cases h1:g.ok
   ·rw[if_pos h1,if_neg (fun h2=>hyes ⟨h1,h2⟩)]; exact⟨60,rfl,by decide⟩
   ·rw[if_neg h1]; exact⟨4,rfl,by decide⟩
  obtain⟨c,hc,hc0⟩:=hcode
  rw[hc,if_neg hyes] at hd
  have HN:=zh (hno hyes)
  obtain⟨Q,hQ⟩:=zx (q56z g s w)
  rw[hQ] at HN ⊢
  have f1:(c == 0)=false:=beq_eq_false_iff_ne.2 hc0
  have f2:(c != 0)=true:=by simp[hc0]
  obtain⟨ga,gb,gc⟩:=g
  unfold gV nA iA at hd
  unfold gV
  have HD:=zh hd
  clear hd
  clear hyes hc hc0 hno hQ
  go_enter Tryz.func96,Tryz.ntmps96
  go_wp2_with fail
  refine(HD.out _).mono ?_
  rintro e w1 ⟨rfl,hb1⟩
  have HB1:=zh (blN (bl2 _) hb1)
  clear hb1
  go_wp2
  first | exact HN.out _ (bl1 HB1.out _) | (go_ret2; exact HN.out _ (bl1 HB1.out _))
 have hs:s.size=64:=hyes.2.1
 have hfit:=hyes.2.2.1
 have hB:=hyes.2.2.2
 have hg:=hyes.1
 have hcode:(if g.ok then(if isInode g s then(0:Int) else 60) else 4)=0:=by rw[if_pos hg,if_pos hyes.2]
 rw[hcode,if_pos hyes] at hd
 have hchk:(inodeOf s).check g=0:=by
  unfold Inode.check
  rw[if_pos hg,if_pos hfit]
 obtain⟨k,l,z,p,ge,d0,d1,d2,d3,d4,d5,d6,d7,m,hn⟩:∃k l z p ge d0 d1 d2 d3 d4 d5 d6 d7 m,inodeOf s=iN k l z p ge d0 d1 d2 d3 d4 d5 d6 d7 m:=⟨_,_,_,_,_,_,_,_,_,_,_,_,_,_,inodeOf_eq hs⟩
 have hyesP:=fun(T:ByteArray) (hT:ofL (nodeL (inodeOf s))=T) (w':World)=>node_yes (w:=w) (w':=w') hyes hT
 rw[hn] at hd hfit hB hchk hyesP
 obtain⟨a0,a1,a2,a3,a4,a5,a6,a7,a8,a9,a10,hall⟩:=fits_num hg hfit
 simp only[iN] at a0 a1 a2 a3 a4 a5 a6 a7 a8 a9 a10
 have hen:=fun W:World=>iencode_any W g k l z p ge d0 d1 d2 d3 d4 d5 d6 d7 m
 unfold IEnc at hen
 rw[hchk,if_pos rfl,hB] at hen
 obtain⟨l,rfl⟩:∃q:Nat,l=(q:Int):=⟨l.toNat,by omega⟩
 obtain⟨z,rfl⟩:∃q:Nat,z=(q:Int):=⟨z.toNat,by omega⟩
 obtain⟨p,rfl⟩:∃q:Nat,p=(q:Int):=⟨p.toNat,by omega⟩
 obtain⟨ge,rfl⟩:∃q:Nat,ge=(q:Int):=⟨ge.toNat,by omega⟩
 obtain⟨m,rfl⟩:∃q:Nat,m=(q:Int):=⟨m.toNat,by omega⟩
 obtain⟨e0,h0⟩:=hall d0 (by simp[iN])
 obtain⟨d0,rfl⟩:∃q:Nat,d0=(q:Int):=⟨d0.toNat,by omega⟩
 obtain⟨e1,h1⟩:=hall d1 (by simp[iN])
 obtain⟨d1,rfl⟩:∃q:Nat,d1=(q:Int):=⟨d1.toNat,by omega⟩
 obtain⟨e2,h2⟩:=hall d2 (by simp[iN])
 obtain⟨d2,rfl⟩:∃q:Nat,d2=(q:Int):=⟨d2.toNat,by omega⟩
 obtain⟨e3,h3⟩:=hall d3 (by simp[iN])
 obtain⟨d3,rfl⟩:∃q:Nat,d3=(q:Int):=⟨d3.toNat,by omega⟩
 obtain⟨e4,h4⟩:=hall d4 (by simp[iN])
 obtain⟨d4,rfl⟩:∃q:Nat,d4=(q:Int):=⟨d4.toNat,by omega⟩
 obtain⟨e5,h5⟩:=hall d5 (by simp[iN])
 obtain⟨d5,rfl⟩:∃q:Nat,d5=(q:Int):=⟨d5.toNat,by omega⟩
 obtain⟨e6,h6⟩:=hall d6 (by simp[iN])
 obtain⟨d6,rfl⟩:∃q:Nat,d6=(q:Int):=⟨d6.toNat,by omega⟩
 obtain⟨e7,h7⟩:=hall d7 (by simp[iN])
 obtain⟨d7,rfl⟩:∃q:Nat,d7=(q:Int):=⟨d7.toNat,by omega⟩
 have hline:nodeL (iN k l z p ge d0 d1 d2 d3 d4 d5 d6 d7 m)=wInode ++ kindL k ++ listL [l,p,ge,z] ++ listL [d0,d1,d2,d3,d4,d5,d6,d7] ++ listL [m]:=rfl
 rw[hline] at hyesP
 have hkl:(kindL k).length≤4:=by
  unfold kindL
  split
  ·decide
  ·split <;> decide
 have hcat:=text_cat wInode (kindL k)
 have hb1:(ofL (kindL k)).size≤4:=by rw[ofL_size]; exact hkl
 have n1:=fun(W:World) (v:Value) (hv:Ints W v [(l:Int),(p:Int),(ge:Int),(z:Int)]) (ht:TabOk W)=>q34z W (wInode ++ kindL k) v [l,p,ge,z] hv (by rw[List.length_append]; have:wInode.length=6:=rfl; omega) (by simp) (by intro n hn; simp only[List.mem_cons,List.not_mem_nil,or_false] at hn; omega) ht
 have hq:∀L:List Nat,(∀n∈L,n<65536)→(listL L).length≤20*L.length:=fun L h=>q19z L (fun n hn=>by have:=h n hn; omega)
 have hq1:=hq [l,p,ge,z] (by intro n hn; simp only[List.mem_cons,List.not_mem_nil,or_false] at hn; omega)
 have hq2:=hq [d0,d1,d2,d3,d4,d5,d6,d7] (by intro n hn; simp only[List.mem_cons,List.not_mem_nil,or_false] at hn; omega)
 have hsz1:(wInode ++ kindL k ++ listL [l,p,ge,z]).length≤100:=by
  rw[List.length_append,List.length_append]
  have:wInode.length=6:=rfl
  have:[l,p,ge,z].length=4:=rfl
  omega
 have hsz2:(wInode ++ kindL k ++ listL [l,p,ge,z] ++ listL [d0,d1,d2,d3,d4,d5,d6,d7]).length≤300:=by
  rw[List.length_append]
  have:[d0,d1,d2,d3,d4,d5,d6,d7].length=8:=rfl
  omega
 have n2:=fun(W:World) (v:Value) (hv:Ints W v [(d0:Int),(d1:Int),(d2:Int),(d3:Int),(d4:Int),(d5:Int),(d6:Int),(d7:Int)]) (ht:TabOk W)=>q34z W (wInode ++ kindL k ++ listL [l,p,ge,z]) v [d0,d1,d2,d3,d4,d5,d6,d7] hv (by omega) (by simp) (by intro n hn; simp only[List.mem_cons,List.not_mem_nil,or_false] at hn; omega) ht
 have n3:=fun(W:World) (v:Value) (hv:Ints W v [(m:Int)]) (ht:TabOk W)=>q34z W (wInode ++ kindL k ++ listL [l,p,ge,z] ++ listL [d0,d1,d2,d3,d4,d5,d6,d7]) v [m] hv (by omega) (by simp) (by intro n hn; simp only[List.mem_singleton] at hn; omega) ht
 have hkd:=fun W:World=>dkind_any W k
 obtain⟨T0,hT0⟩:=zx (ofL (kindL k))
 obtain⟨T1,hT1⟩:=zx (ofL (wInode ++ kindL k))
 obtain⟨T2,hT2⟩:=zx (ofL (wInode ++ kindL k ++ listL [l,p,ge,z]))
 obtain⟨T3,hT3⟩:=zx (ofL (wInode ++ kindL k ++ listL [l,p,ge,z] ++ listL [d0,d1,d2,d3,d4,d5,d6,d7]))
 obtain⟨T4,hT4⟩:=zx (ofL (wInode ++ kindL k ++ listL [l,p,ge,z] ++ listL [d0,d1,d2,d3,d4,d5,d6,d7] ++ listL [m]))
 have HY:=zh (hyesP T4 hT4)
 rw[hT0] at hkd hb1 hcat
 rw[hT1] at hcat n1
 rw[hT2] at n1 n2
 rw[hT3] at n2 n3
 rw[hT4] at n3
 change (⟨#[105,110,111,100,101,32]⟩:ByteArray) ++ T0=T1 at hcat
 obtain⟨Q,hQ⟩:=zx (q56z g s w)
 rw[hQ] at HY ⊢
 have fs:(s.toList == s.toList)=true:=beq_self_eq_true _
 have HT:=zh ht
 obtain⟨ga,gb,gc⟩:=g
 unfold gV nA iA iN at hd
 unfold gV iA at hen
 unfold gV
 simp only[List.getD_cons_zero,List.getD_cons_succ] at hd
 have HD:=zh hd
 have HEN:=zh hen
 have N1:=zh n1
 have N2:=zh n2
 have N3:=zh n3
 have HKD:=zh hkd
 clear hd hen n1 n2 n3 hkd
 clear hs hfit hB hg hcode hchk hn hyesP hyes a0 a1 a2 a3 a4 a5 a6 a7 a8 a9 a10 hall hline hkl hq hq1 hq2 hsz1 hsz2 hT0 hT1 hT2 hT3 hT4 hQ ht hno e0 e1 e2 e3 e4 e5 e6 e7 h0 h1 h2 h3 h4 h5 h6 h7
 obtain⟨W0,hW0⟩:=zg w ga gb gc
 have hk:=g_keep hW0
 have HB0:=zh hk.1
 have HK:=zh hk.2
 clear hk
 obtain⟨z0,z1,z2⟩:=HK.out W0 (Below.refl _ _)
 go_enter Tryz.func96,Tryz.ntmps96
 go_wp2_with fail
 clear z0 z1 z2
 refine(HD.out _).mono ?_
 rintro e w1 ⟨rfl,hbw1⟩
 have HB1:Hid (Below W0.heap.size W0 w1):=hbw1
 obtain⟨W2,hW2⟩:=zx (w1.alloc (.cells #[.int .i64 k,.int .i64 (l:Int),.int .i64 (z:Int),.int .i64 (p:Int),.int .i64 (ge:Int),.int .i64 (d0:Int),.int .i64 (d1:Int),.int .i64 (d2:Int),.int .i64 (d3:Int),.int .i64 (d4:Int),.int .i64 (d5:Int),.int .i64 (d6:Int),.int .i64 (d7:Int),.int .i64 (m:Int)] 71))
 have HB2:Hid (Below W0.heap.size W0 W2):=by rw[←hW2]; exact bl1 HB1.out _
 have hzn:W2.heap[w1.heap.size]? = some (.cells #[.int .i64 k,.int .i64 (l:Int),.int .i64 (z:Int),.int .i64 (p:Int),.int .i64 (ge:Int),.int .i64 (d0:Int),.int .i64 (d1:Int),.int .i64 (d2:Int),.int .i64 (d3:Int),.int .i64 (d4:Int),.int .i64 (d5:Int),.int .i64 (d6:Int),.int .i64 (d7:Int),.int .i64 (m:Int)] 71 (0,0)):=by rw[←hW2]; exact heapNew w1 _
 have HZN:=zh hzn
 have HB2b:Hid (Below W2.heap.size W2 W2):=Below.refl _ _
 obtain⟨z0,z1,z2⟩:=HK.out W2 HB2.out
 clear hbw1 hzn
 have y0:=zc 0 (heapOld HB2b.out HZN.out)
 have y1:=zc 1 (heapOld HB2b.out HZN.out)
 have y2:=zc 2 (heapOld HB2b.out HZN.out)
 have y3:=zc 3 (heapOld HB2b.out HZN.out)
 have y4:=zc 4 (heapOld HB2b.out HZN.out)
 have y5:=zc 5 (heapOld HB2b.out HZN.out)
 have y6:=zc 6 (heapOld HB2b.out HZN.out)
 have y7:=zc 7 (heapOld HB2b.out HZN.out)
 have y8:=zc 8 (heapOld HB2b.out HZN.out)
 have y9:=zc 9 (heapOld HB2b.out HZN.out)
 have y10:=zc 10 (heapOld HB2b.out HZN.out)
 have y11:=zc 11 (heapOld HB2b.out HZN.out)
 have y12:=zc 12 (heapOld HB2b.out HZN.out)
 have y13:=zc 13 (heapOld HB2b.out HZN.out)
 go_wp2_with fail
 clear z0 z1 z2 y0 y1 y2 y3 y4 y5 y6 y7 y8 y9 y10 y11 y12 y13 hW2 HB2b
 refine(HEN.out _).mono ?_
 rintro e w3 ⟨rfl,hbw3⟩
 have HB3:Hid (Below W2.heap.size W2 w3):=hbw3
 clear hbw3
 have HZG:Hid (∀W,Below W2.heap.size W2 W→W.cell? ⟨w1.heap.size,0,none⟩=some (.int .i64 k)∧W.cell? ⟨w1.heap.size,1,none⟩=some (.int .i64 (l:Int))∧W.cell? ⟨w1.heap.size,2,none⟩=some (.int .i64 (z:Int))∧W.cell? ⟨w1.heap.size,3,none⟩=some (.int .i64 (p:Int))∧W.cell? ⟨w1.heap.size,4,none⟩=some (.int .i64 (ge:Int))∧W.cell? ⟨w1.heap.size,13,none⟩=some (.int .i64 (m:Int))):=fun W hW=>by
  have h:=heapOld hW HZN.out
  exact⟨cellOf h rfl,cellOf h rfl,cellOf h rfl,cellOf h rfl,cellOf h rfl,cellOf h rfl⟩
 have hlim:¬9223372036854775807<6+T0.size:=by omega
 have HTB:Hid (∀W,Below W2.heap.size W2 W→TabOk W):=fun W hW=>HT.out.below (blN (blN HB0.out HB2.out) hW)
 have HI1:Hid (∀(W:World) (b:Nat),W.heap[b]? = some (.cells #[.int .i64 (l:Int),.int .i64 (p:Int),.int .i64 (ge:Int),.int .i64 (z:Int)] 3 (0,0))→Ints W (.slice (some ⟨b,0,none⟩) 4 4) [(l:Int),(p:Int),(ge:Int),(z:Int)]):=fun W b hW=>ints_block (o:=0) hW (fun j n hj=>by
  match j,hj with
  | 0,hj=>have e:(l:Int)=n:=by simpa using hj
          rw[←e]; rfl
  | 1,hj=>have e:(p:Int)=n:=by simpa using hj
          rw[←e]; rfl
  | 2,hj=>have e:(ge:Int)=n:=by simpa using hj
          rw[←e]; rfl
  | 3,hj=>have e:(z:Int)=n:=by simpa using hj
          rw[←e]; rfl
  | q+4,hj=>simp at hj) (by unfold maxLen; simp) rfl
 have HI2:Hid (∀W,Below W2.heap.size W2 W→Ints W (.slice (some ⟨w1.heap.size,5,none⟩) 8 8) [(d0:Int),(d1:Int),(d2:Int),(d3:Int),(d4:Int),(d5:Int),(d6:Int),(d7:Int)]):=fun W hW=>ints_block (o:=5) (heapOld hW HZN.out) (fun j n hj=>by
  match j,hj with
  | 0,hj=>have e:(d0:Int)=n:=by simpa using hj
          rw[←e]; rfl
  | 1,hj=>have e:(d1:Int)=n:=by simpa using hj
          rw[←e]; rfl
  | 2,hj=>have e:(d2:Int)=n:=by simpa using hj
          rw[←e]; rfl
  | 3,hj=>have e:(d3:Int)=n:=by simpa using hj
          rw[←e]; rfl
  | 4,hj=>have e:(d4:Int)=n:=by simpa using hj
          rw[←e]; rfl
  | 5,hj=>have e:(d5:Int)=n:=by simpa using hj
          rw[←e]; rfl
  | 6,hj=>have e:(d6:Int)=n:=by simpa using hj
          rw[←e]; rfl
  | 7,hj=>have e:(d7:Int)=n:=by simpa using hj
          rw[←e]; rfl
  | q+8,hj=>simp at hj) (by unfold maxLen; simp) rfl
 have HI3:Hid (∀(W:World) (b:Nat),W.heap[b]? = some (.cells #[.int .i64 (m:Int)] 3 (0,0))→Ints W (.slice (some ⟨b,0,none⟩) 1 1) [(m:Int)]):=fun W b hW=>ints_block (o:=0) hW (fun j n hj=>by
  match j,hj with
  | 0,hj=>have e:(m:Int)=n:=by simpa using hj
          rw[←e]; rfl
  | q+1,hj=>simp at hj) (by unfold maxLen; simp) rfl
 go_wp2_with fail
 go_region_held3 (fun W=>W.cell? ⟨w1.heap.size,0,none⟩=some (.int .i64 k)∧W.cell? ⟨w1.heap.size,1,none⟩=some (.int .i64 (l:Int))∧W.cell? ⟨w1.heap.size,2,none⟩=some (.int .i64 (z:Int))∧W.cell? ⟨w1.heap.size,3,none⟩=some (.int .i64 (p:Int))∧W.cell? ⟨w1.heap.size,4,none⟩=some (.int .i64 (ge:Int))∧W.cell? ⟨w1.heap.size,13,none⟩=some (.int .i64 (m:Int)))
  ((refine HZG.out _ ?_; repeat' first | with_reducible exact HB3.out | with_reducible exact HB4.out | with_reducible refine blD ?_ | with_reducible refine bl1 ?_ _))
  (first
    | (go_at_call 85
       refine(HKD.out _).mono ?_
       rintro e w3' ⟨rfl,hw3'⟩
       subst hw3'
       simp only)
    | (go_at_call 91
       refine(N1.out _ _ ?a1 ?a2).mono ?_
       case a1=>
        exact HI1.out _ _ (heapNew w3 _)
       case a2=>
        refine HTB.out _ ?_
        repeat' first | with_reducible exact HB3.out | with_reducible refine blD ?_ | with_reducible refine bl1 ?_ _
       rintro e w4 ⟨rfl,hbw4⟩
       have HB4:Hid (Below W2.heap.size W2 w4):=blN (by repeat' first | with_reducible exact HB3.out | with_reducible refine blD ?_ | with_reducible refine bl1 ?_ _) hbw4
       clear hbw4
       simp only))
 all_goals
  go_wp2_with fail
  go_region_held3 (fun W=>W.cell? ⟨w1.heap.size,0,none⟩=some (.int .i64 k)∧W.cell? ⟨w1.heap.size,1,none⟩=some (.int .i64 (l:Int))∧W.cell? ⟨w1.heap.size,2,none⟩=some (.int .i64 (z:Int))∧W.cell? ⟨w1.heap.size,3,none⟩=some (.int .i64 (p:Int))∧W.cell? ⟨w1.heap.size,4,none⟩=some (.int .i64 (ge:Int))∧W.cell? ⟨w1.heap.size,13,none⟩=some (.int .i64 (m:Int)))
   ((refine HZG.out _ ?_; repeat' first | with_reducible exact HB4.out | with_reducible exact HB5.out | with_reducible exact HB6.out | with_reducible refine blD ?_ | with_reducible refine bl1 ?_ _))
   (first
     | (go_at_call_of 91 (Value.string T2)
        refine(N2.out _ _ ?a1 ?a2).mono ?_
        case a1=>
         (refine HI2.out _ ?_; repeat' first | with_reducible exact HB4.out | with_reducible refine blD ?_ | with_reducible refine bl1 ?_ _)
        case a2=>
         refine HTB.out _ ?_
         repeat' first | with_reducible exact HB4.out | with_reducible refine blD ?_ | with_reducible refine bl1 ?_ _
        rintro e w5 ⟨rfl,hbw5⟩
        have HX5:=zh hbw5
        have HB5:Hid (Below W2.heap.size W2 w5):=blN (by repeat' first | with_reducible exact HB4.out | with_reducible refine blD ?_ | with_reducible refine bl1 ?_ _) hbw5
        clear hbw5
        simp only)
     | (go_at_call_of 91 (Value.string T3)
        refine(N3.out _ _ ?a1 ?a2).mono ?_
        case a1=>
         first | exact HI3.out _ _ (heapNew w5 _) | exact HI3.out _ _ (heapOld HX5.out (heapNew w4 _))
        case a2=>
         refine HTB.out _ ?_
         repeat' first | with_reducible exact HB5.out | with_reducible refine blD ?_ | with_reducible refine bl1 ?_ _
        rintro e w6 ⟨rfl,hbw6⟩
        have HB6:Hid (Below W2.heap.size W2 w6):=blN (by repeat' first | with_reducible exact HB5.out | with_reducible refine blD ?_ | with_reducible refine bl1 ?_ _) hbw6
        clear hbw6
        simp only))
  all_goals
   go_wp2
   first | exact HY.out _ (blN (blN HB0.out HB2.out) HB6.out) | (go_ret2; exact HY.out _ (blN (blN HB0.out HB2.out) HB6.out))
end
def q2z (o:Option (List UInt8)) (w:World) (e:Ending) (w':World):Prop:=
 ∃T,e = .returned (.tuple #[.string T,.bool o.isSome])∧(∀L,o=some L→T=ofL L)∧Below w.heap.size w w'
theorem q23z {o:Option (List UInt8)} {w:World} {e:Ending} {w':World} {T:ByteArray} {b:Bool} (h:e = .returned (.tuple #[.string T,.bool b])) (hb:b=o.isSome) (hT:∀L,o=some L→T=ofL L) (hw:Below w.heap.size w w'):q2z o w e w':=
 ⟨T,by rw[h,hb],hT,hw⟩
theorem what_at {g:Sp.Geom} {a:Int} (hg:g.ok) (h0:0≤a) (h1:a<g.size):g.what a=((g.kind a).1,(g.kind a).2,0):=by
 have:g.within a g.size=0:=by
  unfold Geom.within
  rw[if_pos hg,if_neg (by omega)]
 unfold Geom.what
 rw[if_pos this]
theorem heapNew2 (w:World) (o p:Obj):((w.alloc o).alloc p).heap[w.heap.size+1]? = some p:=by
 have h:=heapNew (w.alloc o) p
 have e:(w.alloc o).heap.size=w.heap.size+1:=by show(w.heap.push o).size=_; exact Array.size_push ..
 rw[e] at h
 exact h
def q6z (g:Sp.Geom) (a:Int) (s:ByteArray) (w:World) (e:Ending) (w':World):Prop:=
 e = .returned (.string (ofL (whatL g a s)))∧Below w.heap.size w w'
section
theorem dwhat_blank (w:World) (g:Sp.Geom) (a:Int) (s:ByteArray) (h:s=Sp.blank):Calls Tryz.prog 47 #[gV g,.int .i64 a,.string s] w (q6z g a s w):=by
 have hbl:=fun W:World=>fblank_any W
 have hY:∀w',Below w.heap.size w w'→q6z g a s w (.returned (.string ⟨#[98,108,97,110,107]⟩)) w':=fun w' hb=>⟨by unfold whatL; rw[if_pos h]; rfl,hb⟩
 obtain⟨Q,hQ⟩:=zx (q6z g a s w)
 rw[hQ] at hY ⊢
 have q:=list_eq s Sp.blank
 have f:(s.toList == Sp.blank.toList)=true:=q.trans (decide_eq_true h)
 clear q h hQ
 obtain⟨BK,hBK⟩:=zx (Sp.blank)
 rw[hBK] at hbl f
 clear hBK
 obtain⟨ga,gb,gc⟩:=g
 unfold gV
 have HBL:=zh hbl
 have HY:=zh hY
 clear hbl hY
 obtain⟨W0,hW0⟩:=zg w ga gb gc
 have hk:=g_keep hW0
 have HB0:=zh hk.1
 have HK:=zh hk.2
 clear hk
 go_enter Tryz.func47,Tryz.ntmps47
 go_wp2_with fail
 refine(HBL.out _).mono ?_
 rintro e w1 ⟨rfl,hb1⟩
 have HB1:=zh (blN (Below.refl _ _) hb1)
 clear hb1
 go_wp2
 first | exact HY.out _ (blN HB0.out HB1.out) | (go_ret2; exact HY.out _ (blN HB0.out HB1.out))
theorem dwhat_kind (w:World) (g:Sp.Geom) (a:Int) (s:ByteArray) (hg:g.ok) (h0:0≤a) (h1:a<g.size) (hs:s.size=64) (ht:TabOk w)
 (hnb:¬s=Sp.blank) (hns:¬isSuper s) (hnf:¬isFence s)
 (hle:∀W,Below w.heap.size w W→(g.kind a).1=2→Calls Tryz.prog 94 #[gV g,.int .i64 a,.string s] W (q2z (told g a s) W))
 (hli:∀W,Below w.heap.size w W→(g.kind a).1=6→Calls Tryz.prog 97 #[.string s] W (q2z (told g a s) W)) :
 Calls Tryz.prog 47 #[gV g,.int .i64 a,.string s] w (q6z g a s w):=by
 have hbl:=fun W:World=>fblank_any W
 have hd:=fun W:World=>sdecode_any W s
 unfold DecodedG superG superC at hd
 rw[if_neg hns,if_neg hns] at hd
 have he:=fun W:World=>sepochs_any W s
 unfold EpochsPost at he
 rw[if_neg hnf,if_neg hnf,if_neg hnf] at he
 have hgw:=fun W:World=>gwhat_any W g a
 rw[what_at hg h0 h1] at hgw
 have hmi:∀W,Below w.heap.size w W→(g.kind a).1=3→Calls Tryz.prog 95 #[.string (ofL wInodes),.string s,.int .i64 g.inodes] W (q2z (told g a s) W):=fun W hW hk=>(dmapped_any W wInodes s g.inodes (by decide) (ht.below hW)).mono fun e w' h=>q23z h.1 (by unfold told; rw[if_neg (by omega),if_pos hk]; by_cases q:mapC s g.inodes=0 <;> simp[q]) (fun L hL=>by
  unfold told at hL
  rw[if_neg (by omega),if_pos hk] at hL
  by_cases q:mapC s g.inodes=0
  ·rw[if_pos q] at hL
   unfold MapL
   rw[if_pos q]
   rw[←Option.some.inj hL]
  ·rw[if_neg q] at hL; exact absurd hL (by simp)) h.2
 have hmb:∀W,Below w.heap.size w W→(g.kind a).1=4→Calls Tryz.prog 95 #[.string (ofL wBlocks),.string s,.int .i64 g.blocks] W (q2z (told g a s) W):=fun W hW hk=>(dmapped_any W wBlocks s g.blocks (by decide) (ht.below hW)).mono fun e w' h=>q23z h.1 (by unfold told; rw[if_neg (by omega),if_neg (by omega),if_pos hk]; by_cases q:mapC s g.blocks=0 <;> simp[q]) (fun L hL=>by
  unfold told at hL
  rw[if_neg (by omega),if_neg (by omega),if_pos hk] at hL
  by_cases q:mapC s g.blocks=0
  ·rw[if_pos q] at hL
   unfold MapL
   rw[if_pos q]
   rw[←Option.some.inj hL]
  ·rw[if_neg q] at hL; exact absurd hL (by simp)) h.2
 have hno:∀W,Below w.heap.size w W→(g.kind a).1=5→Calls Tryz.prog 96 #[gV g,.string s] W (q2z (told g a s) W):=fun W hW hk=>(dnode_any W g s (ht.below hW)).mono fun e w' h=>q23z h.1 (by unfold told; rw[if_neg (by omega),if_neg (by omega),if_neg (by omega),if_pos hk]; by_cases q:isInode g s <;> simp[q,hg]) (fun L hL=>by
  unfold told at hL
  rw[if_neg (by omega),if_neg (by omega),if_neg (by omega),if_pos hk] at hL
  by_cases q:isInode g s
  ·rw[if_pos q] at hL
   rw[if_pos ⟨hg,q⟩,←Option.some.inj hL]
   rfl
  ·rw[if_neg q] at hL; exact absurd hL (by simp)) h.2
 have hot:(g.kind a).1≠2→(g.kind a).1≠3→(g.kind a).1≠4→(g.kind a).1≠5→(g.kind a).1≠6→told g a s=none:=fun x2 x3 x4 x5 x6=>by
  unfold told
  rw[if_neg x2,if_neg x3,if_neg x4,if_neg x5,if_neg x6]
 have hhex:=fun W:World=>dhex_any W s (by omega)
 have hwl:whatL g a s=(told g a s).getD (wRaw ++ hexL s.data.toList):=by
  unfold whatL
  rw[if_neg hnb,if_neg hns,if_neg hnf]
 have hcat:=text_cat wRaw (hexL s.data.toList)
 have hYr:told g a s=none→∀w',Below w.heap.size w w'→q6z g a s w (.returned (.string (ofL (wRaw ++ hexL s.data.toList)))) w':=fun h w' hb=>⟨by rw[hwl,h]; rfl,hb⟩
 have hYt:∀L,told g a s=some L→∀w',Below w.heap.size w w'→q6z g a s w (.returned (.string (ofL L))) w':=fun L h w' hb=>⟨by rw[hwl,h]; rfl,hb⟩
 have q:=list_eq s Sp.blank
 have f:(s.toList == Sp.blank.toList)=false:=q.trans (decide_eq_false hnb)
 obtain⟨Q,hQ⟩:=zx (q6z g a s w)
 rw[hQ] at hYr hYt ⊢
 obtain⟨BK,hBK⟩:=zx (Sp.blank)
 rw[hBK] at hbl f
 obtain⟨o,ho⟩:=zx (told g a s)
 rw[ho] at hle hli hmi hmb hno hot hYr hYt
 have hsz:(ofL (hexL s.data.toList)).size≤1000:=by
  rw[ofL_size,q26z]
  have:s.data.toList.length=64:=by rw[Array.length_toList]; exact hs
  omega
 obtain⟨HX,hHX⟩:=zx (ofL (hexL s.data.toList))
 obtain⟨RX,hRX⟩:=zx (ofL (wRaw ++ hexL s.data.toList))
 rw[hRX] at hYr hcat
 rw[hHX] at hhex hcat hsz
 have hlim:¬9223372036854775807<4+HX.size:=by omega
 obtain⟨k,hk⟩:=zx ((g.kind a).1)
 obtain⟨k2,hk2⟩:=zx ((g.kind a).2)
 rw[hk] at hle hli hmi hmb hno hot hgw
 rw[hk2] at hgw
 change (⟨#[114,97,119,32]⟩:ByteArray) ++ HX=RX at hcat
 clear q hnb hns hnf hQ hBK ho hHX hRX hk hk2 hwl hg h0 h1 ht hs
 obtain⟨ga,gb,gc⟩:=g
 unfold gV at hd hle hno hgw ⊢
 have hmi':∀W,Below w.heap.size w W→k=3→Calls Tryz.prog 95 #[.string ⟨#[105,110,111,100,101,115]⟩,.string s,.int .i64 gb] W (q2z o W):=hmi
 have hmb':∀W,Below w.heap.size w W→k=4→Calls Tryz.prog 95 #[.string ⟨#[98,108,111,99,107,115]⟩,.string s,.int .i64 gc] W (q2z o W):=hmb
 clear hmi hmb
 have HBL:=zh hbl
 have HD:=zh hd
 have HE:=zh he
 have HGW:=zh hgw
 have HLE:=zh hle
 have HNO:=zh hno
 have HLI:=zh hli
 have HMI':=zh hmi'
 have HMB':=zh hmb'
 have HOT:=zh hot
 have HHEX:=zh hhex
 have HYR:=zh hYr
 have HYT:=zh hYt
 clear hbl hd he hgw hle hno hli hmi' hmb' hot hhex hYr hYt
 obtain⟨W0,hW0⟩:=zg w ga gb gc
 have hk:=g_keep hW0
 have HB0:=zh hk.1
 have HK:=zh hk.2
 clear hk
 go_enter Tryz.func47,Tryz.ntmps47
 go_wp2_with fail
 refine(HBL.out _).mono ?_
 rintro e w1 ⟨rfl,hb1⟩
 have HB1:=zh (blN (Below.refl _ _) hb1)
 clear hb1
 go_wp2_with fail
 refine(HD.out _).mono ?_
 rintro e w2 ⟨rfl,hb2⟩
 have HB2:=zh (blN HB1.out hb2)
 clear hb2
 go_wp2_with fail
 refine(HE.out _).mono ?_
 rintro e w3 ⟨rfl,hb3⟩
 have HB3:=zh (blN (bl1 HB2.out _) hb3)
 clear hb3
 obtain⟨z0,z1,z2⟩:=HK.out (w3.alloc (.cells #[.int .i64 0,.int .i64 0] 35)) (bl1 HB3.out _)
 go_wp2_with fail
 clear z0 z1 z2
 refine(HGW.out _).mono ?_
 rintro e w5 ⟨rfl,hb5⟩
 have HB5:=zh (blN (bl1 HB3.out _) hb5)
 have HB6:=zh (blN HB0.out HB5.out)
 clear hb5
 obtain⟨z0,z1,z2⟩:=HK.out w5 HB5.out
 by_cases q2:k=2
 ·subst q2
  go_wp2_with fail
  clear z0 z1 z2
  refine(HLE.out _ HB6.out (by trivial)).mono ?_
  rintro e w7 ⟨T,rfl,hT,hb7⟩
  cases o with
  | none=>
    simp only[Option.isSome]
    go_wp2_with fail
    refine(HHEX.out _).mono ?_
    rintro e w8 ⟨rfl,hb8⟩
    go_wp2
    exact HYR.out (by trivial) _ (blN (blN HB6.out hb7) hb8)
  | some L=>
    simp only[Option.isSome]
    have hT':=hT L rfl
    subst hT'
    go_wp2
    exact HYT.out _ (by trivial) _ (blN HB6.out hb7)
 have g2:(k == 2)=false:=beq_eq_false_iff_ne.2 q2
 by_cases q3:k=3
 ·subst q3
  go_wp2_with fail
  clear z0 z1 z2
  refine(HMI'.out _ HB6.out (by trivial)).mono ?_
  rintro e w7 ⟨T,rfl,hT,hb7⟩
  cases o with
  | none=>
    simp only[Option.isSome]
    go_wp2_with fail
    refine(HHEX.out _).mono ?_
    rintro e w8 ⟨rfl,hb8⟩
    go_wp2
    exact HYR.out (by trivial) _ (blN (blN HB6.out hb7) hb8)
  | some L=>
    simp only[Option.isSome]
    have hT':=hT L rfl
    subst hT'
    go_wp2
    exact HYT.out _ (by trivial) _ (blN HB6.out hb7)
 have g3:(k == 3)=false:=beq_eq_false_iff_ne.2 q3
 by_cases q4:k=4
 ·subst q4
  go_wp2_with fail
  clear z0 z1 z2
  refine(HMB'.out _ HB6.out (by trivial)).mono ?_
  rintro e w7 ⟨T,rfl,hT,hb7⟩
  cases o with
  | none=>
    simp only[Option.isSome]
    go_wp2_with fail
    refine(HHEX.out _).mono ?_
    rintro e w8 ⟨rfl,hb8⟩
    go_wp2
    exact HYR.out (by trivial) _ (blN (blN HB6.out hb7) hb8)
  | some L=>
    simp only[Option.isSome]
    have hT':=hT L rfl
    subst hT'
    go_wp2
    exact HYT.out _ (by trivial) _ (blN HB6.out hb7)
 have g4:(k == 4)=false:=beq_eq_false_iff_ne.2 q4
 by_cases q5:k=5
 ·subst q5
  go_wp2_with fail
  clear z0 z1 z2
  refine(HNO.out _ HB6.out (by trivial)).mono ?_
  rintro e w7 ⟨T,rfl,hT,hb7⟩
  cases o with
  | none=>
    simp only[Option.isSome]
    go_wp2_with fail
    refine(HHEX.out _).mono ?_
    rintro e w8 ⟨rfl,hb8⟩
    go_wp2
    exact HYR.out (by trivial) _ (blN (blN HB6.out hb7) hb8)
  | some L=>
    simp only[Option.isSome]
    have hT':=hT L rfl
    subst hT'
    go_wp2
    exact HYT.out _ (by trivial) _ (blN HB6.out hb7)
 have g5:(k == 5)=false:=beq_eq_false_iff_ne.2 q5
 by_cases q6:k=6
 ·subst q6
  go_wp2_with fail
  clear z0 z1 z2
  refine(HLI.out _ HB6.out (by trivial)).mono ?_
  rintro e w7 ⟨T,rfl,hT,hb7⟩
  cases o with
  | none=>
    simp only[Option.isSome]
    go_wp2_with fail
    refine(HHEX.out _).mono ?_
    rintro e w8 ⟨rfl,hb8⟩
    go_wp2
    exact HYR.out (by trivial) _ (blN (blN HB6.out hb7) hb8)
  | some L=>
    simp only[Option.isSome]
    have hT':=hT L rfl
    subst hT'
    go_wp2
    exact HYT.out _ (by trivial) _ (blN HB6.out hb7)
 have g6:(k == 6)=false:=beq_eq_false_iff_ne.2 q6
 have ho:=HOT.out q2 q3 q4 q5 q6
 subst ho
 clear q2 q3 q4 q5 q6
 go_wp2_with fail
 refine(HHEX.out _).mono ?_
 rintro e w8 ⟨rfl,hb8⟩
 go_wp2
 exact HYR.out (by trivial) _ (blN HB6.out hb8)
theorem dwhat_super (w:World) (g:Sp.Geom) (a:Int) (s:ByteArray) (ht:TabOk w) (hnb:¬s=Sp.blank) (hsu:isSuper s) :
 Calls Tryz.prog 47 #[gV g,.int .i64 a,.string s] w (q6z g a s w):=by
 have hbl:=fun W:World=>fblank_any W
 have hd:=fun W:World=>sdecode_any W s
 unfold DecodedG superG superC at hd
 rw[if_pos hsu,if_pos hsu] at hd
 obtain⟨x,y,z,hx,hy,hz,hso⟩:∃x y z:Nat,x<256∧y<256∧z<256∧superOf s=⟨(x:Int),(y:Int),(z:Int)⟩:=⟨_,_,_,UInt8.toNat_lt _,UInt8.toNat_lt _,UInt8.toNat_lt _,rfl⟩
 rw[hso] at hd
 have hwl:whatL g a s=wSuper ++ listL [x,y,z]:=by
  unfold whatL
  rw[if_neg hnb,if_pos hsu,hso]
  rfl
 have hn:∀(W:World) (v:Value),Ints W v [(x:Int),(y:Int),(z:Int)]→TabOk W→Calls Tryz.prog 91 #[.string ⟨#[115,117,112,101,114]⟩,v] W fun e w'=>e = .returned (.string (ofL (wSuper ++ listL [x,y,z])))∧Below W.heap.size W w':=fun W v hv ht=>q34z W wSuper v [x,y,z] hv (by decide) (by simp) (by intro n hn; simp only[List.mem_cons,List.not_mem_nil,or_false] at hn; omega) ht
 have hI:∀(W:World) (b:Nat),W.heap[b]? = some (.cells #[.int .i64 (x:Int),.int .i64 (y:Int),.int .i64 (z:Int)] 3 (0,0))→Ints W (.slice (some ⟨b,0,none⟩) 3 3) [(x:Int),(y:Int),(z:Int)]:=fun W b hW=>ints_block (o:=0) hW (fun j n hj=>by
  match j,hj with
  | 0,hj=>have e:(x:Int)=n:=by simpa using hj
          rw[←e]; rfl
  | 1,hj=>have e:(y:Int)=n:=by simpa using hj
          rw[←e]; rfl
  | 2,hj=>have e:(z:Int)=n:=by simpa using hj
          rw[←e]; rfl
  | q+3,hj=>simp at hj) (by unfold maxLen; simp) rfl
 have hY:∀w',Below w.heap.size w w'→q6z g a s w (.returned (.string (ofL (wSuper ++ listL [x,y,z])))) w':=fun w' hb=>⟨by rw[hwl],hb⟩
 obtain⟨T,hT⟩:=zx (ofL (wSuper ++ listL [x,y,z]))
 rw[hT] at hn hY
 have q:=list_eq s Sp.blank
 have f:(s.toList == Sp.blank.toList)=false:=q.trans (decide_eq_false hnb)
 obtain⟨Q,hQ⟩:=zx (q6z g a s w)
 rw[hQ] at hY ⊢
 obtain⟨BK,hBK⟩:=zx (Sp.blank)
 rw[hBK] at hbl f
 have HT:=zh ht
 clear q hnb hsu hQ hBK hT hso hx hy hz hwl ht
 obtain⟨ga,gb,gc⟩:=g
 unfold gV at hd ⊢
 have HBL:=zh hbl
 have HD:=zh hd
 have HN:=zh hn
 have HI:=zh hI
 have HY:=zh hY
 clear hbl hd hn hI hY
 obtain⟨W0,hW0⟩:=zg w ga gb gc
 have hk:=g_keep hW0
 have HB0:=zh hk.1
 have HK:=zh hk.2
 clear hk
 go_enter Tryz.func47,Tryz.ntmps47
 go_wp2_with fail
 refine(HBL.out _).mono ?_
 rintro e w1 ⟨rfl,hb1⟩
 have HB1:=zh (blN (Below.refl _ _) hb1)
 clear hb1
 go_wp2_with fail
 refine(HD.out _).mono ?_
 rintro e w2 ⟨rfl,hb2⟩
 have HB2:=zh (blN HB1.out hb2)
 clear hb2
 go_wp2_with fail
 refine(HN.out _ _ ?a1 ?a2).mono ?_
 case a1=>exact HI.out _ _ (heapNew2 _ _ _)
 case a2=>exact HT.out.below (blN HB0.out (bl1 (bl1 HB2.out _) _))
 rintro e w3 ⟨rfl,hb3⟩
 go_wp2
 exact HY.out _ (blN (blN HB0.out (bl1 (bl1 HB2.out _) _)) hb3)
theorem dwhat_fence (w:World) (g:Sp.Geom) (a:Int) (s:ByteArray) (ht:TabOk w) (hnb:¬s=Sp.blank) (hns:¬isSuper s) (hfe:isFence s) :
 Calls Tryz.prog 47 #[gV g,.int .i64 a,.string s] w (q6z g a s w):=by
 have hbl:=fun W:World=>fblank_any W
 have hd:=fun W:World=>sdecode_any W s
 unfold DecodedG superG superC at hd
 rw[if_neg hns,if_neg hns] at hd
 have he:=fun W:World=>sepochs_any W s
 unfold EpochsPost at he
 rw[if_pos hfe,if_pos hfe,if_pos hfe] at he
 have hwl:whatL g a s=wFence ++ listL [numAt s 4 4,numAt s 8 4]:=by
  unfold whatL
  rw[if_neg hnb,if_neg hns,if_pos hfe]
 have hx:=numAt_lt s 4
 have hy:=numAt_lt s 8
 obtain⟨x,hx'⟩:=zx (numAt s 4 4)
 obtain⟨y,hy'⟩:=zx (numAt s 8 4)
 rw[hx'] at he hx hwl
 rw[hy'] at he hy hwl
 have hn:∀(W:World) (v:Value),Ints W v [(x:Int),(y:Int)]→TabOk W→Calls Tryz.prog 91 #[.string ⟨#[102,101,110,99,101]⟩,v] W fun e w'=>e = .returned (.string (ofL (wFence ++ listL [x,y])))∧Below W.heap.size W w':=fun W v hv ht=>q34z W wFence v [x,y] hv (by decide) (by simp) (by intro n hn; simp only[List.mem_cons,List.not_mem_nil,or_false] at hn; omega) ht
 have hI:∀(W:World) (b:Nat),W.heap[b]? = some (.cells #[.int .i64 (x:Int),.int .i64 (y:Int)] 35 (0,0))→Ints W (.slice (some ⟨b,0,none⟩) 2 2) [(x:Int),(y:Int)]:=fun W b hW=>ints_block (o:=0) hW (fun j n hj=>by
  match j,hj with
  | 0,hj=>have e:(x:Int)=n:=by simpa using hj
          rw[←e]; rfl
  | 1,hj=>have e:(y:Int)=n:=by simpa using hj
          rw[←e]; rfl
  | q+2,hj=>simp at hj) (by unfold maxLen; simp) rfl
 have hY:∀w',Below w.heap.size w w'→q6z g a s w (.returned (.string (ofL (wFence ++ listL [x,y])))) w':=fun w' hb=>⟨by rw[hwl],hb⟩
 obtain⟨T,hT⟩:=zx (ofL (wFence ++ listL [x,y]))
 rw[hT] at hn hY
 have q:=list_eq s Sp.blank
 have f:(s.toList == Sp.blank.toList)=false:=q.trans (decide_eq_false hnb)
 obtain⟨Q,hQ⟩:=zx (q6z g a s w)
 rw[hQ] at hY ⊢
 obtain⟨BK,hBK⟩:=zx (Sp.blank)
 rw[hBK] at hbl f
 have HT:=zh ht
 clear q hnb hns hfe hQ hBK hT hx hy hx' hy' hwl ht
 obtain⟨ga,gb,gc⟩:=g
 unfold gV at hd ⊢
 have HBL:=zh hbl
 have HD:=zh hd
 have HE:=zh he
 have HN:=zh hn
 have HI:=zh hI
 have HY:=zh hY
 clear hbl hd he hn hI hY
 obtain⟨W0,hW0⟩:=zg w ga gb gc
 have hk:=g_keep hW0
 have HB0:=zh hk.1
 have HK:=zh hk.2
 clear hk
 go_enter Tryz.func47,Tryz.ntmps47
 go_wp2_with fail
 refine(HBL.out _).mono ?_
 rintro e w1 ⟨rfl,hb1⟩
 have HB1:=zh (blN (Below.refl _ _) hb1)
 clear hb1
 go_wp2_with fail
 refine(HD.out _).mono ?_
 rintro e w2 ⟨rfl,hb2⟩
 have HB2:=zh (blN HB1.out hb2)
 clear hb2
 go_wp2_with fail
 refine(HE.out _).mono ?_
 rintro e w3 ⟨rfl,hb3⟩
 have HB3:=zh (blN (bl1 HB2.out _) hb3)
 clear hb3
 go_wp2_with fail
 refine(HN.out _ _ ?a1 ?a2).mono ?_
 case a1=>exact HI.out _ _ (heapNew _ _)
 case a2=>exact HT.out.below (blN HB0.out (bl1 HB3.out _))
 rintro e w4 ⟨rfl,hb4⟩
 go_wp2
 exact HY.out _ (blN (blN HB0.out (bl1 HB3.out _)) hb4)
end
theorem flat_le {α:Type} {f:α→List UInt8} {k:Nat}:∀l:List α,(∀x∈l,(f x).length≤k)→(l.flatMap f).length≤k*l.length
 | [],_=>by simp
 | x :: r,h=>by
   rw[List.flatMap_cons,List.length_append,List.length_cons,Nat.mul_succ]
   have h1:=h x (by simp)
   have h2:=flat_le r (fun y hy=>h y (List.mem_cons_of_mem _ hy))
   omega
theorem numL_lt:∀l:List UInt8,numL l<256 ^ l.length
 | []=>by simp[numL]
 | b :: r=>by
   have h:=numL_lt r
   have hb:=UInt8.toNat_lt b
   rw[numL,List.length_cons,Nat.pow_succ]
   omega
theorem q45z (s:ByteArray) (off:Nat) {b:Nat} (hb:b≤4):numAt s off b<9223372036854775808:=by
 have h:=numL_lt ((s.data.toList.drop off).take b)
 have hl:((s.data.toList.drop off).take b).length≤4:=by rw[List.length_take]; omega
 have h2:256 ^ ((s.data.toList.drop off).take b).length≤256 ^ 4:=Nat.pow_le_pow_right (by decide) hl
 unfold numAt
 have:(256:Nat) ^ 4=4294967296:=by decide
 omega
theorem mapw_le {word s:List UInt8} {n:Nat} (hw:word.length=6) (hn:n≤64):(word ++ listL (placesL s n)).length≤2000:=by
 have h1:=placesL_length s n
 have h2:=q19z (placesL s n) (fun x hx=>by
  unfold placesL at hx
  have:=(List.mem_filter.1 hx).1
  rw[List.mem_range] at this
  omega)
 rw[List.length_append]
 omega
theorem leasesL_le (s:ByteArray) {n:Nat} (hn:n≤16):(leasesL s n).length≤800:=by
 have h:=flat_le (f:=fun i=>32 :: (digitsL (ownerAt s i) ++ 46 :: digitsL (seqAt s i))) (k:=50) (List.range n) (fun i _=>by
  have h1:=q9z (q45z s (4*i) (b:=1) (by decide))
  have h2:=q9z (q45z s (4*i+1) (b:=3) (by decide))
  rw[List.length_cons,List.length_append,List.length_cons]
  show(digitsL (numAt s (4*i) 1)).length+((digitsL (numAt s (4*i+1) 3)).length+1)+1≤50
  omega)
 rw[List.length_range] at h
 unfold leasesL
 omega
theorem slotW_le (s:ByteArray) (i:Nat):(slotW (slotOf s i)).length≤100:=by
 unfold slotW
 split
 ·have h1:=q9z (q45z s (16*i) (b:=2) (by decide))
  have hl:(slotAt s i).length≤16:=by unfold slotAt; rw[List.length_take]; omega
  rw[List.length_append,List.length_cons,q26z]
  have h3:(slotOf s i).name.data.toList.length≤16:=by
   show(((slotAt s i).drop 3).take ((slotAt s i).getD 2 0).toNat).length≤16
   rw[List.length_take,List.length_drop]
   omega
  have h2:(digitsL (slotOf s i).inode.toNat).length≤19:=h1
  omega
 ·simp
theorem told_le {g:Sp.Geom} {a:Int} {s:ByteArray} (hg:g.ok) {L:List UInt8} (h:told g a s=some L):L.length≤3000:=by
 unfold told at h
 split at h
 ·split at h
  ·rw[←Option.some.inj h,List.length_append]
   have:=leasesL_le s (n:=leasesN g a) (by unfold leasesN; omega)
   have:wLeases.length=6:=rfl
   omega
  ·cases h
 split at h
 ·split at h
  ·rename_i hm
   have hz:=mapC_zero hm
   rw[←Option.some.inj h]
   have:=mapw_le (word:=wInodes) (s:=s.data.toList) (n:=g.inodes.toNat) rfl (by omega)
   omega
  ·cases h
 split at h
 ·split at h
  ·rename_i hm
   have hz:=mapC_zero hm
   rw[←Option.some.inj h]
   have:=mapw_le (word:=wBlocks) (s:=s.data.toList) (n:=g.blocks.toNat) rfl (by omega)
   omega
  ·cases h
 split at h
 ·split at h
  ·rename_i hi
   have hf:=hi.2.1
   obtain⟨_,_,_,_,_,_,_,_,_,_,_,hall⟩:=fits_num hg hf
   rw[←Option.some.inj h]
   have hkl:(kindL (inodeOf s).kind).length≤4:=by
    unfold kindL
    split
    ·decide
    ·split <;> decide
   have h1:=q19z [(inodeOf s).links.toNat,(inodeOf s).parent.toNat,(inodeOf s).gen.toNat,(inodeOf s).size.toNat] (by intro n hn; simp only[List.mem_cons,List.not_mem_nil,or_false] at hn; omega)
   have h2:=q19z ((inodeOf s).direct.map Int.toNat) (by
    intro n hn
    obtain⟨d,hd,rfl⟩:=List.mem_map.1 hn
    have:=hall d hd
    omega)
   have h3:=q19z [(inodeOf s).more.toNat] (by intro n hn; simp only[List.mem_singleton] at hn; omega)
   have h4:((inodeOf s).direct.map Int.toNat).length=8:=by rw[List.length_map]; unfold inodeOf; simp
   have h5:wInode.length=6:=rfl
   simp only[List.length_append,List.length_cons,List.length_nil] at h1 h3 ⊢
   omega
  ·cases h
 split at h
 ·split at h
  ·rw[←Option.some.inj h,List.length_append]
   have h1:=flat_le (f:=fun i=>32 :: slotW (slotOf s i)) (k:=101) (List.range 4) (fun i _=>by
    have:=slotW_le s i
    rw[List.length_cons]
    omega)
   rw[List.length_range] at h1
   have:wDir.length=3:=rfl
   omega
  ·cases h
 ·cases h
theorem whatL_le {g:Sp.Geom} {a:Int} {s:ByteArray} (hg:g.ok) (hs:s.size=64):(whatL g a s).length≤3000:=by
 have hl:s.data.toList.length=64:=by rw[Array.length_toList]; exact hs
 unfold whatL
 split
 ·decide
 split
 ·rw[List.length_append]
  have h1:∀i,byteAt s i<256:=fun i=>by
   have:=UInt8.toNat_lt (s.data.toList.getD i 0)
   unfold byteAt
   omega
  have h2:=q19z [(superOf s).groups.toNat,(superOf s).inodes.toNat,(superOf s).blocks.toNat] (by
   intro n hn
   have x4:=h1 4
   have x5:=h1 5
   have x6:=h1 6
   simp only[superOf,List.mem_cons,List.not_mem_nil,or_false] at hn
   omega)
  have:wSuper.length=5:=rfl
  simp only[List.length_cons,List.length_nil] at h2
  omega
 split
 ·rw[List.length_append]
  have h2:=q19z [numAt s 4 4,numAt s 8 4] (by
   intro n hn
   have x4:=numAt_lt s 4
   have x8:=numAt_lt s 8
   simp only[List.mem_cons,List.not_mem_nil,or_false] at hn
   omega)
  have:wFence.length=5:=rfl
  simp only[List.length_cons,List.length_nil] at h2
  omega
 ·cases h:told g a s with
  | none=>
    show(wRaw ++ hexL s.data.toList).length≤3000
    rw[List.length_append,q26z]
    have:wRaw.length=4:=rfl
    omega
  | some L=>exact told_le hg h
def TellLeased (g:Sp.Geom) (a:Int) (s:ByteArray) (w:World):Prop:=
 ∀W,Below w.heap.size w W→(g.kind a).1=2→Calls Tryz.prog 94 #[gV g,.int .i64 a,.string s] W (q2z (told g a s) W)
def TellListed (g:Sp.Geom) (a:Int) (s:ByteArray) (w:World):Prop:=
 ∀W,Below w.heap.size w W→(g.kind a).1=6→Calls Tryz.prog 97 #[.string s] W (q2z (told g a s) W)
theorem dwhat_of (w:World) (g:Sp.Geom) (a:Int) (s:ByteArray) (hg:g.ok) (h0:0≤a) (h1:a<g.size) (hs:s.size=64) (ht:TabOk w)
 (hle:TellLeased g a s w) (hli:TellListed g a s w) :
 Calls Tryz.prog 47 #[gV g,.int .i64 a,.string s] w (q6z g a s w):=by
 by_cases hb:s=Sp.blank
 ·exact dwhat_blank w g a s hb
 by_cases hu:isSuper s
 ·exact dwhat_super w g a s ht hb hu
 by_cases hf:isFence s
 ·exact dwhat_fence w g a s ht hb hu hf
 exact dwhat_kind w g a s hg h0 h1 hs ht hb hu hf hle hli
section
theorem dline_of (w:World) (g:Sp.Geom) (a:Nat) (s:ByteArray) (hg:g.ok) (h1:(a:Int)<g.size) (ha:a<9223372036854775808) (hs:s.size=64) (ht:TabOk w)
 (hle:TellLeased g a s w) (hli:TellListed g a s w) :
 Calls Tryz.prog 18 #[gV g,.int .i64 (a:Int),.string s] w fun e w'=>e = .returned (.string (ofL (lineL g a s)))∧Below w.heap.size w w':=by
 have hw:∀W,Below w.heap.size w W→Calls Tryz.prog 47 #[gV g,.int .i64 (a:Int),.string s] W (q6z g a s W):=fun W hW=>dwhat_of W g a s hg (by omega) h1 hs (ht.below hW) (fun W' hW'=>hle W' (blN hW hW')) (fun W' hW'=>hli W' (blN hW hW'))
 unfold q6z at hw
 have hn:=fun(W:World) (ht:TabOk W)=>q44z W a ha ht
 have hz1:(ofL (digitsL a)).size≤19:=by rw[ofL_size]; exact q9z ha
 have hz2:(ofL (whatL g a s)).size≤3000:=by rw[ofL_size]; exact whatL_le hg hs
 have hc1:=text_cat (digitsL a) [32]
 have hc2:=text_cat (digitsL a ++ [32]) (whatL g a s)
 have hz3:(ofL (digitsL a ++ [32])).size≤20:=by
  have:=q9z ha
  rw[ofL_size,List.length_append,List.length_singleton]
  omega
 have hY:∀w',Below w.heap.size w w'→(fun(e:Ending) (w':World)=>e = .returned (.string (ofL (lineL g a s)))∧Below w.heap.size w w') (.returned (.string (ofL (digitsL a ++ [32] ++ whatL g a s)))) w':=fun w' hb=>⟨by unfold lineL; rw[Int.toNat_natCast,List.append_assoc]; rfl,hb⟩
 obtain⟨Q,hQ⟩:∃Q,(fun(e:Ending) (w':World)=>e = .returned (.string (ofL (lineL g a s)))∧Below w.heap.size w w')=Q:=⟨_,rfl⟩
 rw[hQ] at hY ⊢
 obtain⟨D,hD⟩:=zx (ofL (digitsL a))
 obtain⟨X,hX⟩:=zx (ofL (whatL g a s))
 obtain⟨D2,hD2⟩:=zx (ofL (digitsL a ++ [32]))
 obtain⟨R,hR⟩:=zx (ofL (digitsL a ++ [32] ++ whatL g a s))
 rw[hD] at hn hz1 hc1
 rw[hX] at hw hz2 hc2
 rw[hD2] at hc1 hc2 hz3
 rw[hR] at hc2 hY
 change D ++ (⟨#[32]⟩:ByteArray)=D2 at hc1
 have hl1:¬9223372036854775807<D.size+1:=by omega
 have hl2:¬9223372036854775807<D2.size+X.size:=by omega
 have HT:=zh ht
 clear hD hX hD2 hR hQ hz1 hz2 hz3 hle hli hg h1 ha hs ht
 obtain⟨n,hna⟩:∃n:Int,(a:Int)=n:=⟨_,rfl⟩
 rw[hna] at hw hn ⊢
 clear hna
 obtain⟨ga,gb,gc⟩:=g
 unfold gV at hw ⊢
 have HW:=zh hw
 have HN:=zh hn
 have HY:=zh hY
 clear hw hn hY
 obtain⟨W0,hW0⟩:=zg w ga gb gc
 have hk:=g_keep hW0
 have HB0:=zh hk.1
 have HK:=zh hk.2
 clear hk
 go_enter Tryz.func18,Tryz.ntmps18
 go_wp2_with fail
 go_region_held3 (fun W=>W.cell? ⟨w.heap.size,0,none⟩=some (.int .i64 ga)∧W.cell? ⟨w.heap.size,1,none⟩=some (.int .i64 gb)∧W.cell? ⟨w.heap.size,2,none⟩=some (.int .i64 gc))
  ((refine HK.out _ ?_; repeat' first | with_reducible exact Below.refl _ _ | with_reducible exact HB1.out | with_reducible exact HB2.out | with_reducible refine blD ?_ | with_reducible refine bl1 ?_ _))
  (first
    | (go_at_call 16
       refine(HN.out _ ?a1).mono ?_
       case a1=>
        refine HT.out.below (blN HB0.out ?_)
        repeat' first | with_reducible exact Below.refl _ _ | with_reducible exact HB2.out | with_reducible refine blD ?_ | with_reducible refine bl1 ?_ _
       rintro e w1 ⟨rfl,hb1⟩
       have HB1:Hid (Below W0.heap.size W0 w1):=blN (by repeat' first | with_reducible exact Below.refl _ _ | with_reducible exact HB2.out | with_reducible refine blD ?_ | with_reducible refine bl1 ?_ _) hb1
       clear hb1
       simp only)
    | (go_at_call 47
       refine(HW.out _ ?a1).mono ?_
       case a1=>
        refine blN HB0.out ?_
        repeat' first | with_reducible exact Below.refl _ _ | with_reducible exact HB1.out | with_reducible refine blD ?_ | with_reducible refine bl1 ?_ _
       rintro e w2 ⟨rfl,hb2⟩
       have HB2:Hid (Below W0.heap.size W0 w2):=blN (by repeat' first | with_reducible exact Below.refl _ _ | with_reducible exact HB1.out | with_reducible refine blD ?_ | with_reducible refine bl1 ?_ _) hb2
       clear hb2
       simp only))
 all_goals
  go_wp2
  first | exact HY.out _ (blN HB0.out HB2.out) | exact HY.out _ (blN HB0.out HB1.out) | (go_ret2; first | exact HY.out _ (blN HB0.out HB2.out) | exact HY.out _ (blN HB0.out HB1.out))
end
