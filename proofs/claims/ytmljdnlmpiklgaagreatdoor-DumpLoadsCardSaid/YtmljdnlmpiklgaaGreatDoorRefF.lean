import Derived.Test.YtmljdnlmpiklgaaGreatDoorRefE
import Derived.Test.YtmljdnlmpiklgaaGreatDoorRefC
import Derived.Test.YtmljdnlmpiklgaaGreatDoorRefNodeD
import Derived.Test.YtmljdnlmpiklgaaGreatDoorDumpD
set_option maxRecDepth 20000
set_option maxHeartbeats 8000000
namespace Go.Proofs.YtmljdnlmpiklgaaGreatDoor
open Go Go.RowKit Txt Sp
theorem infoLeaseR:(Tryz.prog.info? 97).map (fun i=>(i.zero,i.size,i.bytes))=some (some (.agg #[.int .i64 0,.int .i64 0]),2,16):=by kernel_rfl
def q60z (base:Nat) (w:World) (v:Value) (l:List (Int×Int)):Prop:=OwnR 97 2 leaC base w v l
def leL (s:ByteArray) (k:Nat):List (Int×Int):=(List.range k).map (q22z s)
theorem leL_snoc (s:ByteArray) (k:Nat):leL s (k+1)=leL s k ++ [q22z s k]:=by
 unfold leL
 rw[List.range_succ,List.map_append,List.map_cons,List.map_nil]
theorem leL_len (s:ByteArray) (k:Nat):(leL s k).length=k:=by unfold leL; rw[List.length_map,List.length_range]
theorem leL_at (s:ByteArray) {n k:Nat} (h:k<n):(leL s n)[k]? = some (q22z s k):=by
 unfold leL
 rw[List.getElem?_map,List.getElem?_range h]
 rfl
theorem leaseOk_at (s:ByteArray) (i:Nat):leaseOk ((ownerAt s i:Int),(seqAt s i:Int))↔ownerAt s i≤2:=by
 have h:=Sp.numL_lt ((s.data.toList.drop (4*i+1)).take 3)
 have hl:((s.data.toList.drop (4*i+1)).take 3).length≤3:=by rw[List.length_take]; omega
 have h2:256 ^ ((s.data.toList.drop (4*i+1)).take 3).length≤256 ^ 3:=Nat.pow_le_pow_right (by decide) hl
 have h3:(256:Nat) ^ 3=16777216:=by decide
 have hq:seqAt s i≤16777215:=by unfold seqAt numAt; omega
 unfold leaseOk
 simp only
 constructor
 ·intro h; omega
 ·intro h; omega
section
theorem rleases_any (w:World) (g:Sp.Geom) (p:Nat) (s:ByteArray) (hg:g.ok) (hp:16*(p:Int)<g.regions) (hs:s.size=64) :
 Calls Tryz.prog 110 #[gV g,.int .i64 ((p:Int)+2),.string s] w (q2z (if isLeases g ((p:Int)+2) s then some (wLeases ++ leasesL s (leasesN g ((p:Int)+2))) else none) w):=by
 have hbd:=Geom.regions_bd hg
 obtain⟨R,hR⟩:∃R:Nat,g.regions=(R:Int):=⟨g.regions.toNat,by omega⟩
 obtain⟨f,hf⟩:=zx (16*p)
 obtain⟨n,hn⟩:=zx (min 16 (R-f))
 have hreg:=fun W:World=>rgregions_any W g
 rw[hR] at hreg hp hbd
 have hnn:leasesN g ((p:Int)+2)=n:=by unfold leasesN; rw[hR]; omega
 have hpf:((p:Int)+2-2)*16=(f:Int):=by omega
 have hmk:=fun W:World=>run_make_leas W R (by omega)
 have hget:=fun(W:World) (o b:Int)=>rget_any W s o b
 have hnu:=fun(W:World) (o:Nat) (h:o+3≤64)=>q33z W s o 3 (by decide) (by omega) (by omega)
 have hdg:=fun(W:World) (x:Nat) (hx:x<9223372036854775808)=>rdigits_any W x hx
 have hmay:=fun(W:World) (a b:Int)=>rtmay_any W a b
 have hisl:isLeases g ((p:Int)+2) s↔(∀i,i<n→ownerAt s i≤2)∧(s.data.toList.drop (4*n)).all (fun b=>b == 0)=true:=by
  unfold isLeases
  rw[hnn]
 rw[hnn]
 have HYes:Hid (isLeases g ((p:Int)+2) s→∀w',Below w.heap.size w w'→q2z (if isLeases g ((p:Int)+2) s then some (wLeases ++ leasesL s n) else none) w (.returned (.tuple #[.string (ofL (wLeases ++ leasesL s n)),.bool true])) w'):=fun h w' hb=>by
  rw[if_pos h]
  exact q23z rfl rfl (fun L hL=>by rw[Option.some.inj hL]) hb
 have HNo:Hid (¬isLeases g ((p:Int)+2) s→∀T w',Below w.heap.size w w'→q2z (if isLeases g ((p:Int)+2) s then some (wLeases ++ leasesL s n) else none) w (.returned (.tuple #[.string T,.bool false])) w'):=fun h T w' hb=>by
  rw[if_neg h]
  exact q23z rfl rfl (fun L hL=>absurd hL (by simp)) hb
 obtain⟨Q,hQ⟩:=zx (q2z (if isLeases g ((p:Int)+2) s then some (wLeases ++ leasesL s n) else none) w)
 rw[hQ] at HYes HNo ⊢
 rw[hisl] at HYes HNo
 have hfR:f<R:=by omega
 obtain⟨ga,gb,gc⟩:=g
 unfold gV at hreg ⊢
 have HR0:Hid ((⟨ga,gb,gc⟩:Sp.Geom).regions=(R:Int)):=hR
 have HN:=zh hn
 have HF:=zh hf
 have HG:=zh hg
 have HS:=zh hs
 clear hR hnn hQ hn hf hg hs hisl
 have HREG:=zh hreg
 have HMK:=zh hmk
 have HGET:=zh hget
 have HNU:=zh hnu
 have HDG:=zh hdg
 have HMAY:=zh hmay
 clear hreg hmk hget hnu hdg hmay
 obtain⟨W0,hW0⟩:=zg w ga gb gc
 have hk:=g_keep hW0
 have HB0:=zh hk.1
 have HK:=zh hk.2
 clear hk
 obtain⟨z0,z1,z2⟩:=HK.out W0 (Below.refl _ _)
 obtain⟨a,ha⟩:∃a:Int,(p:Int)+2=a:=⟨_,rfl⟩
 rw[ha]
 have e0:IntKind.i64.wrap (a-2)=(p:Int):=by rw[IntWalk.i64_in _ (by omega)]; omega
 have e1:IntKind.i64.wrap ((p:Int)*16)=(f:Int):=by rw[IntWalk.i64_in _ (by omega)]; omega
 clear ha hp hpf
 go_enter Tryz.func110,Tryz.ntmps110
 go_wp2_with fail
 refine(HREG.out _).mono ?_
 rintro e w1 ⟨rfl,hb1⟩
 have HB1:=zh (blN (Below.refl _ _) hb1)
 clear hb1
 clear z0 z1 z2
 have HSz:Hid (∀k,k≤16→(wLeases ++ leasesL s k).length≤1000):=fun k hk=>by
  have:=leasesL_le s hk
  have h6:wLeases.length=6:=rfl
  rw[List.length_append]
  omega
 have HW:Hid ((⟨#[108,101,97,115,101,115]⟩:ByteArray)=ofL (wLeases ++ leasesL s 0)):=rfl
 have HO0:Hid (q60z W0.heap.size w1 (.slice none 0 0) (leL s 0)):=OwnR.void _ _
 go_wp2
 go_loopw [9,10,12] (fun v t i wr=>∃k:Nat,k≤n∧i = .int .i64 (k:Int)∧t = .string (ofL (wLeases ++ leasesL s k))∧Hid (q60z W0.heap.size wr v (leL s k))∧Hid (Below W0.heap.size W0 wr)) (fun _ _ i _=>n-(intOf i).toNat)
 case atStart=>exact⟨0,Nat.zero_le _,rfl,congrArg Value.string HW.out,HO0,HB1⟩
 case round=>
  obtain⟨k,hk,rfl,rfl,HO,HB⟩:=hrel
  have hn16:n≤16:=by have:=HN.out; omega
  obtain⟨j,hj⟩:=zx (f+k)
  have ej:IntKind.i64.wrap ((f:Int)+(k:Int))=(j:Int):=by rw[IntWalk.i64_in _ (by omega)]; omega
  by_cases hlt:k<n
  ·have f1:decide ((k:Int)<16)=true:=decide_eq_true (by omega)
   have f2:(j:Int)<(R:Int):=by have:=HN.out; omega
   have f2n:j<R:=by omega
   obtain⟨o,ho⟩:=zx (4*k)
   obtain⟨o1,ho1⟩:=zx (4*k+1)
   have m1:IntKind.i64.wrap (4*(k:Int))=(o:Int):=by rw[IntWalk.i64_in _ (by omega)]; omega
   have m2:IntKind.i64.wrap ((o:Int)+1)=(o1:Int):=by rw[IntWalk.i64_in _ (by omega)]; omega
   obtain⟨g1,_,_⟩:=get_one HS.out (show k<16 by omega)
   rw[ho] at g1
   have c1:=fun W:World=>HGET.out W (o:Int) 1
   rw[g1] at c1
   have c2:∀W,Calls Tryz.prog 108 #[.string s,.int .i64 (o1:Int),.int .i64 3] W fun e w'=>e = .returned (.int .i64 (seqAt s k:Int))∧W=w':=fun W=>by
    have h:=HNU.out W o1 (by omega)
    unfold seqAt
    rw[ho1]
    exact h
   have hsn:=leasesL_snoc s k
   have hls:=leL_snoc s k
   rw[leaseAt_eq] at hls
   have hlo:ownerAt s k<9223372036854775808:=q45z s (4*k) (by decide)
   have hlq:seqAt s k<9223372036854775808:=q45z s (4*k+1) (by decide)
   have hlen:=leL_len s k
   obtain⟨ow,how⟩:=zx (ownerAt s k)
   obtain⟨sq,hsq⟩:=zx (seqAt s k)
   rw[how] at c1 hsn hls hlo
   rw[hsq] at c2 hsn hls hlq
   obtain⟨L,hL⟩:=zx (leL s k)
   rw[hL] at HO hls hlen
   have hlen16:L.length≤16:=by omega
   have HLS:=zh hls
   have HSN:=zh hsn
   have C1:=zh c1
   have C2:=zh c2
   have HLO:=zh hlo
   have HLQ:=zh hlq
   clear c1 c2 hlo hlq
   clear g1 how hsq hls hsn hL hlen ho ho1
   go_wp2_with fail
   refine(C1.out _).mono ?_
   rintro e w2 ⟨rfl,rfl⟩
   go_wp2_with fail
   refine(C2.out _).mono ?_
   rintro e w2 ⟨rfl,rfl⟩
   go_upto_region 10 with fail
   obtain⟨ia4,ib4,ic4,id4,ie4⟩:=info_parts infoLeaseR
   have hrow4:=HO.out
   unfold OwnR at hrow4
   have HRow4:=zh hrow4
   clear hrow4
   have HIb4:=zh ib4
   have HIc4:=zh ic4
   have HId4:=zh id4
   have HIe4:=zh ie4
   clear ib4 ic4 id4 ie4
   go_wp2_with (at_builtin; refine wpList_append_lies _ rfl _ _ _ rfl W0.heap.size 97 ia4 _ 2 16 Tryz.underlying62 HIb4.out HIc4.out HId4.out HIe4.out rfl (by decide) _ _ _ rfl (HRow4.out.alloc _) ⟨wr.heap.size,0,none⟩ 1 1 [.int .i64 (ow:Int),.int .i64 (sq:Int)] rfl rfl (World.news_of_block (cs:=#[.int .i64 (ow:Int),.int .i64 (sq:Int)]) (t:=97) (fr:=(0,0)) (heapNew wr _)) (by simp[Value.oneCell']) (by omega) ?c1 ?c2 ?c3 (wr.heap.size+1) (by simp) ?_)
   case c1=>unfold maxLen; omega
   case c2=>omega
   case c3=>have:=HB.out.size; first | (simp; done) | (simp; omega)
   intro g4 cap4 w4 hown4 hgrow4 hat4 hlt4
   have HO4:=zh (OwnR.snoc (f:=leaC) (x:=((ow:Int),(sq:Int))) hown4 rfl rfl)
   have HB4:Hid (Below W0.heap.size _ w4):=Below.grown (bl1 HB.out _) hgrow4 (bl1 HB.out _).size (fun q hq=>(HRow4.out.lt q hq).1)
   clear hown4 hgrow4 hat4 hlt4 HRow4
   have HO5:Hid (q60z W0.heap.size w4 (.slice (some ⟨g4,0,none⟩) (L.length+1) cap4) (leL s (k+1))):=by rw[HLS.out]; exact HO4.out
   clear HO4 C1 C2
   have hcat1:=text_cat [32] (digitsL ow)
   have hcat2:=text_cat (32 :: digitsL ow) [46]
   have hcat3:=text_cat (32 :: digitsL ow ++ [46]) (digitsL sq)
   have hcat4:=text_cat (wLeases ++ leasesL s k) (32 :: digitsL ow ++ [46] ++ digitsL sq)
   have hq:wLeases ++ leasesL s k ++ (32 :: digitsL ow ++ [46] ++ digitsL sq)=wLeases ++ leasesL s (k+1):=by
    rw[HSN.out]
    simp only[List.append_assoc,List.cons_append,List.nil_append]
   rw[hq] at hcat4
   have hz0:=HSz.out k (by omega)
   have hz1:=q9z HLO.out
   have hz2:=q9z HLQ.out
   have s1:(ofL (digitsL ow)).size≤19:=by rw[ofL_size]; exact hz1
   have s2:(ofL (32 :: digitsL ow)).size≤20:=by rw[ofL_size,List.length_cons]; omega
   have s3:(ofL (32 :: digitsL ow ++ [46])).size≤21:=by rw[ofL_size,List.length_append,List.length_cons,List.length_cons]; simp; omega
   have s4:(ofL (digitsL sq)).size≤19:=by rw[ofL_size]; exact hz2
   have s5:(ofL (32 :: digitsL ow ++ [46] ++ digitsL sq)).size≤40:=by rw[ofL_size,List.length_append,List.length_append,List.length_cons,List.length_cons]; simp; omega
   rw[←ofL_size] at hz0
   have n1:=fun(W:World)=>HDG.out W ow HLO.out
   have n2:=fun(W:World)=>HDG.out W sq HLQ.out
   obtain⟨D1,hD1⟩:=zx (ofL (digitsL ow))
   obtain⟨D2,hD2⟩:=zx (ofL (digitsL sq))
   obtain⟨X1,hX1⟩:=zx (ofL (32 :: digitsL ow))
   obtain⟨X2,hX2⟩:=zx (ofL (32 :: digitsL ow ++ [46]))
   obtain⟨X3,hX3⟩:=zx (ofL (32 :: digitsL ow ++ [46] ++ digitsL sq))
   obtain⟨A,hA⟩:=zx (ofL (wLeases ++ leasesL s k))
   obtain⟨C,hC⟩:=zx (ofL (wLeases ++ leasesL s (k+1)))
   change ofL [32] ++ ofL (digitsL ow)=ofL (32 :: digitsL ow) at hcat1
   rw[hD1,hX1] at hcat1
   rw[hX1,hX2] at hcat2
   rw[hX2,hD2,hX3] at hcat3
   rw[hA,hX3,hC] at hcat4
   rw[hA] at hz0 ⊢
   rw[hD1] at s1 n1
   rw[hX1] at s2
   rw[hX2] at s3
   rw[hD2] at s4 n2
   rw[hX3] at s5
   change (⟨#[32]⟩:ByteArray) ++ D1=X1 at hcat1
   change X1 ++ (⟨#[46]⟩:ByteArray)=X2 at hcat2
   have hl1:¬9223372036854775807<1+D1.size:=by omega
   have hl2:¬9223372036854775807<X1.size+1:=by omega
   have hl3:¬9223372036854775807<X2.size+D2.size:=by omega
   have hl4:¬9223372036854775807<A.size+X3.size:=by omega
   have HC:=zh hC
   have N1:=zh n1
   have N2:=zh n2
   clear n1 n2
   clear hA hC hD1 hD2 hX1 hX2 hX3 s1 s2 s3 s4 s5 hz0 hz1 hz2 hq
   go_wp2_with fail
   refine(N1.out _).mono ?_
   rintro e w5 ⟨rfl,hb5⟩
   have HB5:=zh (blN HB4.out hb5)
   have HO6:Hid (q60z W0.heap.size w5 (.slice (some ⟨g4,0,none⟩) (L.length+1) cap4) (leL s (k+1))):=OwnR.below HO5.out hb5
   clear HO5 hb5
   go_wp2_with fail
   refine(N2.out _).mono ?_
   rintro e w6 ⟨rfl,hb6⟩
   have HB6:=zh (blN HB5.out hb6)
   have HO7:Hid (q60z W0.heap.size w6 (.slice (some ⟨g4,0,none⟩) (L.length+1) cap4) (leL s (k+1))):=OwnR.below HO6.out hb6
   clear HO6 hb6
   go_wp2
   go_roundw
   case rel=>exact⟨k+1,by omega,by go_num,by rw[HC.out],HO7,HB6⟩
   case measure=>simp[intOf]; omega
  ·obtain rfl:k=n:=by omega
   obtain⟨wa,hwa⟩:∃W,W=wr:=⟨_,rfl⟩
   subst hwa
   have hv:Leases wa _ (leL s k):=OwnR.row (fun x _=>rfl) HO.out
   obtain⟨ad,m,cap,rfl,HM,hm2,HFa⟩:=RowAt.facts hv
   obtain rfl:k=m:=by have:=HM.out; rw[leL_len] at this; omega
   have hmk:=HMK.out wa
   obtain⟨W2,hW2⟩:=zx (wa.alloc (leasO (List.replicate R (0,0)) 97))
   have hr2:W2.heap[wa.heap.size]? = some (leasO (q3z s R f 0) 97):=by rw[leasedRow_zero s (by omega),←hW2]; exact heapNew wa _
   have HB2:Hid (Below wa.heap.size wa W2):=by rw[←hW2]; exact bl2 _
   have HR2:=zh hr2
   have HA0:Hid (∀i,i<0→ownerAt s i≤2):=fun i h=>absurd h (by omega)
   rw[hW2] at hmk
   have HZk:=zh (HSz.out k hn16)
   have hend:(decide ((k:Int)<16)=false∧¬k<16)∨(decide ((k:Int)<16)=true∧k<16∧decide ((j:Int)<(R:Int))=false∧¬j<R):=by
    have:=HN.out
    by_cases h:k<16
    ·exact Or.inr ⟨decide_eq_true (by omega),h,decide_eq_false (by omega),by omega⟩
    ·exact Or.inl ⟨decide_eq_false (by omega),h⟩
   clear hr2 hW2 hv HO HO0 HW HSz HDG HNU HGET HM hm2
   rcases hend with ⟨f1,f1n⟩ | ⟨f1,f1n,f2,f2n⟩
   all_goals
    go_wp2
    clear f1 f1n hmk
    try clear f2 f2n
    clear hj ej
    go_loopw [17] (fun i W=>∃q:Nat,q≤k∧i = .int .i64 (q:Int)∧Hid (∀i,i<q→ownerAt s i≤2)∧Hid (W.heap[wa.heap.size]? = some (leasO (q3z s R f q) 97))∧Hid (Below wa.heap.size wa W)) (fun i _=>k-(intOf i).toNat)
    case atStart=>exact⟨0,Nat.zero_le _,rfl,HA0,HR2,HB2⟩
    case round=>
     obtain⟨q,hq,rfl,HA,HR,HBq⟩:=hrel
     clear HA0 HR2 HB2
     by_cases hlt:q<k
     ·obtain⟨b,o,x,rfl,hb,hx,hc⟩:=HFa.out q hlt
      obtain rfl:q22z s q=x:=Option.some.inj ((leL_at s hlt).symm.trans hx)
      have c0:wr.cell? ⟨b,o+q*2,none⟩=some (.int .i64 (ownerAt s q:Int)):=(HBq.out.cell (p:=⟨b,o+q*2,none⟩) hb).trans (hc 0 _ rfl)
      have c1:wr.cell? ⟨b,o+q*2+1,none⟩=some (.int .i64 (seqAt s q:Int)):=(HBq.out.cell (p:=⟨b,o+q*2+1,none⟩) hb).trans (hc 1 _ rfl)
      have hq2:(q:Int)<(k:Int):=by omega
      have hm:=fun W:World=>HMAY.out W (ownerAt s q:Int) (seqAt s q:Int)
      obtain⟨j,hj⟩:=zx (f+q)
      have hjR:j<R:=by have:=HN.out; omega
      have hjR2:(j:Int)<(R:Int):=by omega
      have ej:IntKind.i64.wrap ((f:Int)+(q:Int))=(j:Int):=by rw[IntWalk.i64_in _ (by omega)]; omega
      have hls:=leasedRow_set s (R:=R) (f:=f) (k:=q) (by omega)
      rw[leaseAt_eq,hj] at hls
      have hlen:(q3z s R f q).length=R:=leasedRow_length (by omega)
      by_cases ho:ownerAt s q≤2
      ·rw[decide_eq_true ((leaseOk_at s q).2 ho)] at hm
       have HA2:Hid (∀i,i<q+1→ownerAt s i≤2):=fun i hi=>by
        by_cases h:i=q
        ·rw[h]; exact ho
        ·exact HA.out i (by omega)
       have HLS:=zh hls
       have HLen:=zh hlen
       obtain⟨ow,how⟩:=zx (ownerAt s q)
       obtain⟨sq,hsq⟩:=zx (seqAt s q)
       rw[how] at c0 hm
       rw[hsq] at c1 hm
       have hlx:=HLS.out
       rw[how,hsq] at hlx
       have HLX:=zh hlx
       have HM:=zh hm
       clear hm
       clear HLS hls hlen hc ho hlx how hsq hj
       go_wp2_with fail
       refine(HM.out _).mono ?_
       rintro e w4 ⟨rfl,hb4⟩
       have c0':w4.cell? ⟨b,o+q*2,none⟩=some (.int .i64 (ow:Int)):=(hb4.cell (p:=⟨b,o+q*2,none⟩) (Nat.lt_of_lt_of_le hb HBq.out.size)).trans c0
       have c1':w4.cell? ⟨b,o+q*2+1,none⟩=some (.int .i64 (sq:Int)):=(hb4.cell (p:=⟨b,o+q*2+1,none⟩) (Nat.lt_of_lt_of_le hb HBq.out.size)).trans c1
       have hr4:=heapOld hb4 HR.out
       have HB4:=zh (blN HBq.out hb4)
       obtain⟨x,hx⟩:∃x,(q3z s R f q)[j]? = some x:=⟨_,List.getElem?_eq_getElem (by rw[HLen.out]; exact hjR)⟩
       obtain⟨d0,d1⟩:=q52z hr4 hx
       have v0:w4.frozen? ⟨wa.heap.size,j*2,none⟩=false:=leas_free hr4
       have v1:w4.frozen? ⟨wa.heap.size,j*2+1,none⟩=false:=leas_free hr4
       have hs7:=leas_set2 hr4 (i:=j) (by rw[HLen.out]; exact hjR) ((ow:Int),(sq:Int))
       rw[HLX.out] at hs7
       have hb7:=(HB4.out.setCell (p:=⟨wa.heap.size,j*2,none⟩) (Nat.le_refl _) (.int .i64 (ow:Int))).setCell (p:=⟨wa.heap.size,j*2+1,none⟩) (Nat.le_refl _) (.int .i64 (sq:Int))
       obtain⟨W7,hW7⟩:=zx ((w4.setCell ⟨wa.heap.size,j*2,none⟩ (.int .i64 (ow:Int))).setCell ⟨wa.heap.size,j*2+1,none⟩ (.int .i64 (sq:Int)))
       rw[hW7] at hb7
       simp only[hW7] at hs7
       have HB7:=zh hb7
       have HS7:=zh hs7
       clear hr4 hx hs7 hb7 hb4 c0 c1
       go_wp2_with fail
       clear c0' c1' d0 d1 v0 v1
       go_roundw
       case rel=>exact⟨q+1,by omega,by go_num,HA2,HS7,HB7⟩
       case measure=>simp[intOf]; omega
      ·rw[decide_eq_false (fun h=>ho ((leaseOk_at s q).1 h))] at hm
       have HBad:=zh (HNo.out (fun h=>ho (h.1 q hlt)))
       obtain⟨ow,how⟩:=zx (ownerAt s q)
       obtain⟨sq,hsq⟩:=zx (seqAt s q)
       rw[how] at c0 hm
       rw[hsq] at c1 hm
       have HM:=zh hm
       clear hm
       clear hls hlen hc ho how hsq hj
       go_wp2_with fail
       refine(HM.out _).mono ?_
       rintro e w4 ⟨rfl,hb4⟩
       have HB4:=zh (blN HB0.out (blN HB.out (blN HBq.out hb4)))
       clear hb4 c0 c1
       go_wp2
       first | exact HBad.out _ _ HB4.out | (go_ret2; exact HBad.out _ _ HB4.out)
     ·obtain rfl:q=k:=by omega
      have hll:(q3z s R f q).length=R:=leasedRow_length (by have:=HN.out; omega)
      have hrow2:∀W,Below wr.heap.size wr W→Leases W (.slice (some ⟨wa.heap.size,0,none⟩) R R) (q3z s R f q):=fun W hW=>leas_row (heapOld hW HR.out) (by rw[hll]; unfold maxLen; omega) hll.symm
      have hen:=fun(W:World) (hW:Below wr.heap.size wr W)=>rtencode_any W ⟨ga,gb,gc⟩ _ _ (hrow2 W hW)
      unfold RTEnc gV at hen
      obtain⟨z0,z1,z2⟩:=HK.out wr (blN HB.out HBq.out)
      have hc:tableC ⟨ga,gb,gc⟩ (q3z s R f q)=0:=by
       unfold tableC
       rw[if_pos ⟨HG.out,by rw[hll]; exact HR0.out.symm⟩,if_pos (leasedRow_ok.2 HA.out)]
      unfold tableN at hen
      rw[hc,if_pos rfl] at hen
      have hpN:p<(Sp.Geom.tables ⟨ga,gb,gc⟩).toNat:=by
       unfold Sp.Geom.tables
       rw[HR0.out]
       have:=HF.out
       omega
      have htx:=tabB_at (n:=(Sp.Geom.tables ⟨ga,gb,gc⟩).toNat) (q3z s R f q) hpN
      rw[HF.out,leasedRow_sec HS.out HN.out.symm] at htx
      have hsame:=leased_same HS.out (show q≤16 by omega)
      obtain⟨X,hX⟩:=zx (ofL (s.data.toList.take (4*q) ++ zeros (64-4*q)))
      rw[hX] at htx hsame
      have fX:=list_eq X s
      have HFin:Hid (∀w',Below w.heap.size w w'→Q (.returned (.tuple #[.string (ofL (wLeases ++ leasesL s q)),.bool (decide (X=s))])) w'):=fun w' hb=>by
       by_cases h:X=s
       ·rw[decide_eq_true h]
        exact HYes.out ⟨HA.out,hsame.1 h⟩ w' hb
       ·rw[decide_eq_false h]
        exact HNo.out (fun h2=>h (hsame.2 h2.2)) _ w' hb
      obtain⟨tn,htn⟩:=zx ((Sp.Geom.tables ⟨ga,gb,gc⟩).toNat)
      rw[htn] at hpN htx hen
      have HTX:=zh htx
      have HEN:=zh hen
      have HPN:=zh hpN
      clear hen hpN
      clear htx hsame hX hc hll hrow2 htn
      go_wp2_with fail
      refine(HEN.out _ (Below.refl _ _)).mono ?_
      rintro e w8 ⟨v,rfl,hown8,hb8⟩
      clear z0 z1 z2
      have hown9:=(RTexts.own hown8).texts
      obtain⟨ad,N,cap,rfl,HN8,hn8,HF8⟩:=texts_facts hown9
      have hpN:p<N:=by rw[HN8.out,tabB_length]; exact HPN.out
      have hpN2:(p:Int)<(N:Int):=by omega
      obtain⟨b,o,x,rfl,hbb,hx,hcl⟩:=HF8.out p hpN
      obtain rfl:X=x:=Option.some.inj (HTX.out.symm.trans hx)
      have HB8:=zh (blN HB0.out (blN HB.out (blN HBq.out hb8)))
      clear hown8 hown9 hb8 hx HF8
      have HCell:Hid (∀W,Below w8.heap.size w8 W→W.cell? ⟨b,o+p,none⟩=some (.string X)):=fun W hW=>(hW.cell (p:=⟨b,o+p,none⟩) hbb).trans hcl
      clear hcl
      go_wp2_with fail
      go_region_held3 (fun W=>W.cell? ⟨b,o+p,none⟩=some (.string X))
       ((refine HCell.out _ ?_; repeat' first | with_reducible exact Below.refl _ _ | with_reducible refine blD ?_ | with_reducible refine bl1 ?_ _))
       (fail)
      all_goals
       go_wp2
       first | exact HFin.out _ (blD HB8.out) | (go_ret2; exact HFin.out _ (blD HB8.out))
end
theorem rnode_no {g:Sp.Geom} {s:ByteArray} {w w':World} (h:¬(g.ok∧isInode g s)) (hb:Below w.heap.size w w'):q2z (if g.ok∧isInode g s then some (nodeL (inodeOf s)) else none) w (.returned (.tuple #[.string ⟨#[]⟩,.bool false])) w':=by
 rw[if_neg h]
 exact q23z rfl rfl (fun L hL=>absurd hL (by simp)) hb
theorem rnode_yes {g:Sp.Geom} {s T:ByteArray} {w w':World} (h:g.ok∧isInode g s) (hT:ofL (nodeL (inodeOf s))=T) (hb:Below w.heap.size w w'):q2z (if g.ok∧isInode g s then some (nodeL (inodeOf s)) else none) w (.returned (.tuple #[.string T,.bool true])) w':=by
 rw[if_pos h]
 exact q23z rfl rfl (fun L hL=>by rw[←Option.some.inj hL,hT]) hb
section
theorem rinode_any (w:World) (g:Sp.Geom) (s:ByteArray):Calls Tryz.prog 112 #[gV g,.string s] w (q2z (if g.ok∧isInode g s then some (nodeL (inodeOf s)) else none) w):=by
 have hd:=fun W:World=>rndecode_any W g s
 unfold IDec at hd
 have hno:=fun(h:¬(g.ok∧isInode g s)) (w':World)=>rnode_no (w:=w) (w':=w') h
 by_cases hyes:g.ok∧isInode g s
 rotate_left
 ·have hcode:∃c,(if g.ok then(if isInode g s then(0:Int) else 60) else 4)=c∧c≠0:=by
   by_cases h1:g.ok
   ·rw[if_pos h1,if_neg (fun h2=>hyes ⟨h1,h2⟩)]; exact⟨60,rfl,by decide⟩
   ·rw[if_neg h1]; exact⟨4,rfl,by decide⟩
  obtain⟨c,hc,hc0⟩:=hcode
  rw[hc,if_neg hyes] at hd
  have HN:=zh (hno hyes)
  obtain⟨Q,hQ⟩:=zx (q2z (if g.ok∧isInode g s then some (nodeL (inodeOf s)) else none) w)
  rw[hQ] at HN ⊢
  have f1:(c == 0)=false:=beq_eq_false_iff_ne.2 hc0
  have f2:(c != 0)=true:=by simp[hc0]
  obtain⟨ga,gb,gc⟩:=g
  unfold gV nA iA at hd
  unfold gV
  have HD:=zh hd
  clear hd
  clear hyes hc hc0 hno hQ
  go_enter Tryz.func112,Tryz.ntmps112
  go_wp2_with fail
  refine(HD.out _).mono ?_
  rintro e w1 ⟨rfl,hb1⟩
  have HB1:=zh (blN (bl2 _) hb1)
  clear hb1
  go_wp2
  first | exact HN.out _ (bl1 HB1.out _) | (go_ret2; exact HN.out _ (bl1 HB1.out _))
 have hs:s.size=64:=hyes.2.1
 have hfit:=hyes.2.2.1
 have hB:=hyes.2.2.2
 have hg:=hyes.1
 have hcode:(if g.ok then(if isInode g s then(0:Int) else 60) else 4)=0:=by rw[if_pos hg,if_pos hyes.2]
 rw[hcode,if_pos hyes] at hd
 obtain⟨k,l,z,p,ge,d0,d1,d2,d3,d4,d5,d6,d7,m,hn⟩:∃k l z p ge d0 d1 d2 d3 d4 d5 d6 d7 m,inodeOf s=iN k l z p ge d0 d1 d2 d3 d4 d5 d6 d7 m:=⟨_,_,_,_,_,_,_,_,_,_,_,_,_,_,inodeOf_eq hs⟩
 have hyesP:=fun(T:ByteArray) (hT:ofL (nodeL (inodeOf s))=T) (w':World)=>rnode_yes (w:=w) (w':=w') hyes hT
 obtain⟨Q,hQ⟩:=zx (q2z (if g.ok∧isInode g s then some (nodeL (inodeOf s)) else none) w)
 rw[hQ] at hyesP ⊢
 rw[hn] at hd hfit hB hyesP
 obtain⟨a0,a1,a2,a3,a4,a5,a6,a7,a8,a9,a10,hall⟩:=fits_num hg hfit
 simp only[iN] at a0 a1 a2 a3 a4 a5 a6 a7 a8 a9 a10
 obtain⟨k,rfl⟩:∃q:Nat,k=(q:Int):=⟨k.toNat,by omega⟩
 obtain⟨l,rfl⟩:∃q:Nat,l=(q:Int):=⟨l.toNat,by omega⟩
 obtain⟨z,rfl⟩:∃q:Nat,z=(q:Int):=⟨z.toNat,by omega⟩
 obtain⟨p,rfl⟩:∃q:Nat,p=(q:Int):=⟨p.toNat,by omega⟩
 obtain⟨ge,rfl⟩:∃q:Nat,ge=(q:Int):=⟨ge.toNat,by omega⟩
 obtain⟨m,rfl⟩:∃q:Nat,m=(q:Int):=⟨m.toNat,by omega⟩
 obtain⟨e0,h0⟩:=hall d0 (by simp[iN])
 obtain⟨d0,rfl⟩:∃q:Nat,d0=(q:Int):=⟨d0.toNat,by omega⟩
 obtain⟨e1,h1⟩:=hall d1 (by simp[iN])
 obtain⟨d1,rfl⟩:∃q:Nat,d1=(q:Int):=⟨d1.toNat,by omega⟩
 obtain⟨e2,h2⟩:=hall d2 (by simp[iN])
 obtain⟨d2,rfl⟩:∃q:Nat,d2=(q:Int):=⟨d2.toNat,by omega⟩
 obtain⟨e3,h3⟩:=hall d3 (by simp[iN])
 obtain⟨d3,rfl⟩:∃q:Nat,d3=(q:Int):=⟨d3.toNat,by omega⟩
 obtain⟨e4,h4⟩:=hall d4 (by simp[iN])
 obtain⟨d4,rfl⟩:∃q:Nat,d4=(q:Int):=⟨d4.toNat,by omega⟩
 obtain⟨e5,h5⟩:=hall d5 (by simp[iN])
 obtain⟨d5,rfl⟩:∃q:Nat,d5=(q:Int):=⟨d5.toNat,by omega⟩
 obtain⟨e6,h6⟩:=hall d6 (by simp[iN])
 obtain⟨d6,rfl⟩:∃q:Nat,d6=(q:Int):=⟨d6.toNat,by omega⟩
 obtain⟨e7,h7⟩:=hall d7 (by simp[iN])
 obtain⟨d7,rfl⟩:∃q:Nat,d7=(q:Int):=⟨d7.toNat,by omega⟩
 have hen:=fun W:World=>rntext_any W k l z p ge d0 d1 d2 d3 d4 d5 d6 d7 m (by omega) (by omega)
 rw[hB] at hen
 have hline:nodeL (iN k l z p ge d0 d1 d2 d3 d4 d5 d6 d7 m)=wInode ++ kindL k ++ listL [l,p,ge,z] ++ listL [d0,d1,d2,d3,d4,d5,d6,d7] ++ listL [m]:=rfl
 rw[hline] at hyesP
 have hkl:(kindL k).length≤4:=by
  unfold kindL
  split
  ·decide
  ·split <;> decide
 have hcat:=text_cat wInode (kindL k)
 have hb1:(ofL (kindL k)).size≤4:=by rw[ofL_size]; exact hkl
 have hq:∀L:List Nat,(∀n∈L,n<65536)→(listL L).length≤20*L.length:=fun L h=>q19z L (fun n hn=>by have:=h n hn; omega)
 have hq1:=hq [l,p,ge,z] (by intro n hn; simp only[List.mem_cons,List.not_mem_nil,or_false] at hn; omega)
 have hq2:=hq [d0,d1,d2,d3,d4,d5,d6,d7] (by intro n hn; simp only[List.mem_cons,List.not_mem_nil,or_false] at hn; omega)
 have hsz1:(wInode ++ kindL k ++ listL [l,p,ge,z]).length≤100:=by
  rw[List.length_append,List.length_append]
  have:wInode.length=6:=rfl
  have:[l,p,ge,z].length=4:=rfl
  omega
 have hsz2:(wInode ++ kindL k ++ listL [l,p,ge,z] ++ listL [d0,d1,d2,d3,d4,d5,d6,d7]).length≤300:=by
  rw[List.length_append]
  have:[d0,d1,d2,d3,d4,d5,d6,d7].length=8:=rfl
  omega
 have n1:=fun(W:World) (v:Value) (hv:Ints W v [(l:Int),(p:Int),(ge:Int),(z:Int)])=>q49z W v [l,p,ge,z] hv (by simp) (by intro n hn; simp only[List.mem_cons,List.not_mem_nil,or_false] at hn; omega)
 have n2:=fun(W:World) (v:Value) (hv:Ints W v [(d0:Int),(d1:Int),(d2:Int),(d3:Int),(d4:Int),(d5:Int),(d6:Int),(d7:Int)])=>q49z W v [d0,d1,d2,d3,d4,d5,d6,d7] hv (by simp) (by intro n hn; simp only[List.mem_cons,List.not_mem_nil,or_false] at hn; omega)
 have n3:=fun(W:World) (v:Value) (hv:Ints W v [(m:Int)])=>q49z W v [m] hv (by simp) (by intro n hn; simp only[List.mem_singleton] at hn; omega)
 have hq3:=hq [m] (by intro n hn; simp only[List.mem_singleton] at hn; omega)
 have hcat2:=text_cat (wInode ++ kindL k) (listL [l,p,ge,z])
 have hcat3:=text_cat (wInode ++ kindL k ++ listL [l,p,ge,z]) (listL [d0,d1,d2,d3,d4,d5,d6,d7])
 have hcat4:=text_cat (wInode ++ kindL k ++ listL [l,p,ge,z] ++ listL [d0,d1,d2,d3,d4,d5,d6,d7]) (listL [m])
 have hb2:(ofL (wInode ++ kindL k)).size≤10:=by rw[ofL_size,List.length_append]; have:wInode.length=6:=rfl; omega
 rw[←ofL_size] at hsz1 hsz2 hq1 hq2 hq3
 change _≤80 at hq1
 change _≤160 at hq2
 change _≤20 at hq3
 have hkd:=fun W:World=>rkind_any W k
 obtain⟨T0,hT0⟩:=zx (ofL (kindL k))
 obtain⟨T1,hT1⟩:=zx (ofL (wInode ++ kindL k))
 obtain⟨T2,hT2⟩:=zx (ofL (wInode ++ kindL k ++ listL [l,p,ge,z]))
 obtain⟨T3,hT3⟩:=zx (ofL (wInode ++ kindL k ++ listL [l,p,ge,z] ++ listL [d0,d1,d2,d3,d4,d5,d6,d7]))
 obtain⟨T4,hT4⟩:=zx (ofL (wInode ++ kindL k ++ listL [l,p,ge,z] ++ listL [d0,d1,d2,d3,d4,d5,d6,d7] ++ listL [m]))
 obtain⟨L1,hL1⟩:=zx (ofL (listL [l,p,ge,z]))
 obtain⟨L2,hL2⟩:=zx (ofL (listL [d0,d1,d2,d3,d4,d5,d6,d7]))
 obtain⟨L3,hL3⟩:=zx (ofL (listL [m]))
 have HY:=zh (hyesP T4 hT4)
 rw[hT0] at hkd hb1 hcat
 rw[hT1] at hcat hcat2 hb2
 rw[hT2] at hcat2 hcat3 hsz1
 rw[hT3] at hcat3 hcat4 hsz2
 rw[hT4] at hcat4
 rw[hL1] at n1 hcat2 hq1
 rw[hL2] at n2 hcat3 hq2
 rw[hL3] at n3 hcat4 hq3
 have g1:¬9223372036854775807<6+T0.size:=by omega
 have g2:¬9223372036854775807<T1.size+L1.size:=by omega
 have g3:¬9223372036854775807<T2.size+L2.size:=by omega
 have g4:¬9223372036854775807<T3.size+L3.size:=by omega
 change (⟨#[105,110,111,100,101,32]⟩:ByteArray) ++ T0=T1 at hcat
 have fs:(s.toList == s.toList)=true:=beq_self_eq_true _
 obtain⟨ga,gb,gc⟩:=g
 unfold gV nA iA iN at hd
 unfold iA at hen
 unfold gV
 simp only[List.getD_cons_zero,List.getD_cons_succ] at hd
 have HD:=zh hd
 have HEN:=zh hen
 have N1:=zh n1
 have N2:=zh n2
 have N3:=zh n3
 have HKD:=zh hkd
 clear hd hen n1 n2 n3 hkd
 clear hs hfit hB hg hcode hn hyesP hyes a0 a1 a2 a3 a4 a5 a6 a7 a8 a9 a10 hall hline hkl hq hq1 hq2 hq3 hsz1 hsz2 hL1 hL2 hL3 hb1 hb2 hT0 hT1 hT2 hT3 hT4 hQ hno e0 e1 e2 e3 e4 e5 e6 e7 h0 h1 h2 h3 h4 h5 h6 h7
 obtain⟨W0,hW0⟩:=zg w ga gb gc
 have hk:=g_keep hW0
 have HB0:=zh hk.1
 have HK:=zh hk.2
 clear hk
 obtain⟨z0,z1,z2⟩:=HK.out W0 (Below.refl _ _)
 go_enter Tryz.func112,Tryz.ntmps112
 go_wp2_with fail
 clear z0 z1 z2
 refine(HD.out _).mono ?_
 rintro e w1 ⟨rfl,hbw1⟩
 have HB1:Hid (Below W0.heap.size W0 w1):=hbw1
 obtain⟨W2,hW2⟩:=zx (w1.alloc (.cells #[.int .i64 (k:Int),.int .i64 (l:Int),.int .i64 (z:Int),.int .i64 (p:Int),.int .i64 (ge:Int),.int .i64 (d0:Int),.int .i64 (d1:Int),.int .i64 (d2:Int),.int .i64 (d3:Int),.int .i64 (d4:Int),.int .i64 (d5:Int),.int .i64 (d6:Int),.int .i64 (d7:Int),.int .i64 (m:Int)] 71))
 have HB2:Hid (Below W0.heap.size W0 W2):=by rw[←hW2]; exact bl1 HB1.out _
 have hzn:W2.heap[w1.heap.size]? = some (.cells #[.int .i64 (k:Int),.int .i64 (l:Int),.int .i64 (z:Int),.int .i64 (p:Int),.int .i64 (ge:Int),.int .i64 (d0:Int),.int .i64 (d1:Int),.int .i64 (d2:Int),.int .i64 (d3:Int),.int .i64 (d4:Int),.int .i64 (d5:Int),.int .i64 (d6:Int),.int .i64 (d7:Int),.int .i64 (m:Int)] 71 (0,0)):=by rw[←hW2]; exact heapNew w1 _
 have HZN:=zh hzn
 have HB2b:Hid (Below W2.heap.size W2 W2):=Below.refl _ _
 obtain⟨z0,z1,z2⟩:=HK.out W2 HB2.out
 clear hbw1 hzn
 have y0:=zc 0 (heapOld HB2b.out HZN.out)
 have y1:=zc 1 (heapOld HB2b.out HZN.out)
 have y2:=zc 2 (heapOld HB2b.out HZN.out)
 have y3:=zc 3 (heapOld HB2b.out HZN.out)
 have y4:=zc 4 (heapOld HB2b.out HZN.out)
 have y5:=zc 5 (heapOld HB2b.out HZN.out)
 have y6:=zc 6 (heapOld HB2b.out HZN.out)
 have y7:=zc 7 (heapOld HB2b.out HZN.out)
 have y8:=zc 8 (heapOld HB2b.out HZN.out)
 have y9:=zc 9 (heapOld HB2b.out HZN.out)
 have y10:=zc 10 (heapOld HB2b.out HZN.out)
 have y11:=zc 11 (heapOld HB2b.out HZN.out)
 have y12:=zc 12 (heapOld HB2b.out HZN.out)
 have y13:=zc 13 (heapOld HB2b.out HZN.out)
 go_wp2_with fail
 clear z0 z1 z2 y0 y1 y2 y3 y4 y5 y6 y7 y8 y9 y10 y11 y12 y13 hW2 HB2b
 refine(HEN.out _).mono ?_
 rintro e w3 ⟨rfl,hbw3⟩
 have HB3:Hid (Below W2.heap.size W2 w3):=hbw3
 clear hbw3
 have HZG:Hid (∀W,Below W2.heap.size W2 W→W.cell? ⟨w1.heap.size,0,none⟩=some (.int .i64 (k:Int))∧W.cell? ⟨w1.heap.size,1,none⟩=some (.int .i64 (l:Int))∧W.cell? ⟨w1.heap.size,2,none⟩=some (.int .i64 (z:Int))∧W.cell? ⟨w1.heap.size,3,none⟩=some (.int .i64 (p:Int))∧W.cell? ⟨w1.heap.size,4,none⟩=some (.int .i64 (ge:Int))∧W.cell? ⟨w1.heap.size,13,none⟩=some (.int .i64 (m:Int))):=fun W hW=>by
  have h:=heapOld hW HZN.out
  exact⟨cellOf h rfl,cellOf h rfl,cellOf h rfl,cellOf h rfl,cellOf h rfl,cellOf h rfl⟩
 have HI1:Hid (∀(W:World) (b:Nat),W.heap[b]? = some (.cells #[.int .i64 (l:Int),.int .i64 (p:Int),.int .i64 (ge:Int),.int .i64 (z:Int)] 3 (0,0))→Ints W (.slice (some ⟨b,0,none⟩) 4 4) [(l:Int),(p:Int),(ge:Int),(z:Int)]):=fun W b hW=>ints_block (o:=0) hW (fun j n hj=>by
  match j,hj with
  | 0,hj=>have e:(l:Int)=n:=by simpa using hj
          rw[←e]; rfl
  | 1,hj=>have e:(p:Int)=n:=by simpa using hj
          rw[←e]; rfl
  | 2,hj=>have e:(ge:Int)=n:=by simpa using hj
          rw[←e]; rfl
  | 3,hj=>have e:(z:Int)=n:=by simpa using hj
          rw[←e]; rfl
  | q+4,hj=>simp at hj) (by unfold maxLen; simp) rfl
 have HI2:Hid (∀W,Below W2.heap.size W2 W→Ints W (.slice (some ⟨w1.heap.size,5,none⟩) 8 8) [(d0:Int),(d1:Int),(d2:Int),(d3:Int),(d4:Int),(d5:Int),(d6:Int),(d7:Int)]):=fun W hW=>ints_block (o:=5) (heapOld hW HZN.out) (fun j n hj=>by
  match j,hj with
  | 0,hj=>have e:(d0:Int)=n:=by simpa using hj
          rw[←e]; rfl
  | 1,hj=>have e:(d1:Int)=n:=by simpa using hj
          rw[←e]; rfl
  | 2,hj=>have e:(d2:Int)=n:=by simpa using hj
          rw[←e]; rfl
  | 3,hj=>have e:(d3:Int)=n:=by simpa using hj
          rw[←e]; rfl
  | 4,hj=>have e:(d4:Int)=n:=by simpa using hj
          rw[←e]; rfl
  | 5,hj=>have e:(d5:Int)=n:=by simpa using hj
          rw[←e]; rfl
  | 6,hj=>have e:(d6:Int)=n:=by simpa using hj
          rw[←e]; rfl
  | 7,hj=>have e:(d7:Int)=n:=by simpa using hj
          rw[←e]; rfl
  | q+8,hj=>simp at hj) (by unfold maxLen; simp) rfl
 have HI3:Hid (∀(W:World) (b:Nat),W.heap[b]? = some (.cells #[.int .i64 (m:Int)] 3 (0,0))→Ints W (.slice (some ⟨b,0,none⟩) 1 1) [(m:Int)]):=fun W b hW=>ints_block (o:=0) hW (fun j n hj=>by
  match j,hj with
  | 0,hj=>have e:(m:Int)=n:=by simpa using hj
          rw[←e]; rfl
  | q+1,hj=>simp at hj) (by unfold maxLen; simp) rfl
 go_wp2_with fail
 have HC1:Hid (∀(W:World) (b:Nat),W.heap[b]? = some (.cells #[.int .i64 (l:Int),.int .i64 (p:Int),.int .i64 (ge:Int),.int .i64 (z:Int)] 3 (0,0))→Calls Tryz.prog 58 #[.slice (some ⟨b,0,none⟩) 4 4] W fun e w'=>e = .returned (.string L1)∧Below W.heap.size W w'):=fun W b hW=>N1.out W _ (HI1.out W b hW)
 have HC2:Hid (∀(W:World),Below W2.heap.size W2 W→Calls Tryz.prog 58 #[.slice (some ⟨w1.heap.size,5,none⟩) 8 8] W fun e w'=>e = .returned (.string L2)∧Below W.heap.size W w'):=fun W hW=>N2.out W _ (HI2.out W hW)
 have HC3:Hid (∀(W:World) (b:Nat),W.heap[b]? = some (.cells #[.int .i64 (m:Int)] 3 (0,0))→Calls Tryz.prog 58 #[.slice (some ⟨b,0,none⟩) 1 1] W fun e w'=>e = .returned (.string L3)∧Below W.heap.size W w'):=fun W b hW=>N3.out W _ (HI3.out W b hW)
 clear HI1 HI2 HI3 N1 N2 N3
 go_region_held3 (fun W=>W.cell? ⟨w1.heap.size,0,none⟩=some (.int .i64 (k:Int))∧W.cell? ⟨w1.heap.size,1,none⟩=some (.int .i64 (l:Int))∧W.cell? ⟨w1.heap.size,2,none⟩=some (.int .i64 (z:Int))∧W.cell? ⟨w1.heap.size,3,none⟩=some (.int .i64 (p:Int))∧W.cell? ⟨w1.heap.size,4,none⟩=some (.int .i64 (ge:Int))∧W.cell? ⟨w1.heap.size,13,none⟩=some (.int .i64 (m:Int)))
  ((refine HZG.out _ ?_; repeat' first | with_reducible exact HB3.out | with_reducible exact HB4.out | with_reducible exact HB5.out | with_reducible exact HB6.out | with_reducible refine blD ?_ | with_reducible refine bl1 ?_ _))
  (first
    | (go_at_call 151
       refine(HKD.out _).mono ?_
       rintro e w3' ⟨rfl,hw3'⟩
       subst hw3'
       simp only)
    | (go_at_call 58
       with_reducible refine(HC1.out _ _ ?a1).mono ?_
       case a1=>(repeat' first | with_reducible exact heapNew _ _ | with_reducible exact heapNew2 _ _ _ | with_reducible refine heapOld (bl2 _) ?_ | with_reducible refine heapOld (blD (Below.refl _ _)) ?_)
       rintro e w4 ⟨rfl,hbw4⟩
       have HX4:=zh hbw4
       have HB4:Hid (Below W2.heap.size W2 w4):=blN (by repeat' first | with_reducible exact HB3.out | with_reducible refine blD ?_ | with_reducible refine bl1 ?_ _) hbw4
       clear hbw4
       simp only)
    | (go_at_call 58
       with_reducible refine(HC2.out _ ?a1).mono ?_
       case a1=>(repeat' first | with_reducible exact HB4.out | with_reducible refine blD ?_ | with_reducible refine bl1 ?_ _)
       rintro e w5 ⟨rfl,hbw5⟩
       have HX5:=zh hbw5
       have HB5:Hid (Below W2.heap.size W2 w5):=blN (by repeat' first | with_reducible exact HB4.out | with_reducible refine blD ?_ | with_reducible refine bl1 ?_ _) hbw5
       clear hbw5
       simp only)
    | (go_at_call 58
       with_reducible refine(HC3.out _ _ ?a1).mono ?_
       case a1=>(repeat' first | with_reducible exact heapNew _ _ | with_reducible exact heapNew2 _ _ _ | with_reducible refine heapOld HX5.out ?_ | with_reducible refine heapOld HX4.out ?_ | with_reducible refine heapOld (bl2 _) ?_ | with_reducible refine heapOld (blD (Below.refl _ _)) ?_)
       rintro e w6 ⟨rfl,hbw6⟩
       have HB6:Hid (Below W2.heap.size W2 w6):=blN (by repeat' first | with_reducible exact HB5.out | with_reducible refine blD ?_ | with_reducible refine bl1 ?_ _) hbw6
       clear hbw6
       simp only))
 all_goals
  go_wp2
  first | exact HY.out _ (blN (blN HB0.out HB2.out) HB6.out) | (go_ret2; exact HY.out _ (blN (blN HB0.out HB2.out) HB6.out))
end
theorem told_two {g:Sp.Geom} {a:Int} {s:ByteArray} (hg:g.ok) (h0:0≤a) (hs:s.size=64) (hk:(g.kind a).1=2) (w:World):Calls Tryz.prog 110 #[gV g,.int .i64 a,.string s] w (q2z (told g a s) w):=by
 obtain⟨p,rfl,hp⟩:=kind_table hg h0 hk
 have h:=rleases_any w g p s hg hp hs
 unfold told
 rw[if_pos hk]
 exact h
theorem told_three {g:Sp.Geom} {a:Int} {s:ByteArray} (hk:(g.kind a).1=3) (w:World):Calls Tryz.prog 111 #[.string ⟨#[105,110,111,100,101,115]⟩,.string s,.int .i64 g.inodes] w (q2z (told g a s) w):=by
 have h:=rplaced_any w wInodes s g.inodes (by decide)
 unfold told
 rw[if_neg (by omega),if_pos hk]
 exact h
theorem told_four {g:Sp.Geom} {a:Int} {s:ByteArray} (hk:(g.kind a).1=4) (w:World):Calls Tryz.prog 111 #[.string ⟨#[98,108,111,99,107,115]⟩,.string s,.int .i64 g.blocks] w (q2z (told g a s) w):=by
 have h:=rplaced_any w wBlocks s g.blocks (by decide)
 unfold told
 rw[if_neg (by omega),if_neg (by omega),if_pos hk]
 exact h
theorem told_five {g:Sp.Geom} {a:Int} {s:ByteArray} (hg:g.ok) (hk:(g.kind a).1=5) (w:World):Calls Tryz.prog 112 #[gV g,.string s] w (q2z (told g a s) w):=by
 have h:=rinode_any w g s
 unfold told
 rw[if_neg (by omega),if_neg (by omega),if_neg (by omega),if_pos hk]
 by_cases q:isInode g s
 ·rw[if_pos ⟨hg,q⟩] at h
  rw[if_pos q]
  exact h
 ·rw[if_neg (fun h=>q h.2)] at h
  rw[if_neg q]
  exact h
theorem told_six {g:Sp.Geom} {a:Int} {s:ByteArray} (hs:s.size=64) (hk:(g.kind a).1=6) (w:World):Calls Tryz.prog 113 #[.string s] w (q2z (told g a s) w):=by
 have h:=rdir_any w s hs
 unfold told
 rw[if_neg (by omega),if_neg (by omega),if_neg (by omega),if_neg (by omega),if_pos hk]
 exact h
section
theorem rtold_any (w:World) (g:Sp.Geom) (a:Int) (s:ByteArray) (hg:g.ok) (h0:0≤a) (h1:a<g.size) (hs:s.size=64):Calls Tryz.prog 60 #[gV g,.int .i64 a,.string s] w (q2z (told g a s) w):=by
 have h2:=fun hk:(g.kind a).1=2=>told_two hg h0 hs hk
 have h3:=fun hk:(g.kind a).1=3=>told_three (s:=s) hk
 have h4:=fun hk:(g.kind a).1=4=>told_four (s:=s) hk
 have h5:=fun hk:(g.kind a).1=5=>told_five (s:=s) hg hk
 have h6:=fun hk:(g.kind a).1=6=>told_six (g:=g) (a:=a) hs hk
 have hgw:=fun W:World=>rgwhat_any W g a
 unfold RWhatPost at hgw
 rw[what_at hg h0 h1] at hgw
 have hot:(g.kind a).1≠2→(g.kind a).1≠3→(g.kind a).1≠4→(g.kind a).1≠5→(g.kind a).1≠6→told g a s=none:=fun x2 x3 x4 x5 x6=>by
  unfold told
  rw[if_neg x2,if_neg x3,if_neg x4,if_neg x5,if_neg x6]
 obtain⟨k,hk⟩:=zx ((g.kind a).1)
 obtain⟨k2,hk2⟩:=zx ((g.kind a).2)
 obtain⟨o,ho⟩:=zx (told g a s)
 rw[hk] at h2 h3 h4 h5 h6 hgw hot
 rw[hk2] at hgw
 rw[ho] at h2 h3 h4 h5 h6 hot ⊢
 have HY:Hid (∀T b w1 w',b=o.isSome→(∀L,o=some L→T=ofL L)→Below w.heap.size w w1→Below w1.heap.size w1 w'→q2z o w (.returned (.tuple #[.string T,.bool b])) w'):=fun T b w1 w' hb hT hw hw2=>q23z rfl hb hT (blN hw hw2)
 have HN:Hid (o=none→∀w',Below w.heap.size w w'→q2z o w (.returned (.tuple #[.string ⟨#[]⟩,.bool false])) w'):=fun ho w' hw=>q23z rfl (by rw[ho]; rfl) (fun L hL=>by rw[ho] at hL; exact absurd hL (by simp)) hw
 obtain⟨Q,hQ⟩:=zx (q2z o w)
 rw[hQ] at HY HN ⊢
 clear hk hk2 ho hg h0 h1 hs hQ
 obtain⟨ga,gb,gc⟩:=g
 unfold gV at hgw h2 h5 ⊢
 simp only at h3 h4
 have HGW:=zh hgw
 have H2:=zh h2
 have H3:=zh h3
 have H4:=zh h4
 have H5:=zh h5
 have H6:=zh h6
 have HOT:=zh hot
 clear hgw h2 h3 h4 h5 h6 hot
 obtain⟨W0,hW0⟩:=zg w ga gb gc
 have hk:=g_keep hW0
 have HB0:=zh hk.1
 have HK:=zh hk.2
 clear hk
 obtain⟨z0,z1,z2⟩:=HK.out W0 (Below.refl _ _)
 go_enter Tryz.func60,Tryz.ntmps60
 go_wp2_with fail
 refine(HGW.out _).mono ?_
 rintro e w1 ⟨rfl,hb1⟩
 have HB1:=zh (blN (Below.refl _ _) hb1)
 clear hb1
 clear z0 z1 z2
 obtain⟨z0,z1,z2⟩:=HK.out w1 HB1.out
 have HB2:Hid (Below w.heap.size w w1):=blN HB0.out HB1.out
 clear HB0 HB1 HK
 by_cases q2:k=2
 ·subst q2
  go_wp2_with fail
  refine(H2.out (by trivial) _).mono ?_
  rintro e w7 ⟨T,rfl,hT,hb7⟩
  have HF:=zh (HY.out T _ _ _ rfl hT HB2.out hb7)
  clear hT hb7
  go_wp2
  first | exact HF.out | (go_ret2; exact HF.out)
 have g2:(k == 2)=false:=beq_eq_false_iff_ne.2 q2
 by_cases q3:k=3
 ·subst q3
  go_wp2_with fail
  refine(H3.out (by trivial) _).mono ?_
  rintro e w7 ⟨T,rfl,hT,hb7⟩
  have HF:=zh (HY.out T _ _ _ rfl hT HB2.out hb7)
  clear hT hb7
  go_wp2
  first | exact HF.out | (go_ret2; exact HF.out)
 have g3:(k == 3)=false:=beq_eq_false_iff_ne.2 q3
 by_cases q4:k=4
 ·subst q4
  go_wp2_with fail
  refine(H4.out (by trivial) _).mono ?_
  rintro e w7 ⟨T,rfl,hT,hb7⟩
  have HF:=zh (HY.out T _ _ _ rfl hT HB2.out hb7)
  clear hT hb7
  go_wp2
  first | exact HF.out | (go_ret2; exact HF.out)
 have g4:(k == 4)=false:=beq_eq_false_iff_ne.2 q4
 by_cases q5:k=5
 ·subst q5
  go_wp2_with fail
  refine(H5.out (by trivial) _).mono ?_
  rintro e w7 ⟨T,rfl,hT,hb7⟩
  have HF:=zh (HY.out T _ _ _ rfl hT HB2.out hb7)
  clear hT hb7
  go_wp2
  first | exact HF.out | (go_ret2; exact HF.out)
 have g5:(k == 5)=false:=beq_eq_false_iff_ne.2 q5
 by_cases q6:k=6
 ·subst q6
  go_wp2_with fail
  refine(H6.out (by trivial) _).mono ?_
  rintro e w7 ⟨T,rfl,hT,hb7⟩
  have HF:=zh (HY.out T _ _ _ rfl hT HB2.out hb7)
  clear hT hb7
  go_wp2
  first | exact HF.out | (go_ret2; exact HF.out)
 have g6:(k == 6)=false:=beq_eq_false_iff_ne.2 q6
 have HF:=zh (HN.out (HOT.out q2 q3 q4 q5 q6) _ HB2.out)
 clear q2 q3 q4 q5 q6
 go_wp2
 first | exact HF.out | (go_ret2; exact HF.out)
end
