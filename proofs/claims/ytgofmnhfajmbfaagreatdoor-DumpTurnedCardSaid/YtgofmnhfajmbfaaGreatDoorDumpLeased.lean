import Derived.Test.YtgofmnhfajmbfaaGreatDoorSpLeased
namespace Go.Proofs.YtgofmnhfajmbfaaGreatDoor
open Go Go.RowKit Txt Sp
section
set_option maxHeartbeats 8000000
theorem dfirst_any (w:World) (a:Int) (h0:2≤a) (h1:a≤1000000):Calls Tryz.prog 268 #[.int .i64 a] w fun e w'=>e = .returned (.int .i64 ((a-2)*16))∧w=w':=by
 have e1:IntKind.i64.wrap (a-2)=a-2:=IntWalk.i64_in _ (by omega)
 have e2:IntKind.i64.wrap ((a-2)*16)=(a-2)*16:=IntWalk.i64_in _ (by omega)
 go_enter Tryz.func268,Tryz.ntmps268
 go_wp2
 go_ret
 exact⟨rfl,rfl⟩
def LeasedPost (g:Sp.Geom) (a:Int) (s:ByteArray) (w:World) (e:Ending) (w':World):Prop:=
 e = .returned (.tuple #[.string (ofL (q48z ++ q39z s (q49z g a))),.bool (decide (q52z g a s))])∧Below w.heap.size w w'
theorem getN_in {s:ByteArray} (hs:s.size=64) {o b:Nat} (hb:wide (b:Int)) (h:o+b≤64):getN s (o:Int) (b:Int)=(numAt s o b:Int):=by
 have hc:getC s (o:Int) (b:Int)=0:=by
  unfold getC
  rw[if_neg (by omega),if_pos]
  refine⟨hb,?_⟩
  unfold wide at hb
  unfold inside
  omega
 unfold getN
 rw[if_pos hc,Int.toNat_natCast,Int.toNat_natCast]
theorem get_one {s:ByteArray} (hs:s.size=64) {i:Nat} (hi:i<16):getN s ((4*i:Nat):Int) 1=(q30z s i:Int)∧getN s ((4*i+1:Nat):Int) 1=(numAt s (4*i+1) 1:Int)∧getN s ((4*i+2:Nat):Int) 2=(numAt s (4*i+2) 2:Int):=
 ⟨getN_in hs (b:=1) (Or.inl rfl) (by omega),getN_in hs (b:=1) (Or.inl rfl) (by omega),getN_in hs (b:=2) (Or.inr (Or.inl rfl)) (by omega)⟩
theorem seq_or {s:ByteArray} (hs:s.size=64) {i:Nat} (hi:i<16):bits .or .i64 ((numAt s (4*i+2) 2:Int)*256) (numAt s (4*i+1) 1:Int)=(seqAt s i:Int):=by
 have hl:s.data.toList.length=64:=by rw[Array.length_toList]; exact hs
 obtain⟨a,b,c,d,r,h⟩:=four_of (s.data.toList.drop (4*i)) (by rw[List.length_drop]; omega)
 have h1:s.data.toList.drop (4*i+1)=b :: c :: d :: r:=by rw[←List.drop_drop,h]; rfl
 have h2:s.data.toList.drop (4*i+2)=c :: d :: r:=by rw[←List.drop_drop,h]; rfl
 have e1:numAt s (4*i+1) 1=b.toNat:=by unfold numAt; rw[h1]; simp[numL]
 have e2:numAt s (4*i+2) 2=c.toNat+256*d.toNat:=by unfold numAt; rw[h2]; simp[numL]
 have e3:seqAt s i=b.toNat+256*(c.toNat+256*d.toNat):=by unfold seqAt numAt; rw[h1]; simp[numL]
 have hb:=UInt8.toNat_lt b
 have hc:=UInt8.toNat_lt c
 have hd:=UInt8.toNat_lt d
 rw[e1,e2,e3]
 have e:((c.toNat+256*d.toNat:Nat):Int)*256=((2 ^ 8*(c.toNat+256*d.toNat):Nat):Int):=by omega
 rw[e,q126z _ _ (by omega) (by omega),q146z 8 _ _ (by omega)]
 omega
theorem leasedRow_zero (s:ByteArray) {R f:Nat} (h:f≤R):q11z s R f 0=List.replicate R (0,0):=by
 unfold q11z
 rw[List.range_zero,List.map_nil,List.append_nil,Nat.sub_zero,List.replicate_append_replicate]
 congr 1
 omega
theorem leasedRow_set (s:ByteArray) {R f k:Nat} (h:f+k<R):(q11z s R f k).set (f+k) (q57z s k)=q11z s R f (k+1):=by
 unfold q11z
 rw[List.set_append_right _ _ (by rw[List.length_append,List.length_replicate,List.length_map,List.length_range]; omega)]
 rw[List.length_append,List.length_replicate,List.length_map,List.length_range,show f+k-(f+k)=0 by omega,show R-f-k=(R-f-(k+1))+1 by omega,List.replicate_succ,List.set_cons_zero,List.range_succ,List.map_append,List.map_cons,List.map_nil]
 simp only[List.append_assoc,List.cons_append,List.nil_append]
theorem numAt_two (s:ByteArray) (o:Nat):numAt s o 2<65536:=by
 have h:=Sp.numL_lt ((s.data.toList.drop o).take 2)
 have hl:((s.data.toList.drop o).take 2).length≤2:=by rw[List.length_take]; omega
 have h2:256 ^ ((s.data.toList.drop o).take 2).length≤256 ^ 2:=Nat.pow_le_pow_right (by decide) hl
 have:(256:Nat) ^ 2=65536:=by decide
 unfold numAt
 omega
theorem leaseAt_eq (s:ByteArray) (k:Nat):q57z s k=((q30z s k:Int),(seqAt s k:Int)):=rfl
theorem leasedRow_at {l m:List (Int×Int)} {i j:Nat} {x:Int×Int} (h:l.set i x=m) (hi:i<l.length) (hj:i=j):m[j]? = some x:=by
 subst hj
 rw[←h,List.getElem?_set_self hi]
theorem leas_cell2 {w:World} {g i:Nat} {l:List (Int×Int)} {t:TypeId} {x:Int×Int} (h:w.heap[g]? = some (leasO l t)) (hi:l[i]? = some x):w.cell? ⟨g,i*2,none⟩=some (.int .i64 x.1)∧w.cell? ⟨g,i*2+1,none⟩=some (.int .i64 x.2):=by
 rw[Nat.mul_comm]
 exact leas_cell h hi
theorem leas_set2 {w:World} {g i:Nat} {l:List (Int×Int)} {t:TypeId} (h:w.heap[g]? = some (leasO l t)) (hi:i<l.length) (x:Int×Int):((w.setCell ⟨g,i*2,none⟩ (.int .i64 x.1)).setCell ⟨g,i*2+1,none⟩ (.int .i64 x.2)).heap[g]? = some (leasO (l.set i x) t):=by
 rw[Nat.mul_comm]
 exact leas_set h hi x
theorem leasesL_snoc (s:ByteArray) (k:Nat):q39z s (k+1)=q39z s k ++ 32 :: (q3z (q30z s k) ++ 46 :: q3z (seqAt s k)):=by
 unfold q39z
 rw[List.range_succ,List.flatMap_append,List.flatMap_cons,List.flatMap_nil,List.append_nil]
--LEASED
set_option maxRecDepth 20000 in
theorem dleased_any (w:World) (g:Sp.Geom) (p:Nat) (s:ByteArray) (hg:g.ok) (hp:16*(p:Int)<g.regions) (hs:s.size=64) (ht:TabOk w) :
 Calls Tryz.prog 223 #[gV g,.int .i64 ((p:Int)+2),.string s] w (LeasedPost g ((p:Int)+2) s w):=by
 have hbd:=Geom.regions_bd hg
 obtain⟨R,hR⟩:∃R:Nat,g.regions=(R:Int):=⟨g.regions.toNat,by omega⟩
 obtain⟨f,hf⟩:=zx (16*p)
 obtain⟨n,hn⟩:=zx (min 16 (R-f))
 have hreg:=fun W:World=>q70z W g
 rw[hR] at hreg hp hbd
 have hnn:q49z g ((p:Int)+2)=n:=by unfold q49z; rw[hR]; omega
 have hfi:=fun W:World=>dfirst_any W ((p:Int)+2) (by omega) (by omega)
 have hpf:((p:Int)+2-2)*16=(f:Int):=by omega
 rw[hpf] at hfi
 have hmk:=fun W:World=>run_make_leas W R (by omega)
 have hget:=fun(W:World) (o b:Int)=>fget_any W s o b
 have hnum:=fun(W:World) (x:Nat) (hx:x<9223372036854775808) (ht:TabOk W)=>dnumber_any W x hx ht
 obtain⟨Q,hQ⟩:=zx (LeasedPost g ((p:Int)+2) s w)
 rw[hQ]
 have hfR:f<R:=by omega
 obtain⟨ga,gb,gc⟩:=g
 unfold gV at hreg ⊢
 have hR0:=hR
 have HT:=zh ht
 have HR0:=zh hR0
 have HNN:=zh hnn
 have HQ:=zh hQ
 have HN:=zh hn
 have HF:=zh hf
 have HG:=zh hg
 have HS:=zh hs
 clear hR hR0 hnn hQ hn hf hg hs ht hp hpf
 have HREG:=zh hreg
 have HFI:=zh hfi
 have HMK:=zh hmk
 have HGET:=zh hget
 have HNUM:=zh hnum
 clear hreg hfi hmk hget hnum
 obtain⟨W0,hW0⟩:=zg w ga gb gc
 have hk:=q14z hW0
 have HB0:=zh hk.1
 have HK:=zh hk.2
 clear hk
 obtain⟨z0,z1,z2⟩:=HK.out W0 (Below.refl _ _)
 obtain⟨a,ha⟩:∃a:Int,(p:Int)+2=a:=⟨_,rfl⟩
 have HA:=zh ha
 rw[ha] at HFI HQ HNN ⊢
 clear ha
 go_enter Tryz.func223,Tryz.ntmps223
 go_wp2_with fail
 refine(HREG.out _).mono ?_
 rintro e w1 ⟨rfl,hb1⟩
 have HB1:=zh (blN (Below.refl _ _) hb1)
 clear hb1
 clear z0 z1 z2
 have hmk:=HMK.out w1
 obtain⟨W2,hW2⟩:=zx (w1.alloc (leasO (List.replicate R (0,0)) 185))
 have hr2:W2.heap[w1.heap.size]? = some (leasO (q11z s R f 0) 185):=by rw[leasedRow_zero s (by omega),←hW2]; exact q5z w1 _
 have HB2:Hid (Below W0.heap.size W0 W2):=by rw[←hW2]; exact bl1 HB1.out _
 have HR2:=zh hr2
 rw[hW2] at hmk
 clear hr2 hW2
 go_wp2_with fail
 refine(HFI.out _).mono ?_
 rintro e w3 ⟨rfl,hw3⟩
 replace hw3:=hw3.symm
 subst hw3
 go_wp2
 have HSz:Hid (∀k,k≤16→(q48z ++ q39z s k).length≤1000):=fun k hk=>by
  have:=leasesL_le s hk
  have h6:q48z.length=6:=rfl
  rw[List.length_append]
  omega
 have HW:Hid ((⟨#[108,101,97,115,101,115]⟩:ByteArray)=ofL (q48z ++ q39z s 0)):=rfl
 rw[HW.out]
 have hmin:IntKind.i64.wrap ((f:Int)+16)=(f:Int)+16:=IntWalk.i64_in _ (by omega)
 go_loopw [10,11] (fun t i wr=>∃k:Nat,k≤n∧i = .int .i64 ((f+k:Nat):Int)∧t = .string (ofL (q48z ++ q39z s k))∧Hid (wr.heap[w1.heap.size]? = some (leasO (q11z s R f k) 185))∧Hid (Below W0.heap.size W0 wr)) (fun _ i _=>R-(intOf i).toNat)
 case atStart=>exact⟨0,Nat.zero_le _,rfl,rfl,HR2,HB2⟩
 case round=>
  obtain⟨k,hk,rfl,rfl,HR,HB⟩:=hrel
  go_wp2_with fail
  refine(HFI.out _).mono ?_
  rintro e w3 ⟨rfl,hw3⟩
  replace hw3:=hw3.symm
  subst hw3
  obtain⟨j,hj⟩:=zx (f+k)
  rw[hj]
  by_cases hlt:k<n
  --[
  ·have f1:decide ((j:Int)<min (R:Int) ((f:Int)+16))=true:=decide_eq_true (by have:=HN.out; omega)
   obtain⟨o,ho⟩:=zx (4*k)
   obtain⟨o1,ho1⟩:=zx (4*k+1)
   obtain⟨o2,ho2⟩:=zx (4*k+2)
   have hk16:k<16:=by have:=HN.out; omega
   have e1:IntKind.i64.wrap ((j:Int)-(f:Int))=(k:Int):=by rw[IntWalk.i64_in _ (by omega)]; omega
   have e2:IntKind.i64.wrap (4*(k:Int))=(o:Int):=by rw[IntWalk.i64_in _ (by omega)]; omega
   have e3:IntKind.i64.wrap ((o:Int)+1)=(o1:Int):=by rw[IntWalk.i64_in _ (by omega)]; omega
   have e4:IntKind.i64.wrap ((o:Int)+2)=(o2:Int):=by rw[IntWalk.i64_in _ (by omega)]; omega
   obtain⟨g1,g2,g3⟩:=get_one HS.out hk16
   have hor:=seq_or HS.out hk16
   have hn2:=numAt_two s (4*k+2)
   rw[ho] at g1
   rw[ho1] at g2 hor
   rw[ho2] at g3 hor hn2
   have c1:=fun W:World=>HGET.out W (o:Int) 1
   have c2:=fun W:World=>HGET.out W (o1:Int) 1
   have c3:=fun W:World=>HGET.out W (o2:Int) 2
   rw[g1] at c1
   rw[g2] at c2
   rw[g3] at c3
   have hnw:=HNUM.out
   have hsn:=leasesL_snoc s k
   have hlz:=leaseAt_eq s k
   have hls:=leasedRow_set s (R:=R) (f:=f) (k:=k) (by have:=HN.out; omega)
   have hlo:q30z s k<9223372036854775808:=q137z s (4*k) (by decide)
   have hlq:seqAt s k<9223372036854775808:=q137z s (4*k+1) (by decide)
   rw[hlz] at hls
   obtain⟨ow,how⟩:=zx (q30z s k)
   obtain⟨sq,hsq⟩:=zx (seqAt s k)
   obtain⟨n1,hn1⟩:=zx (numAt s o1 1)
   obtain⟨n2,hn2'⟩:=zx (numAt s o2 2)
   rw[how] at c1 hsn hls hlo
   rw[hsq] at hor hsn hls hlq
   rw[hn1] at c2 hor
   rw[hn2'] at c3 hor hn2
   have hor2:bits .or .i64 (wrap64 ((n2:Int)*256)) (n1:Int)=(sq:Int):=by
    have:wrap64 ((n2:Int)*256)=(n2:Int)*256:=IntWalk.wrap64_in _ ⟨by omega,by omega⟩
    rw[this,hor]
   have HOR:=zh hor2
   clear hor2
   have HLS:=zh hls
   have HSN:=zh hsn
   have C1:=zh c1
   have C2:=zh c2
   have C3:=zh c3
   have HJ:=zh hj
   have HO:=zh ho
   have HO1:=zh ho1
   have HO2:=zh ho2
   have HLO:=zh hlo
   have HLQ:=zh hlq
   clear c1 c2 c3 hj ho ho1 ho2 hlo hlq
   clear g1 g2 g3 hor hn2 hn2' how hsq hn1 hls hsn hlz hnw
   go_wp2_with fail
   refine(HFI.out _).mono ?_
   rintro e w3 ⟨rfl,hw3⟩
   replace hw3:=hw3.symm
   subst hw3
   go_wp2_with fail
   refine(C1.out _).mono ?_
   rintro e w4 ⟨rfl,hb4⟩
   have HB4:=zh (blN (Below.refl _ _) hb4)
   clear hb4
   go_wp2_with fail
   refine(C2.out _).mono ?_
   rintro e w5 ⟨rfl,hb5⟩
   have HB5:=zh (blN HB4.out hb5)
   clear hb5
   go_wp2_with fail
   refine(C3.out _).mono ?_
   rintro e w6 ⟨rfl,hb6⟩
   have HB6:=zh (blN HB5.out hb6)
   clear hb6
   have hr6:=q1z HB6.out HR.out
   have hjR:j<R:=by have:=HN.out; have:=HJ.out; omega
   have hlen:(q11z s R f k).length=R:=leasedRow_length (by have:=HJ.out; omega)
   obtain⟨x,hx⟩:∃x,(q11z s R f k)[j]? = some x:=⟨_,List.getElem?_eq_getElem (by rw[hlen]; exact hjR)⟩
   obtain⟨c0,c1⟩:=leas_cell2 hr6 hx
   have v0:w6.frozen? ⟨w1.heap.size,j*2,none⟩=false:=leas_free hr6
   have v1:w6.frozen? ⟨w1.heap.size,j*2+1,none⟩=false:=leas_free hr6
   have hs7:=leas_set2 hr6 (i:=j) (by rw[hlen]; exact hjR) ((ow:Int),(sq:Int))
   have hls:=HLS.out
   rw[HJ.out] at hls
   rw[hls] at hs7
   have hb7:=((blN HB.out HB6.out).setCell (p:=⟨w1.heap.size,j*2,none⟩) HB1.out.size (.int .i64 (ow:Int))).setCell (p:=⟨w1.heap.size,j*2+1,none⟩) HB1.out.size (.int .i64 (sq:Int))
   obtain⟨W7,hW7⟩:=zx ((w6.setCell ⟨w1.heap.size,j*2,none⟩ (.int .i64 (ow:Int))).setCell ⟨w1.heap.size,j*2+1,none⟩ (.int .i64 (sq:Int)))
   rw[hW7] at hb7
   simp only[hW7] at hs7
   have HB7:=zh hb7
   have HS7:=zh hs7
   have HLen:=zh hlen
   clear hr6 hlen hx hs7 hls hb7
   have hjR2:(j:Int)<(R:Int):=by omega
   have hcell:∀W,Below W7.heap.size W7 W→W.cell? ⟨w1.heap.size,j*2,none⟩=some (.int .i64 (ow:Int))∧W.cell? ⟨w1.heap.size,j*2+1,none⟩=some (.int .i64 (sq:Int)):=fun W hW=>leas_cell2 (q1z hW HS7.out) (leasedRow_at HLS.out (by rw[HLen.out]; have:=HJ.out; omega) HJ.out)
   have HCell:=zh hcell
   clear hcell
   go_wp2_with fail
   rw[HOR.out,hW7]
   clear c0 c1 v0 v1
   have hcat1:=q20z [32] (q3z ow)
   have hcat2:=q20z (32 :: q3z ow) [46]
   have hcat3:=q20z (32 :: q3z ow ++ [46]) (q3z sq)
   have hcat4:=q20z (q48z ++ q39z s k) (32 :: q3z ow ++ [46] ++ q3z sq)
   have hq:q48z ++ q39z s k ++ (32 :: q3z ow ++ [46] ++ q3z sq)=q48z ++ q39z s (k+1):=by
    rw[HSN.out]
    simp only[List.append_assoc,List.cons_append,List.nil_append]
   rw[hq] at hcat4
   have hz0:=HSz.out k (by omega)
   have hz1:=q41z HLO.out
   have hz2:=q41z HLQ.out
   have s1:(ofL (q3z ow)).size≤19:=by rw[q9z]; exact hz1
   have s2:(ofL (32 :: q3z ow)).size≤20:=by rw[q9z,List.length_cons]; omega
   have s3:(ofL (32 :: q3z ow ++ [46])).size≤21:=by rw[q9z,List.length_append,List.length_cons,List.length_cons]; simp; omega
   have s4:(ofL (q3z sq)).size≤19:=by rw[q9z]; exact hz2
   have s5:(ofL (32 :: q3z ow ++ [46] ++ q3z sq)).size≤40:=by rw[q9z,List.length_append,List.length_append,List.length_cons,List.length_cons]; simp; omega
   rw[←q9z] at hz0
   have n1:=fun(W:World) (h:TabOk W)=>HNUM.out W ow HLO.out h
   have n2:=fun(W:World) (h:TabOk W)=>HNUM.out W sq HLQ.out h
   obtain⟨D1,hD1⟩:=zx (ofL (q3z ow))
   obtain⟨D2,hD2⟩:=zx (ofL (q3z sq))
   obtain⟨X1,hX1⟩:=zx (ofL (32 :: q3z ow))
   obtain⟨X2,hX2⟩:=zx (ofL (32 :: q3z ow ++ [46]))
   obtain⟨X3,hX3⟩:=zx (ofL (32 :: q3z ow ++ [46] ++ q3z sq))
   obtain⟨A,hA⟩:=zx (ofL (q48z ++ q39z s k))
   obtain⟨C,hC⟩:=zx (ofL (q48z ++ q39z s (k+1)))
   change ofL [32] ++ ofL (q3z ow)=ofL (32 :: q3z ow) at hcat1
   rw[hD1,hX1] at hcat1
   rw[hX1,hX2] at hcat2
   rw[hX2,hD2,hX3] at hcat3
   rw[hA,hX3,hC] at hcat4
   rw[hA] at hz0 ⊢
   rw[hD1] at s1 n1
   rw[hX1] at s2
   rw[hX2] at s3
   rw[hD2] at s4 n2
   rw[hX3] at s5
   change (⟨#[32]⟩:ByteArray) ++ D1=X1 at hcat1
   change X1 ++ (⟨#[46]⟩:ByteArray)=X2 at hcat2
   have hl1:¬9223372036854775807<1+D1.size:=by omega
   have hl2:¬9223372036854775807<X1.size+1:=by omega
   have hl3:¬9223372036854775807<X2.size+D2.size:=by omega
   have hl4:¬9223372036854775807<A.size+X3.size:=by omega
   have HC:=zh hC
   have HTB:Hid (∀W,Below W7.heap.size W7 W→TabOk W):=fun W hW=>HT.out.below (blN (blN HB0.out HB7.out) hW)
   have N1:=zh n1
   have N2:=zh n2
   clear n1 n2
   clear hA hC hD1 hD2 hX1 hX2 hX3 s1 s2 s3 s4 s5 hz0 hz1 hz2 hq
   go_region_held3 (fun W=>W.cell? ⟨w1.heap.size,j*2,none⟩=some (.int .i64 (ow:Int))∧W.cell? ⟨w1.heap.size,j*2+1,none⟩=some (.int .i64 (sq:Int)))
    ((refine HCell.out _ ?_; repeat' first | with_reducible exact Below.refl _ _ | with_reducible exact HB8.out | with_reducible exact HB9.out | with_reducible refine blD ?_ | with_reducible refine bl1 ?_ _))
    (first
      | (go_at_call_of 159 (Value.int .i64 (ow:Int))
         refine(N1.out _ ?a1).mono ?_
         case a1=>
          refine HTB.out _ ?_
          repeat' first | with_reducible exact Below.refl _ _ | with_reducible refine blD ?_ | with_reducible refine bl1 ?_ _
         rintro e w8 ⟨rfl,hb8⟩
         have HB8:Hid (Below W7.heap.size W7 w8):=blN (by repeat' first | with_reducible exact Below.refl _ _ | with_reducible refine blD ?_ | with_reducible refine bl1 ?_ _) hb8
         clear hb8
         simp only)
      | (go_at_call_of 159 (Value.int .i64 (sq:Int))
         refine(N2.out _ ?a1).mono ?_
         case a1=>
          refine HTB.out _ ?_
          repeat' first | with_reducible exact HB8.out | with_reducible refine blD ?_ | with_reducible refine bl1 ?_ _
         rintro e w9 ⟨rfl,hb9⟩
         have HB9:Hid (Below W7.heap.size W7 w9):=blN (by repeat' first | with_reducible exact HB8.out | with_reducible refine blD ?_ | with_reducible refine bl1 ?_ _) hb9
         clear hb9
         simp only))
   all_goals
    have HR8:Hid (w9.heap[w1.heap.size]? = some (leasO (q11z s R f (k+1)) 185)):=q1z HB9.out HS7.out
    have HBx:Hid (Below W0.heap.size W0 w9):=blN HB7.out HB9.out
    go_wp2
    go_roundw
    case rel=>exact⟨k+1,by omega,by have:=HJ.out; go_num,by rw[HC.out],HR8,HBx⟩
    case measure=>have:=HJ.out; simp[intOf]; omega
  --]
  ·obtain rfl:k=n:=by omega
   have f1:decide ((j:Int)<min (R:Int) ((f:Int)+16))=false:=decide_eq_false (by have:=HN.out; omega)
   have hk16:k≤16:=by have:=HN.out; omega
   have hll:(q11z s R f k).length=R:=leasedRow_length (by have:=HN.out; omega)
   have hrow2:∀W,Below w3.heap.size w3 W→Leases W (.slice (some ⟨w1.heap.size,0,none⟩) R R) (q11z s R f k):=fun W hW=>leas_row (q1z hW HR.out) (by rw[hll]; unfold maxLen; omega) hll.symm
   have hen:=fun(W:World) (hW:Below w3.heap.size w3 W)=>tencode_any W ⟨ga,gb,gc⟩ _ _ (hrow2 W hW)
   unfold TEnc gV at hen
   obtain⟨z0,z1,z2⟩:=HK.out w3 HB.out
   have HFin:Hid (∀(b:Bool) (w':World),b=decide (q52z ⟨ga,gb,gc⟩ a s)→Below w.heap.size w w'→Q (.returned (.tuple #[.string (ofL (q48z ++ q39z s k)),.bool b])) w'):=fun b w' hb hw=>by
    rw[←HQ.out]
    unfold LeasedPost
    rw[HNN.out,hb]
    exact⟨rfl,hw⟩
   have hisl:q52z ⟨ga,gb,gc⟩ a s↔(∀i,i<k→q30z s i≤2)∧(s.data.toList.drop (4*k)).all (fun b=>b == 0)=true:=by
    unfold q52z
    rw[HNN.out]
   by_cases hown:∀i,i<k→q30z s i≤2
   ·have hc:q50z ⟨ga,gb,gc⟩ (q11z s R f k)=0:=by
     unfold q50z
     rw[if_pos ⟨HG.out,by rw[hll]; exact HR0.out.symm⟩,if_pos (leasedRow_ok.2 hown)]
    unfold q130z at hen
    rw[hc,if_pos rfl] at hen
    have hpN:p<(Sp.Geom.tables ⟨ga,gb,gc⟩).toNat:=by
     unfold Sp.Geom.tables
     rw[HR0.out]
     have:=HF.out
     omega
    have htx:=q119z (n:=(Sp.Geom.tables ⟨ga,gb,gc⟩).toNat) (q11z s R f k) hpN
    rw[HF.out,leasedRow_sec HS.out HN.out.symm] at htx
    have hsame:=leased_same HS.out hk16
    obtain⟨X,hX⟩:=zx (ofL (s.data.toList.take (4*k) ++ zeros (64-4*k)))
    rw[hX] at htx hsame
    have fX:=q80z X s
    have hdec:decide (X=s)=decide (q52z ⟨ga,gb,gc⟩ a s):=decide_eq_decide.2 (by rw[hisl,hsame]; exact⟨fun h=>⟨hown,h⟩,fun h=>h.2⟩)
    have e5:IntKind.i64.wrap (a-2)=(p:Int):=by rw[IntWalk.i64_in _ (by have:=HA.out; have:=HF.out; omega)]; have:=HA.out; omega
    obtain⟨tn,htn⟩:=zx ((Sp.Geom.tables ⟨ga,gb,gc⟩).toNat)
    rw[htn] at hpN htx hen
    have HTX:=zh htx
    have HDec:=zh hdec
    have HEN:=zh hen
    have HPN:=zh hpN
    clear hen hpN
    clear htx hsame hX hdec hisl hown hc hll hrow2 htn
    go_wp2_with fail
    refine(HEN.out _ (Below.refl _ _)).mono ?_
    rintro e w8 ⟨v,rfl,hown8,hb8⟩
    clear z0 z1 z2
    have hown9:=hown8.texts
    obtain⟨ad,N,cap,rfl,HN8,hn8,HF8⟩:=q26z hown9
    have hpN:p<N:=by rw[HN8.out,q68z]; exact HPN.out
    have hpN2:(p:Int)<(N:Int):=by omega
    obtain⟨b,o,x,rfl,hbb,hx,hcl⟩:=HF8.out p hpN
    obtain rfl:X=x:=Option.some.inj (HTX.out.symm.trans hx)
    have HB8:=zh (blN HB.out hb8)
    clear hown8 hown9 hb8 hx HF8
    have HCell:Hid (∀W,Below w8.heap.size w8 W→W.cell? ⟨b,o+p,none⟩=some (.string X)):=fun W hW=>(hW.cell (p:=⟨b,o+p,none⟩) hbb).trans hcl
    clear hcl
    go_wp2_with fail
    go_region_held3 (fun W=>W.cell? ⟨b,o+p,none⟩=some (.string X))
     ((refine HCell.out _ ?_; repeat' first | with_reducible exact Below.refl _ _ | with_reducible refine blD ?_ | with_reducible refine bl1 ?_ _))
     (fail)
    all_goals
     go_wp2
     first | exact HFin.out _ _ HDec.out (blN HB0.out (blD HB8.out)) | (go_ret2; exact HFin.out _ _ HDec.out (blN HB0.out (blD HB8.out)))
   ·have hc:q50z ⟨ga,gb,gc⟩ (q11z s R f k)=80:=by
     unfold q50z
     rw[if_pos ⟨HG.out,by rw[hll]; exact HR0.out.symm⟩,if_neg (fun h=>hown (leasedRow_ok.1 h))]
    rw[hc] at hen
    have hdec:false=decide (q52z ⟨ga,gb,gc⟩ a s):=(decide_eq_false (fun h=>hown (hisl.1 h).1)).symm
    have HDec:=zh hdec
    have HEN:=zh hen
    clear hen
    clear hdec hisl hown hc hll hrow2
    go_wp2_with fail
    refine(HEN.out _ (Below.refl _ _)).mono ?_
    rintro e w8 ⟨v,rfl,hown8,hb8⟩
    have HB8:=zh (blN HB.out hb8)
    clear z0 z1 z2 hown8 hb8
    go_wp2_with fail
    refine wp_region_held_drew (S:=fun _=>True) (by kernel_rfl) (by first | trivial | assumption) (fun hHeld=>?_)
    refine tkH 0 ?_; simp only[Act.put,ps0]
    refine tkH 1 ?_; simp only[Act.put,ps0]
    refine tkH 2 ?_; simp only[Act.put,ps0]
    refine tkH 3 ?_; simp only[Act.put,ps0]
    refine wpAnyH_take (i:=4) (v:=undef) rfl (by kernel_rfl) (by kernel_rfl) (by kernel_rfl) (fun _ _ _ h=>h) (Or.inr ⟨by rfl,rfl⟩) hHeld ?_
    simp only[Act.put,ps0]
    refine wpAnyH_take (i:=5) (v:=undef) rfl (by kernel_rfl) (by kernel_rfl) (by kernel_rfl) (fun _ _ _ h=>h) (Or.inr ⟨by rfl,rfl⟩) hHeld ?_
    simp only[Act.put,ps0]
    refine wpAnyH_take (i:=6) (v:=undef) rfl (by kernel_rfl) (by kernel_rfl) (by kernel_rfl) (fun _ _ _ h=>h) (Or.inr ⟨by rfl,rfl⟩) hHeld ?_
    simp only[Act.put,ps0]
    refine wpAnyH_take (i:=7) (v:=undef) rfl (by kernel_rfl) (by kernel_rfl) (by kernel_rfl) (fun _ _ _ h=>h) (Or.inr ⟨by rfl,rfl⟩) hHeld ?_
    simp only[Act.put,ps0]
    refine wpAnyH_take (i:=8) (v:=undef) rfl (by kernel_rfl) (by kernel_rfl) (by kernel_rfl) (fun _ _ _ h=>h) (Or.inr ⟨by rfl,rfl⟩) hHeld ?_
    simp only[Act.put,ps0]
    refine wpAnyH_take (i:=9) (v:=undef) rfl (by kernel_rfl) (by kernel_rfl) (by kernel_rfl) (fun _ _ _ h=>h) (Or.inr ⟨by rfl,rfl⟩) hHeld ?_
    simp only[Act.put,ps0]
    refine wpAnyH_take (i:=10) (v:=undef) rfl (by kernel_rfl) (by kernel_rfl) (by kernel_rfl) (fun _ _ _ h=>h) (Or.inr ⟨by rfl,rfl⟩) hHeld ?_
    simp only[Act.put,ps0]
    refine tkH 11 ?_; simp only[Act.put,ps0]
    refine tkH 12 ?_; simp only[Act.put,ps0]
    refine tkH 13 ?_; simp only[Act.put,ps0]
    refine wpAnyH_done (by kernel_rfl) ?_ _
    all_goals
     go_wp2
     first | exact HFin.out _ _ HDec.out (blN HB0.out (blD HB8.out)) | (go_ret2; exact HFin.out _ _ HDec.out (blN HB0.out (blD HB8.out)))
end
