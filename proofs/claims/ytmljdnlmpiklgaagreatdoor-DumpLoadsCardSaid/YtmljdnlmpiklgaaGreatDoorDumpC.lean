import Derived.Test.YtmljdnlmpiklgaaGreatDoorDumpB
import Derived.Test.YtmljdnlmpiklgaaGreatDoorEntryDec
set_option maxRecDepth 20000
set_option maxHeartbeats 8000000
namespace Go.Proofs.YtmljdnlmpiklgaaGreatDoor
open Go Go.RowKit Txt Sp
def q22z (s:ByteArray) (i:Nat):Int×Int:=((ownerAt s i:Int),(seqAt s i:Int))
theorem four_of:∀l:List UInt8,4≤l.length→∃a b c d r,l=a :: b :: c :: d :: r
 | a :: b :: c :: d :: r,_=>⟨a,b,c,d,r,rfl⟩
 | [],h=>by simp at h
 | [_],h=>by simp at h
 | [_,_],h=>by simp at h
 | [_,_,_],h=>by simp at h
theorem leaseB_at {s:ByteArray} (hs:s.size=64) {i:Nat} (hi:i<16):leaseB (q22z s i)=(s.data.toList.drop (4*i)).take 4:=by
 have hl:s.data.toList.length=64:=by rw[Array.length_toList]; exact hs
 obtain⟨a,b,c,d,r,h⟩:=four_of (s.data.toList.drop (4*i)) (by rw[List.length_drop]; omega)
 have h1:s.data.toList.drop (4*i+1)=b :: c :: d :: r:=by rw[←List.drop_drop,h]; rfl
 have ho:ownerAt s i=numL [a]:=by unfold ownerAt numAt; rw[h]; rfl
 have hq:seqAt s i=numL [b,c,d]:=by unfold seqAt numAt; rw[h1]; rfl
 have hn:((q22z s i).1+256*(q22z s i).2).toNat=numL [a,b,c,d]:=by
  show((ownerAt s i:Int)+256*(seqAt s i:Int)).toNat=_
  rw[ho,hq]
  have e1:numL [a]=a.toNat:=by simp[numL]
  have e2:numL [a,b,c,d]=a.toNat+256*numL [b,c,d]:=rfl
  omega
 unfold leaseB
 rw[hn,h]
 exact textL_numL [a,b,c,d]
theorem leases_flat {s:ByteArray} (hs:s.size=64):∀n,n≤16→((List.range n).map (q22z s)).flatMap leaseB=s.data.toList.take (4*n)
 | 0,_=>rfl
 | n+1,h=>by
   rw[List.range_succ,List.map_append,List.flatMap_append,leases_flat hs n (by omega),List.map_cons,List.map_nil,List.flatMap_cons,List.flatMap_nil,List.append_nil,leaseB_at hs (by omega),Nat.mul_succ,List.take_add]
def q3z (s:ByteArray) (R f n:Nat):List (Int×Int):=List.replicate f (0,0) ++ (List.range n).map (q22z s) ++ List.replicate (R-f-n) (0,0)
theorem leasedRow_length {s:ByteArray} {R f n:Nat} (h:f+n≤R):(q3z s R f n).length=R:=by
 unfold q3z
 rw[List.length_append,List.length_append,List.length_replicate,List.length_map,List.length_range,List.length_replicate]
 omega
theorem leasedRow_sec {s:ByteArray} (hs:s.size=64) {R f n:Nat} (hn:n=min 16 (R-f)):secB (((q3z s R f n).drop f).take 16)=s.data.toList.take (4*n) ++ zeros (64-4*n):=by
 have h:((q3z s R f n).drop f).take 16=(List.range n).map (q22z s):=by
  unfold q3z
  rw[List.append_assoc,List.drop_left' (by rw[List.length_replicate])]
  by_cases h:n=16
  ·rw[List.take_left' (by rw[List.length_map,List.length_range,h])]
  ·rw[show R-f-n=0 by omega,List.replicate_zero,List.append_nil,List.take_of_length_le (by rw[List.length_map,List.length_range]; omega)]
 unfold secB
 have hl:s.data.toList.length=64:=by rw[Array.length_toList]; exact hs
 rw[h,leases_flat hs n (by omega)]
 unfold padL
 rw[List.length_take,hl,show min (4*n) 64=4*n by omega]
theorem leased_same {s:ByteArray} (hs:s.size=64) {n:Nat} (hn:n≤16):ofL (s.data.toList.take (4*n) ++ zeros (64-4*n))=s↔(s.data.toList.drop (4*n)).all (fun b=>b == 0)=true:=by
 have hl:s.data.toList.length=64:=by rw[Array.length_toList]; exact hs
 have hd:(s.data.toList.drop (4*n)).length=64-4*n:=by rw[List.length_drop,hl]
 rw[List.all_eq_true]
 constructor
 ·intro h b hb
  have h2:s.data.toList=s.data.toList.take (4*n) ++ zeros (64-4*n):=by
   have h3:=congrArg (fun t:ByteArray=>t.data.toList) h
   simpa [ofL] using h3.symm
  rw[h2,List.drop_left' (by rw[List.length_take,hl]; omega)] at hb
  unfold zeros at hb
  rw[(List.mem_replicate.1 hb).2]
  rfl
 ·intro h
  have h2:s.data.toList.drop (4*n)=zeros (64-4*n):=by
   unfold zeros
   rw[←hd]
   exact List.eq_replicate_iff.2 ⟨rfl,fun b hb=>by simpa using h b hb⟩
  rw[←h2,List.take_append_drop]
  rfl
theorem leasedRow_ok {s:ByteArray} {R f n:Nat}:(∀x∈q3z s R f n,leaseOk x)↔∀i,i<n→ownerAt s i≤2:=by
 have hq:∀i,seqAt s i≤16777215:=fun i=>by
  have h:=Sp.numL_lt ((s.data.toList.drop (4*i+1)).take 3)
  have hl:((s.data.toList.drop (4*i+1)).take 3).length≤3:=by rw[List.length_take]; omega
  have h2:256 ^ ((s.data.toList.drop (4*i+1)).take 3).length≤256 ^ 3:=Nat.pow_le_pow_right (by decide) hl
  have:(256:Nat) ^ 3=16777216:=by decide
  unfold seqAt numAt
  omega
 constructor
 ·intro h i hi
  have:=h (q22z s i) (by
   unfold q3z
   exact List.mem_append_left _ (List.mem_append_right _ (List.mem_map.2 ⟨i,List.mem_range.2 hi,rfl⟩)))
  have h1:=this.2.1
  unfold q22z at h1
  simp only at h1
  omega
 ·intro h x hx
  unfold q3z at hx
  rcases List.mem_append.1 hx with hx | hx
  ·rcases List.mem_append.1 hx with hx | hx
   ·rw[(List.mem_replicate.1 hx).2]; decide
   ·obtain⟨i,hi,rfl⟩:=List.mem_map.1 hx
    have h1:=h i (List.mem_range.1 hi)
    have h2:=hq i
    unfold leaseOk q22z
    simp only
    omega
  ·rw[(List.mem_replicate.1 hx).2]; decide
def leasO (l:List (Int×Int)) (t:TypeId):Obj:=.cells (l.flatMap leaC).toArray t (0,0)
theorem leaC_at:∀(l:List (Int×Int)) (i:Nat) (x:Int×Int),l[i]? = some x→(l.flatMap leaC)[2*i]? = some (.int .i64 x.1)∧(l.flatMap leaC)[2*i+1]? = some (.int .i64 x.2)
 | [],i,x,h=>by simp at h
 | y :: r,0,x,h=>by
   have e:y=x:=by simpa using h
   subst e
   exact⟨rfl,rfl⟩
 | y :: r,i+1,x,h=>by
   have:=leaC_at r i x (by simpa using h)
   rw[show 2*(i+1)=2*i+2 by omega]
   exact this
theorem leaC_set:∀(l:List (Int×Int)) (i:Nat) (x:Int×Int),i<l.length→((l.flatMap leaC).set (2*i) (.int .i64 x.1)).set (2*i+1) (.int .i64 x.2)=(l.set i x).flatMap leaC
 | [],i,x,h=>by simp at h
 | y :: r,0,x,h=>rfl
 | y :: r,i+1,x,h=>by
   have:=leaC_set r i x (by simpa using h)
   rw[show 2*(i+1)=2*i+2 by omega]
   show(Value.int .i64 y.1 :: Value.int .i64 y.2 :: ((r.flatMap leaC).set (2*i) (.int .i64 x.1)).set (2*i+1) (.int .i64 x.2))=_
   rw[this]
   rfl
theorem leas_cell {w:World} {g i:Nat} {l:List (Int×Int)} {t:TypeId} {x:Int×Int} (h:w.heap[g]? = some (leasO l t)) (hi:l[i]? = some x):w.cell? ⟨g,2*i,none⟩=some (.int .i64 x.1)∧w.cell? ⟨g,2*i+1,none⟩=some (.int .i64 x.2):=by
 have h2:=leaC_at l i x hi
 exact⟨cellOf h (by rw[List.getElem?_toArray]; exact h2.1),cellOf h (by rw[List.getElem?_toArray]; exact h2.2)⟩
theorem leas_free {w:World} {g i:Nat} {l:List (Int×Int)} {t:TypeId} (h:w.heap[g]? = some (leasO l t)):w.frozen? ⟨g,i,none⟩=false:=freeOf h
theorem leas_set {w:World} {g i:Nat} {l:List (Int×Int)} {t:TypeId} (h:w.heap[g]? = some (leasO l t)) (hi:i<l.length) (x:Int×Int):((w.setCell ⟨g,2*i,none⟩ (.int .i64 x.1)).setCell ⟨g,2*i+1,none⟩ (.int .i64 x.2)).heap[g]? = some (leasO (l.set i x) t):=by
 have h1:=setHeap_at (k:=2*i) h (.int .i64 x.1)
 have h2:=setHeap_at (k:=2*i+1) h1 (.int .i64 x.2)
 have e:((l.flatMap leaC).toArray.setIfInBounds (2*i) (.int .i64 x.1)).setIfInBounds (2*i+1) (.int .i64 x.2)=((l.set i x).flatMap leaC).toArray:=by
  apply Array.toList_inj.1
  rw[Array.toList_setIfInBounds,Array.toList_setIfInBounds]
  exact leaC_set l i x hi
 rw[e] at h2
 exact h2
theorem leas_flat (n:Nat):(List.replicate n ((0:Int),(0:Int))).flatMap leaC=List.replicate (2*n) (Value.int .i64 0):=by
 induction n with
 | zero=>rfl
 | succ n ih=>
   rw[List.replicate_succ,List.flatMap_cons,ih,show 2*(n+1)=2*n+1+1 by omega,List.replicate_succ,List.replicate_succ]
   rfl
theorem made_two (n:Nat):(madeCells #[Value.int .i64 0,Value.int .i64 0] (2*n))=((List.replicate n ((0:Int),(0:Int))).flatMap leaC).toArray:=by
 apply Array.toList_inj.1
 rw[leas_flat]
 show(madeCells #[Value.int .i64 0,Value.int .i64 0] (2*n)).toList=List.replicate (2*n) (Value.int .i64 0)
 refine List.eq_replicate_iff.2 ⟨by simp[madeCells],fun b hb=>?_⟩
 simp only[madeCells,Array.toList_map,List.mem_map] at hb
 obtain⟨i,_,rfl⟩:=hb
 have h2:i % 2=0∨i % 2=1:=by omega
 show #[Value.int .i64 0,Value.int .i64 0][i % 2]! = _
 rcases h2 with h | h <;> rw[h] <;> rfl
theorem infoLease:(Tryz.prog.info? 97).map (fun i=>(i.zero,i.size,i.bytes))=some (some (.agg #[.int .i64 0,.int .i64 0]),2,16):=by kernel_rfl
theorem run_make_leas (w:World) (n:Nat) (hn:n≤4000000000) :
 (Instr.makeSlice 62 (.int .i64 (n:Int)) (.int .i64 (n:Int))).run Tryz.prog w = .ok (.slice (some ⟨w.heap.size,0,none⟩) n n) (w.alloc (leasO (List.replicate n (0,0)) 97)):=by
 obtain⟨i0,hi,hz0,hz1,hz2⟩:=info_parts infoLease
 have h:=run_make (P:=Tryz.prog) w 62 97 i0 _ Tryz.underlying62 hi hz0 .i64 .i64 (n:Int) (n:Int) (by omega) (Int.le_refl _) (by rw[hz2]; omega) (by omega)
 rw[h,hz1,Int.toNat_natCast]
 have:madeCells (Value.agg #[.int .i64 0,.int .i64 0]).cells (n*2)=((List.replicate n ((0:Int),(0:Int))).flatMap leaC).toArray:=by
  rw[Nat.mul_comm]
  exact made_two n
 rw[this]
 rfl
theorem leas_row {w:World} {g:Nat} {l:List (Int×Int)} {t:TypeId} (h:w.heap[g]? = some (leasO l t)) (h2:l.length≤maxLen) {n:Nat} (hn:n=l.length):Leases w (.slice (some ⟨g,0,none⟩) n n) l:=by
 subst hn
 refine⟨some ⟨g,0,none⟩,l.length,by rw[List.length_map],by rw[List.length_map]; exact Nat.le_refl _,h2,fun _=>⟨g,0,rfl,(Array.getElem?_eq_some_iff.1 h).1,fun j x hx i y hy=>?_⟩⟩
 rw[List.getElem?_map] at hx
 obtain⟨p,hp,rfl⟩:=Option.map_eq_some_iff.1 hx
 have hc:=leas_cell h hp
 match i,hy with
 | 0,hy=>
   have e:Value.int .i64 p.1=y:=by simpa [leaC] using hy
   rw[←e,Nat.zero_add,Nat.mul_comm]
   exact hc.1
 | 1,hy=>
   have e:Value.int .i64 p.2=y:=by simpa [leaC] using hy
   rw[←e,Nat.zero_add,Nat.mul_comm]
   exact hc.2
 | k+2,hy=>simp[leaC] at hy
section
theorem dfirst_any (w:World) (a:Int) (h0:2≤a) (h1:a≤1000000):Calls Tryz.prog 82 #[.int .i64 a] w fun e w'=>e = .returned (.int .i64 ((a-2)*16))∧w=w':=by
 have e1:IntKind.i64.wrap (a-2)=a-2:=IntWalk.i64_in _ (by omega)
 have e2:IntKind.i64.wrap ((a-2)*16)=(a-2)*16:=IntWalk.i64_in _ (by omega)
 go_enter Tryz.func82,Tryz.ntmps82
 go_wp2
 go_ret
 exact⟨rfl,rfl⟩
def LeasedPost (g:Sp.Geom) (a:Int) (s:ByteArray) (w:World) (e:Ending) (w':World):Prop:=
 e = .returned (.tuple #[.string (ofL (wLeases ++ leasesL s (leasesN g a))),.bool (decide (isLeases g a s))])∧Below w.heap.size w w'
theorem getN_in {s:ByteArray} (hs:s.size=64) {o b:Nat} (hb:wide (b:Int)) (h:o+b≤64):getN s (o:Int) (b:Int)=(numAt s o b:Int):=by
 have hc:getC s (o:Int) (b:Int)=0:=by
  unfold getC
  rw[if_neg (by omega),if_pos]
  refine⟨hb,?_⟩
  unfold wide at hb
  unfold inside
  omega
 unfold getN
 rw[if_pos hc,Int.toNat_natCast,Int.toNat_natCast]
theorem get_one {s:ByteArray} (hs:s.size=64) {i:Nat} (hi:i<16):getN s ((4*i:Nat):Int) 1=(ownerAt s i:Int)∧getN s ((4*i+1:Nat):Int) 1=(numAt s (4*i+1) 1:Int)∧getN s ((4*i+2:Nat):Int) 2=(numAt s (4*i+2) 2:Int):=
 ⟨getN_in hs (b:=1) (Or.inl rfl) (by omega),getN_in hs (b:=1) (Or.inl rfl) (by omega),getN_in hs (b:=2) (Or.inr (Or.inl rfl)) (by omega)⟩
theorem seq_or {s:ByteArray} (hs:s.size=64) {i:Nat} (hi:i<16):bits .or .i64 ((numAt s (4*i+2) 2:Int)*256) (numAt s (4*i+1) 1:Int)=(seqAt s i:Int):=by
 have hl:s.data.toList.length=64:=by rw[Array.length_toList]; exact hs
 obtain⟨a,b,c,d,r,h⟩:=four_of (s.data.toList.drop (4*i)) (by rw[List.length_drop]; omega)
 have h1:s.data.toList.drop (4*i+1)=b :: c :: d :: r:=by rw[←List.drop_drop,h]; rfl
 have h2:s.data.toList.drop (4*i+2)=c :: d :: r:=by rw[←List.drop_drop,h]; rfl
 have e1:numAt s (4*i+1) 1=b.toNat:=by unfold numAt; rw[h1]; simp[numL]
 have e2:numAt s (4*i+2) 2=c.toNat+256*d.toNat:=by unfold numAt; rw[h2]; simp[numL]
 have e3:seqAt s i=b.toNat+256*(c.toNat+256*d.toNat):=by unfold seqAt numAt; rw[h1]; simp[numL]
 have hb:=UInt8.toNat_lt b
 have hc:=UInt8.toNat_lt c
 have hd:=UInt8.toNat_lt d
 rw[e1,e2,e3]
 have e:((c.toNat+256*d.toNat:Nat):Int)*256=((2 ^ 8*(c.toNat+256*d.toNat):Nat):Int):=by omega
 rw[e,i64_or _ _ (by omega) (by omega),or_low 8 _ _ (by omega)]
 omega
theorem leasedRow_zero (s:ByteArray) {R f:Nat} (h:f≤R):q3z s R f 0=List.replicate R (0,0):=by
 unfold q3z
 rw[List.range_zero,List.map_nil,List.append_nil,Nat.sub_zero,List.replicate_append_replicate]
 congr 1
 omega
theorem leasedRow_set (s:ByteArray) {R f k:Nat} (h:f+k<R):(q3z s R f k).set (f+k) (q22z s k)=q3z s R f (k+1):=by
 unfold q3z
 rw[List.set_append_right _ _ (by rw[List.length_append,List.length_replicate,List.length_map,List.length_range]; omega)]
 rw[List.length_append,List.length_replicate,List.length_map,List.length_range,show f+k-(f+k)=0 by omega,show R-f-k=(R-f-(k+1))+1 by omega,List.replicate_succ,List.set_cons_zero,List.range_succ,List.map_append,List.map_cons,List.map_nil]
 simp only[List.append_assoc,List.cons_append,List.nil_append]
theorem numAt_two (s:ByteArray) (o:Nat):numAt s o 2<65536:=by
 have h:=Sp.numL_lt ((s.data.toList.drop o).take 2)
 have hl:((s.data.toList.drop o).take 2).length≤2:=by rw[List.length_take]; omega
 have h2:256 ^ ((s.data.toList.drop o).take 2).length≤256 ^ 2:=Nat.pow_le_pow_right (by decide) hl
 have:(256:Nat) ^ 2=65536:=by decide
 unfold numAt
 omega
theorem leaseAt_eq (s:ByteArray) (k:Nat):q22z s k=((ownerAt s k:Int),(seqAt s k:Int)):=rfl
theorem leasedRow_at {l m:List (Int×Int)} {i j:Nat} {x:Int×Int} (h:l.set i x=m) (hi:i<l.length) (hj:i=j):m[j]? = some x:=by
 subst hj
 rw[←h,List.getElem?_set_self hi]
theorem q52z {w:World} {g i:Nat} {l:List (Int×Int)} {t:TypeId} {x:Int×Int} (h:w.heap[g]? = some (leasO l t)) (hi:l[i]? = some x):w.cell? ⟨g,i*2,none⟩=some (.int .i64 x.1)∧w.cell? ⟨g,i*2+1,none⟩=some (.int .i64 x.2):=by
 rw[Nat.mul_comm]
 exact leas_cell h hi
theorem leas_set2 {w:World} {g i:Nat} {l:List (Int×Int)} {t:TypeId} (h:w.heap[g]? = some (leasO l t)) (hi:i<l.length) (x:Int×Int):((w.setCell ⟨g,i*2,none⟩ (.int .i64 x.1)).setCell ⟨g,i*2+1,none⟩ (.int .i64 x.2)).heap[g]? = some (leasO (l.set i x) t):=by
 rw[Nat.mul_comm]
 exact leas_set h hi x
theorem leasesL_snoc (s:ByteArray) (k:Nat):leasesL s (k+1)=leasesL s k ++ 32 :: (digitsL (ownerAt s k) ++ 46 :: digitsL (seqAt s k)):=by
 unfold leasesL
 rw[List.range_succ,List.flatMap_append,List.flatMap_cons,List.flatMap_nil,List.append_nil]
--LEASED
theorem dleased_any (w:World) (g:Sp.Geom) (p:Nat) (s:ByteArray) (hg:g.ok) (hp:16*(p:Int)<g.regions) (hs:s.size=64) (ht:TabOk w) :
 Calls Tryz.prog 94 #[gV g,.int .i64 ((p:Int)+2),.string s] w (LeasedPost g ((p:Int)+2) s w):=by
 have hbd:=Geom.regions_bd hg
 obtain⟨R,hR⟩:∃R:Nat,g.regions=(R:Int):=⟨g.regions.toNat,by omega⟩
 obtain⟨f,hf⟩:=zx (16*p)
 obtain⟨n,hn⟩:=zx (min 16 (R-f))
 have hreg:=fun W:World=>gregions_any W g
 rw[hR] at hreg hp hbd
 have hnn:leasesN g ((p:Int)+2)=n:=by unfold leasesN; rw[hR]; omega
 have hfi:=fun W:World=>dfirst_any W ((p:Int)+2) (by omega) (by omega)
 have hpf:((p:Int)+2-2)*16=(f:Int):=by omega
 rw[hpf] at hfi
 have hmk:=fun W:World=>run_make_leas W R (by omega)
 have hget:=fun(W:World) (o b:Int)=>fget_any W s o b
 have hnum:=fun(W:World) (x:Nat) (hx:x<9223372036854775808) (ht:TabOk W)=>q44z W x hx ht
 obtain⟨Q,hQ⟩:=zx (LeasedPost g ((p:Int)+2) s w)
 rw[hQ]
 have hfR:f<R:=by omega
 obtain⟨ga,gb,gc⟩:=g
 unfold gV at hreg ⊢
 have hR0:=hR
 have HT:=zh ht
 have HR0:=zh hR0
 have HNN:=zh hnn
 have HQ:=zh hQ
 have HN:=zh hn
 have HF:=zh hf
 have HG:=zh hg
 have HS:=zh hs
 clear hR hR0 hnn hQ hn hf hg hs ht hp hpf
 have HREG:=zh hreg
 have HFI:=zh hfi
 have HMK:=zh hmk
 have HGET:=zh hget
 have HNUM:=zh hnum
 clear hreg hfi hmk hget hnum
 obtain⟨W0,hW0⟩:=zg w ga gb gc
 have hk:=g_keep hW0
 have HB0:=zh hk.1
 have HK:=zh hk.2
 clear hk
 obtain⟨z0,z1,z2⟩:=HK.out W0 (Below.refl _ _)
 obtain⟨a,ha⟩:∃a:Int,(p:Int)+2=a:=⟨_,rfl⟩
 have HA:=zh ha
 rw[ha] at HFI HQ HNN ⊢
 clear ha
 go_enter Tryz.func94,Tryz.ntmps94
 go_wp2_with fail
 refine(HREG.out _).mono ?_
 rintro e w1 ⟨rfl,hb1⟩
 have HB1:=zh (blN (Below.refl _ _) hb1)
 clear hb1
 clear z0 z1 z2
 have hmk:=HMK.out w1
 obtain⟨W2,hW2⟩:=zx (w1.alloc (leasO (List.replicate R (0,0)) 97))
 have hr2:W2.heap[w1.heap.size]? = some (leasO (q3z s R f 0) 97):=by rw[leasedRow_zero s (by omega),←hW2]; exact heapNew w1 _
 have HB2:Hid (Below W0.heap.size W0 W2):=by rw[←hW2]; exact bl1 HB1.out _
 have HR2:=zh hr2
 rw[hW2] at hmk
 clear hr2 hW2
 go_wp2_with fail
 refine(HFI.out _).mono ?_
 rintro e w3 ⟨rfl,hw3⟩
 replace hw3:=hw3.symm
 subst hw3
 go_wp2
 have HSz:Hid (∀k,k≤16→(wLeases ++ leasesL s k).length≤1000):=fun k hk=>by
  have:=leasesL_le s hk
  have h6:wLeases.length=6:=rfl
  rw[List.length_append]
  omega
 have HW:Hid ((⟨#[108,101,97,115,101,115]⟩:ByteArray)=ofL (wLeases ++ leasesL s 0)):=rfl
 rw[HW.out]
 have hmin:IntKind.i64.wrap ((f:Int)+16)=(f:Int)+16:=IntWalk.i64_in _ (by omega)
 go_loopw [10,11] (fun t i wr=>∃k:Nat,k≤n∧i = .int .i64 ((f+k:Nat):Int)∧t = .string (ofL (wLeases ++ leasesL s k))∧Hid (wr.heap[w1.heap.size]? = some (leasO (q3z s R f k) 97))∧Hid (Below W0.heap.size W0 wr)) (fun _ i _=>R-(intOf i).toNat)
 case atStart=>exact⟨0,Nat.zero_le _,rfl,rfl,HR2,HB2⟩
 case round=>
  obtain⟨k,hk,rfl,rfl,HR,HB⟩:=hrel
  go_wp2_with fail
  refine(HFI.out _).mono ?_
  rintro e w3 ⟨rfl,hw3⟩
  replace hw3:=hw3.symm
  subst hw3
  obtain⟨j,hj⟩:=zx (f+k)
  rw[hj]
  by_cases hlt:k<n
  --[
  ·have f1:decide ((j:Int)<min (R:Int) ((f:Int)+16))=true:=decide_eq_true (by have:=HN.out; omega)
   obtain⟨o,ho⟩:=zx (4*k)
   obtain⟨o1,ho1⟩:=zx (4*k+1)
   obtain⟨o2,ho2⟩:=zx (4*k+2)
   have hk16:k<16:=by have:=HN.out; omega
   have e1:IntKind.i64.wrap ((j:Int)-(f:Int))=(k:Int):=by rw[IntWalk.i64_in _ (by omega)]; omega
   have e2:IntKind.i64.wrap (4*(k:Int))=(o:Int):=by rw[IntWalk.i64_in _ (by omega)]; omega
   have e3:IntKind.i64.wrap ((o:Int)+1)=(o1:Int):=by rw[IntWalk.i64_in _ (by omega)]; omega
   have e4:IntKind.i64.wrap ((o:Int)+2)=(o2:Int):=by rw[IntWalk.i64_in _ (by omega)]; omega
   obtain⟨g1,g2,g3⟩:=get_one HS.out hk16
   have hor:=seq_or HS.out hk16
   have hn2:=numAt_two s (4*k+2)
   rw[ho] at g1
   rw[ho1] at g2 hor
   rw[ho2] at g3 hor hn2
   have c1:=fun W:World=>HGET.out W (o:Int) 1
   have c2:=fun W:World=>HGET.out W (o1:Int) 1
   have c3:=fun W:World=>HGET.out W (o2:Int) 2
   rw[g1] at c1
   rw[g2] at c2
   rw[g3] at c3
   have hnw:=HNUM.out
   have hsn:=leasesL_snoc s k
   have hlz:=leaseAt_eq s k
   have hls:=leasedRow_set s (R:=R) (f:=f) (k:=k) (by have:=HN.out; omega)
   have hlo:ownerAt s k<9223372036854775808:=q45z s (4*k) (by decide)
   have hlq:seqAt s k<9223372036854775808:=q45z s (4*k+1) (by decide)
   rw[hlz] at hls
   obtain⟨ow,how⟩:=zx (ownerAt s k)
   obtain⟨sq,hsq⟩:=zx (seqAt s k)
   obtain⟨n1,hn1⟩:=zx (numAt s o1 1)
   obtain⟨n2,hn2'⟩:=zx (numAt s o2 2)
   rw[how] at c1 hsn hls hlo
   rw[hsq] at hor hsn hls hlq
   rw[hn1] at c2 hor
   rw[hn2'] at c3 hor hn2
   have hor2:bits .or .i64 (wrap64 ((n2:Int)*256)) (n1:Int)=(sq:Int):=by
    have:wrap64 ((n2:Int)*256)=(n2:Int)*256:=IntWalk.wrap64_in _ ⟨by omega,by omega⟩
    rw[this,hor]
   have HOR:=zh hor2
   clear hor2
   have HLS:=zh hls
   have HSN:=zh hsn
   have C1:=zh c1
   have C2:=zh c2
   have C3:=zh c3
   have HJ:=zh hj
   have HO:=zh ho
   have HO1:=zh ho1
   have HO2:=zh ho2
   have HLO:=zh hlo
   have HLQ:=zh hlq
   clear c1 c2 c3 hj ho ho1 ho2 hlo hlq
   clear g1 g2 g3 hor hn2 hn2' how hsq hn1 hls hsn hlz hnw
   go_wp2_with fail
   refine(HFI.out _).mono ?_
   rintro e w3 ⟨rfl,hw3⟩
   replace hw3:=hw3.symm
   subst hw3
   go_wp2_with fail
   refine(C1.out _).mono ?_
   rintro e w4 ⟨rfl,hb4⟩
   have HB4:=zh (blN (Below.refl _ _) hb4)
   clear hb4
   go_wp2_with fail
   refine(C2.out _).mono ?_
   rintro e w5 ⟨rfl,hb5⟩
   have HB5:=zh (blN HB4.out hb5)
   clear hb5
   go_wp2_with fail
   refine(C3.out _).mono ?_
   rintro e w6 ⟨rfl,hb6⟩
   have HB6:=zh (blN HB5.out hb6)
   clear hb6
   have hr6:=heapOld HB6.out HR.out
   have hjR:j<R:=by have:=HN.out; have:=HJ.out; omega
   have hlen:(q3z s R f k).length=R:=leasedRow_length (by have:=HJ.out; omega)
   obtain⟨x,hx⟩:∃x,(q3z s R f k)[j]? = some x:=⟨_,List.getElem?_eq_getElem (by rw[hlen]; exact hjR)⟩
   obtain⟨c0,c1⟩:=q52z hr6 hx
   have v0:w6.frozen? ⟨w1.heap.size,j*2,none⟩=false:=leas_free hr6
   have v1:w6.frozen? ⟨w1.heap.size,j*2+1,none⟩=false:=leas_free hr6
   have hs7:=leas_set2 hr6 (i:=j) (by rw[hlen]; exact hjR) ((ow:Int),(sq:Int))
   have hls:=HLS.out
   rw[HJ.out] at hls
   rw[hls] at hs7
   have hb7:=((blN HB.out HB6.out).setCell (p:=⟨w1.heap.size,j*2,none⟩) HB1.out.size (.int .i64 (ow:Int))).setCell (p:=⟨w1.heap.size,j*2+1,none⟩) HB1.out.size (.int .i64 (sq:Int))
   obtain⟨W7,hW7⟩:=zx ((w6.setCell ⟨w1.heap.size,j*2,none⟩ (.int .i64 (ow:Int))).setCell ⟨w1.heap.size,j*2+1,none⟩ (.int .i64 (sq:Int)))
   rw[hW7] at hb7
   simp only[hW7] at hs7
   have HB7:=zh hb7
   have HS7:=zh hs7
   have HLen:=zh hlen
   clear hr6 hlen hx hs7 hls hb7
   have hjR2:(j:Int)<(R:Int):=by omega
   have hcell:∀W,Below W7.heap.size W7 W→W.cell? ⟨w1.heap.size,j*2,none⟩=some (.int .i64 (ow:Int))∧W.cell? ⟨w1.heap.size,j*2+1,none⟩=some (.int .i64 (sq:Int)):=fun W hW=>q52z (heapOld hW HS7.out) (leasedRow_at HLS.out (by rw[HLen.out]; have:=HJ.out; omega) HJ.out)
   have HCell:=zh hcell
   clear hcell
   go_wp2_with fail
   rw[HOR.out,hW7]
   clear c0 c1 v0 v1
   have hcat1:=text_cat [32] (digitsL ow)
   have hcat2:=text_cat (32 :: digitsL ow) [46]
   have hcat3:=text_cat (32 :: digitsL ow ++ [46]) (digitsL sq)
   have hcat4:=text_cat (wLeases ++ leasesL s k) (32 :: digitsL ow ++ [46] ++ digitsL sq)
   have hq:wLeases ++ leasesL s k ++ (32 :: digitsL ow ++ [46] ++ digitsL sq)=wLeases ++ leasesL s (k+1):=by
    rw[HSN.out]
    simp only[List.append_assoc,List.cons_append,List.nil_append]
   rw[hq] at hcat4
   have hz0:=HSz.out k (by omega)
   have hz1:=q9z HLO.out
   have hz2:=q9z HLQ.out
   have s1:(ofL (digitsL ow)).size≤19:=by rw[ofL_size]; exact hz1
   have s2:(ofL (32 :: digitsL ow)).size≤20:=by rw[ofL_size,List.length_cons]; omega
   have s3:(ofL (32 :: digitsL ow ++ [46])).size≤21:=by rw[ofL_size,List.length_append,List.length_cons,List.length_cons]; simp; omega
   have s4:(ofL (digitsL sq)).size≤19:=by rw[ofL_size]; exact hz2
   have s5:(ofL (32 :: digitsL ow ++ [46] ++ digitsL sq)).size≤40:=by rw[ofL_size,List.length_append,List.length_append,List.length_cons,List.length_cons]; simp; omega
   rw[←ofL_size] at hz0
   have n1:=fun(W:World) (h:TabOk W)=>HNUM.out W ow HLO.out h
   have n2:=fun(W:World) (h:TabOk W)=>HNUM.out W sq HLQ.out h
   obtain⟨D1,hD1⟩:=zx (ofL (digitsL ow))
   obtain⟨D2,hD2⟩:=zx (ofL (digitsL sq))
   obtain⟨X1,hX1⟩:=zx (ofL (32 :: digitsL ow))
   obtain⟨X2,hX2⟩:=zx (ofL (32 :: digitsL ow ++ [46]))
   obtain⟨X3,hX3⟩:=zx (ofL (32 :: digitsL ow ++ [46] ++ digitsL sq))
   obtain⟨A,hA⟩:=zx (ofL (wLeases ++ leasesL s k))
   obtain⟨C,hC⟩:=zx (ofL (wLeases ++ leasesL s (k+1)))
   change ofL [32] ++ ofL (digitsL ow)=ofL (32 :: digitsL ow) at hcat1
   rw[hD1,hX1] at hcat1
   rw[hX1,hX2] at hcat2
   rw[hX2,hD2,hX3] at hcat3
   rw[hA,hX3,hC] at hcat4
   rw[hA] at hz0 ⊢
   rw[hD1] at s1 n1
   rw[hX1] at s2
   rw[hX2] at s3
   rw[hD2] at s4 n2
   rw[hX3] at s5
   change (⟨#[32]⟩:ByteArray) ++ D1=X1 at hcat1
   change X1 ++ (⟨#[46]⟩:ByteArray)=X2 at hcat2
   have hl1:¬9223372036854775807<1+D1.size:=by omega
   have hl2:¬9223372036854775807<X1.size+1:=by omega
   have hl3:¬9223372036854775807<X2.size+D2.size:=by omega
   have hl4:¬9223372036854775807<A.size+X3.size:=by omega
   have HC:=zh hC
   have HTB:Hid (∀W,Below W7.heap.size W7 W→TabOk W):=fun W hW=>HT.out.below (blN (blN HB0.out HB7.out) hW)
   have N1:=zh n1
   have N2:=zh n2
   clear n1 n2
   clear hA hC hD1 hD2 hX1 hX2 hX3 s1 s2 s3 s4 s5 hz0 hz1 hz2 hq
   go_region_held3 (fun W=>W.cell? ⟨w1.heap.size,j*2,none⟩=some (.int .i64 (ow:Int))∧W.cell? ⟨w1.heap.size,j*2+1,none⟩=some (.int .i64 (sq:Int)))
    ((refine HCell.out _ ?_; repeat' first | with_reducible exact Below.refl _ _ | with_reducible exact HB8.out | with_reducible exact HB9.out | with_reducible refine blD ?_ | with_reducible refine bl1 ?_ _))
    (first
      | (go_at_call_of 16 (Value.int .i64 (ow:Int))
         refine(N1.out _ ?a1).mono ?_
         case a1=>
          refine HTB.out _ ?_
          repeat' first | with_reducible exact Below.refl _ _ | with_reducible refine blD ?_ | with_reducible refine bl1 ?_ _
         rintro e w8 ⟨rfl,hb8⟩
         have HB8:Hid (Below W7.heap.size W7 w8):=blN (by repeat' first | with_reducible exact Below.refl _ _ | with_reducible refine blD ?_ | with_reducible refine bl1 ?_ _) hb8
         clear hb8
         simp only)
      | (go_at_call_of 16 (Value.int .i64 (sq:Int))
         refine(N2.out _ ?a1).mono ?_
         case a1=>
          refine HTB.out _ ?_
          repeat' first | with_reducible exact HB8.out | with_reducible refine blD ?_ | with_reducible refine bl1 ?_ _
         rintro e w9 ⟨rfl,hb9⟩
         have HB9:Hid (Below W7.heap.size W7 w9):=blN (by repeat' first | with_reducible exact HB8.out | with_reducible refine blD ?_ | with_reducible refine bl1 ?_ _) hb9
         clear hb9
         simp only))
   all_goals
    have HR8:Hid (w9.heap[w1.heap.size]? = some (leasO (q3z s R f (k+1)) 97)):=heapOld HB9.out HS7.out
    have HBx:Hid (Below W0.heap.size W0 w9):=blN HB7.out HB9.out
    go_wp2
    go_roundw
    case rel=>exact⟨k+1,by omega,by have:=HJ.out; go_num,by rw[HC.out],HR8,HBx⟩
    case measure=>have:=HJ.out; simp[intOf]; omega
  --]
  ·obtain rfl:k=n:=by omega
   have f1:decide ((j:Int)<min (R:Int) ((f:Int)+16))=false:=decide_eq_false (by have:=HN.out; omega)
   have hk16:k≤16:=by have:=HN.out; omega
   have hll:(q3z s R f k).length=R:=leasedRow_length (by have:=HN.out; omega)
   have hrow2:∀W,Below w3.heap.size w3 W→Leases W (.slice (some ⟨w1.heap.size,0,none⟩) R R) (q3z s R f k):=fun W hW=>leas_row (heapOld hW HR.out) (by rw[hll]; unfold maxLen; omega) hll.symm
   have hen:=fun(W:World) (hW:Below w3.heap.size w3 W)=>tencode_any W ⟨ga,gb,gc⟩ _ _ (hrow2 W hW)
   unfold TEnc gV at hen
   obtain⟨z0,z1,z2⟩:=HK.out w3 HB.out
   have HFin:Hid (∀(b:Bool) (w':World),b=decide (isLeases ⟨ga,gb,gc⟩ a s)→Below w.heap.size w w'→Q (.returned (.tuple #[.string (ofL (wLeases ++ leasesL s k)),.bool b])) w'):=fun b w' hb hw=>by
    rw[←HQ.out]
    unfold LeasedPost
    rw[HNN.out,hb]
    exact⟨rfl,hw⟩
   have hisl:isLeases ⟨ga,gb,gc⟩ a s↔(∀i,i<k→ownerAt s i≤2)∧(s.data.toList.drop (4*k)).all (fun b=>b == 0)=true:=by
    unfold isLeases
    rw[HNN.out]
   by_cases hown:∀i,i<k→ownerAt s i≤2
   ·have hc:tableC ⟨ga,gb,gc⟩ (q3z s R f k)=0:=by
     unfold tableC
     rw[if_pos ⟨HG.out,by rw[hll]; exact HR0.out.symm⟩,if_pos (leasedRow_ok.2 hown)]
    unfold tableN at hen
    rw[hc,if_pos rfl] at hen
    have hpN:p<(Sp.Geom.tables ⟨ga,gb,gc⟩).toNat:=by
     unfold Sp.Geom.tables
     rw[HR0.out]
     have:=HF.out
     omega
    have htx:=tabB_at (n:=(Sp.Geom.tables ⟨ga,gb,gc⟩).toNat) (q3z s R f k) hpN
    rw[HF.out,leasedRow_sec HS.out HN.out.symm] at htx
    have hsame:=leased_same HS.out hk16
    obtain⟨X,hX⟩:=zx (ofL (s.data.toList.take (4*k) ++ zeros (64-4*k)))
    rw[hX] at htx hsame
    have fX:=list_eq X s
    have hdec:decide (X=s)=decide (isLeases ⟨ga,gb,gc⟩ a s):=decide_eq_decide.2 (by rw[hisl,hsame]; exact⟨fun h=>⟨hown,h⟩,fun h=>h.2⟩)
    have e5:IntKind.i64.wrap (a-2)=(p:Int):=by rw[IntWalk.i64_in _ (by have:=HA.out; have:=HF.out; omega)]; have:=HA.out; omega
    obtain⟨tn,htn⟩:=zx ((Sp.Geom.tables ⟨ga,gb,gc⟩).toNat)
    rw[htn] at hpN htx hen
    have HTX:=zh htx
    have HDec:=zh hdec
    have HEN:=zh hen
    have HPN:=zh hpN
    clear hen hpN
    clear htx hsame hX hdec hisl hown hc hll hrow2 htn
    go_wp2_with fail
    refine(HEN.out _ (Below.refl _ _)).mono ?_
    rintro e w8 ⟨v,rfl,hown8,hb8⟩
    clear z0 z1 z2
    have hown9:=hown8.texts
    obtain⟨ad,N,cap,rfl,HN8,hn8,HF8⟩:=texts_facts hown9
    have hpN:p<N:=by rw[HN8.out,tabB_length]; exact HPN.out
    have hpN2:(p:Int)<(N:Int):=by omega
    obtain⟨b,o,x,rfl,hbb,hx,hcl⟩:=HF8.out p hpN
    obtain rfl:X=x:=Option.some.inj (HTX.out.symm.trans hx)
    have HB8:=zh (blN HB.out hb8)
    clear hown8 hown9 hb8 hx HF8
    have HCell:Hid (∀W,Below w8.heap.size w8 W→W.cell? ⟨b,o+p,none⟩=some (.string X)):=fun W hW=>(hW.cell (p:=⟨b,o+p,none⟩) hbb).trans hcl
    clear hcl
    go_wp2_with fail
    go_region_held3 (fun W=>W.cell? ⟨b,o+p,none⟩=some (.string X))
     ((refine HCell.out _ ?_; repeat' first | with_reducible exact Below.refl _ _ | with_reducible refine blD ?_ | with_reducible refine bl1 ?_ _))
     (fail)
    all_goals
     go_wp2
     first | exact HFin.out _ _ HDec.out (blN HB0.out (blD HB8.out)) | (go_ret2; exact HFin.out _ _ HDec.out (blN HB0.out (blD HB8.out)))
   ·have hc:tableC ⟨ga,gb,gc⟩ (q3z s R f k)=80:=by
     unfold tableC
     rw[if_pos ⟨HG.out,by rw[hll]; exact HR0.out.symm⟩,if_neg (fun h=>hown (leasedRow_ok.1 h))]
    rw[hc] at hen
    have hdec:false=decide (isLeases ⟨ga,gb,gc⟩ a s):=(decide_eq_false (fun h=>hown (hisl.1 h).1)).symm
    have HDec:=zh hdec
    have HEN:=zh hen
    clear hen
    clear hdec hisl hown hc hll hrow2
    go_wp2_with fail
    refine(HEN.out _ (Below.refl _ _)).mono ?_
    rintro e w8 ⟨v,rfl,hown8,hb8⟩
    have HB8:=zh (blN HB.out hb8)
    clear z0 z1 z2 hown8 hb8
    go_wp2_with fail
    refine wp_region_held_drew (S:=fun _=>True) (by kernel_rfl) (by first | trivial | assumption) (fun hHeld=>?_)
    refine tkH 0 ?_; simp only[Act.put,ps0]
    refine tkH 1 ?_; simp only[Act.put,ps0]
    refine tkH 2 ?_; simp only[Act.put,ps0]
    refine tkH 3 ?_; simp only[Act.put,ps0]
    refine wpAnyH_take (i:=4) (v:=undef) rfl (by kernel_rfl) (by kernel_rfl) (by kernel_rfl) (fun _ _ _ h=>h) (Or.inr ⟨by rfl,rfl⟩) hHeld ?_
    simp only[Act.put,ps0]
    refine wpAnyH_take (i:=5) (v:=undef) rfl (by kernel_rfl) (by kernel_rfl) (by kernel_rfl) (fun _ _ _ h=>h) (Or.inr ⟨by rfl,rfl⟩) hHeld ?_
    simp only[Act.put,ps0]
    refine wpAnyH_take (i:=6) (v:=undef) rfl (by kernel_rfl) (by kernel_rfl) (by kernel_rfl) (fun _ _ _ h=>h) (Or.inr ⟨by rfl,rfl⟩) hHeld ?_
    simp only[Act.put,ps0]
    refine wpAnyH_take (i:=7) (v:=undef) rfl (by kernel_rfl) (by kernel_rfl) (by kernel_rfl) (fun _ _ _ h=>h) (Or.inr ⟨by rfl,rfl⟩) hHeld ?_
    simp only[Act.put,ps0]
    refine wpAnyH_take (i:=8) (v:=undef) rfl (by kernel_rfl) (by kernel_rfl) (by kernel_rfl) (fun _ _ _ h=>h) (Or.inr ⟨by rfl,rfl⟩) hHeld ?_
    simp only[Act.put,ps0]
    refine wpAnyH_take (i:=9) (v:=undef) rfl (by kernel_rfl) (by kernel_rfl) (by kernel_rfl) (fun _ _ _ h=>h) (Or.inr ⟨by rfl,rfl⟩) hHeld ?_
    simp only[Act.put,ps0]
    refine wpAnyH_take (i:=10) (v:=undef) rfl (by kernel_rfl) (by kernel_rfl) (by kernel_rfl) (fun _ _ _ h=>h) (Or.inr ⟨by rfl,rfl⟩) hHeld ?_
    simp only[Act.put,ps0]
    refine tkH 11 ?_; simp only[Act.put,ps0]
    refine tkH 12 ?_; simp only[Act.put,ps0]
    refine tkH 13 ?_; simp only[Act.put,ps0]
    refine wpAnyH_done (by kernel_rfl) ?_ _
    all_goals
     go_wp2
     first | exact HFin.out _ _ HDec.out (blN HB0.out (blD HB8.out)) | (go_ret2; exact HFin.out _ _ HDec.out (blN HB0.out (blD HB8.out)))
end
def q12z (s:ByteArray) (k:Nat):List UInt8:=(List.range k).flatMap (slotAt s)
theorem slotAt_length {s:ByteArray} (hs:s.size=64) {k:Nat} (hk:k<4):(slotAt s k).length=16:=by
 have hl:s.data.toList.length=64:=by rw[Array.length_toList]; exact hs
 unfold slotAt
 rw[List.length_take,List.length_drop,hl]
 omega
theorem slotsL_snoc (s:ByteArray) (k:Nat):q12z s (k+1)=q12z s k ++ slotAt s k:=by
 unfold q12z
 rw[List.range_succ,List.flatMap_append,List.flatMap_cons,List.flatMap_nil,List.append_nil]
theorem slotsL_take (s:ByteArray):∀k,q12z s k=s.data.toList.take (16*k)
 | 0=>by simp[q12z]
 | k+1=>by
   rw[slotsL_snoc,slotsL_take s k,Nat.mul_succ,List.take_add]
   rfl
theorem slotsL_length {s:ByteArray} (hs:s.size=64) {k:Nat} (hk:k≤4):(q12z s k).length=16*k:=by
 have hl:s.data.toList.length=64:=by rw[Array.length_toList]; exact hs
 rw[slotsL_take,List.length_take,hl]
 omega
theorem slotsT_step {s:ByteArray} (hs:s.size=64) {k:Nat} (hk:k<4):patchL (padL (q12z s k)) (16*k) (slotAt s k)=padL (q12z s (k+1)):=by
 have h:=patch_pad (q:=q12z s k) (x:=slotAt s k) (by rw[slotsL_length hs (by omega),slotAt_length hs hk]; omega)
 rw[slotsL_length hs (by omega)] at h
 rw[h,slotsL_snoc]
theorem slotsT_zero (s:ByteArray):ofL (padL (q12z s 0))=Sp.blank:=rfl
theorem slotsT_size {s:ByteArray} (hs:s.size=64) {k:Nat} (hk:k≤4):(ofL (padL (q12z s k))).size=64:=by
 rw[ofL_size]
 unfold padL
 rw[List.length_append,zeros_length,slotsL_length hs hk]
 omega
theorem slotsT_all {s:ByteArray} (hs:s.size=64):ofL (padL (q12z s 4))=s:=by
 have hl:s.data.toList.length=64:=by rw[Array.length_toList]; exact hs
 rw[slotsL_take,List.take_of_length_le (by omega)]
 unfold padL
 rw[hl]
 show ofL (s.data.toList ++ [])=s
 rw[List.append_nil]
 rfl
def q11z (s:ByteArray) (k:Nat):List UInt8:=wDir ++ (List.range k).flatMap (fun i=>32 :: slotW (slotOf s i))
theorem wordsL_snoc (s:ByteArray) (k:Nat):q11z s (k+1)=q11z s k ++ 32 :: slotW (slotOf s k):=by
 unfold q11z
 rw[List.range_succ,List.flatMap_append,List.flatMap_cons,List.flatMap_nil,List.append_nil,List.append_assoc]
theorem wordsL_le (s:ByteArray):∀k,(q11z s k).length≤3+101*k
 | 0=>by simp[q11z,wDir]
 | k+1=>by
   have h1:=slotW_le s k
   have h2:=wordsL_le s k
   rw[wordsL_snoc,List.length_append,List.length_cons]
   omega
theorem told_dir {g:Sp.Geom} {a:Int} {s:ByteArray} (hk:(g.kind a).1=6):told g a s=if isDirS s then some (q11z s 4) else none:=by
 unfold told
 rw[if_neg (by omega),if_neg (by omega),if_neg (by omega),if_neg (by omega),if_pos hk]
 rfl
theorem slotW_one {n:Nat} {N:ByteArray} (h:0<n):slotW ⟨(n:Int),N⟩=digitsL n ++ 58 :: hexL N.data.toList:=by
 unfold slotW
 rw[if_pos (show(n:Int) > 0 by omega)]
 rfl
section
theorem dir_index (s:ByteArray):∀k:Nat,k<4→∀W:World,(Instr.index 155 (.agg (dirA s 4)) (.int .i64 (k:Int))).run Tryz.prog W = .ok (.agg #[.int .i64 (slotOf s k).inode,.string (slotOf s k).name]) W
 | 0,_,_=>by kernel_rfl
 | 1,_,_=>by kernel_rfl
 | 2,_,_=>by kernel_rfl
 | 3,_,_=>by kernel_rfl
 | k+4,h,_=>absurd h (by omega)
theorem told_yes {s:ByteArray} {w w':World} (h:isDirS s) (hb:Below w.heap.size w w'):q2z (if isDirS s then some (q11z s 4) else none) w (.returned (.tuple #[.string (ofL (q11z s 4)),.bool true])) w':=by
 rw[if_pos h]
 exact q23z rfl rfl (fun L hL=>by rw[Option.some.inj hL]) hb
theorem told_no {s:ByteArray} {w w':World} (h:¬isDirS s) (hb:Below w.heap.size w w'):q2z (if isDirS s then some (q11z s 4) else none) w (.returned (.tuple #[.string ⟨#[]⟩,.bool false])) w':=by
 rw[if_neg h]
 exact q23z rfl rfl (fun L hL=>absurd hL (by simp)) hb
theorem dlisted_any (w:World) (g:Sp.Geom) (a:Int) (s:ByteArray) (hs:s.size=64) (hk:(g.kind a).1=6) (ht:TabOk w) (hm:MaxOk w) :
 Calls Tryz.prog 97 #[.string s] w (q2z (told g a s) w):=by
 rw[told_dir hk]
 have hd:=fun(W:World) (hm:MaxOk W)=>edecode_any W s hm
 unfold EDec at hd
 have HM:=zh hm
 have HT:=zh ht
 by_cases hdir:isDirS s
 rotate_left
 ·rw[if_neg hdir,if_neg hdir] at hd
  have HNo:Hid (∀w',Below w.heap.size w w'→q2z (if isDirS s then some (q11z s 4) else none) w (.returned (.tuple #[.string ⟨#[]⟩,.bool false])) w'):=fun w' hb=>told_no hdir hb
  obtain⟨Q,hQ⟩:=zx (q2z (if isDirS s then some (q11z s 4) else none) w)
  rw[hQ] at HNo ⊢
  have h0:dirA s 0=#[.int .i64 0,.string ⟨#[]⟩,.int .i64 0,.string ⟨#[]⟩,.int .i64 0,.string ⟨#[]⟩,.int .i64 0,.string ⟨#[]⟩]:=rfl
  rw[h0] at hd
  have HD:=zh hd
  clear hd
  clear hdir hQ hm ht hk hs h0
  go_enter Tryz.func97,Tryz.ntmps97
  go_wp2_with fail
  refine(HD.out _ HM.out).mono ?_
  rintro e w1 ⟨rfl,hb1⟩
  go_wp2
  first | exact HNo.out _ (bl1 hb1 _) | (go_ret2; exact HNo.out _ (bl1 hb1 _))
 rw[if_pos hdir,if_pos hdir] at hd
 have HYes:Hid (∀w',Below w.heap.size w w'→q2z (if isDirS s then some (q11z s 4) else none) w (.returned (.tuple #[.string (ofL (q11z s 4)),.bool true])) w'):=fun w' hb=>told_yes hdir hb
 obtain⟨Q,hQ⟩:=zx (q2z (if isDirS s then some (q11z s 4) else none) w)
 rw[hQ] at HYes ⊢
 have hbl:=fun W:World=>fblank_any W
 rw[←slotsT_zero s] at hbl
 have hix:=dir_index s
 have HS:=zh hs
 have HDir:=zh hdir
 have HW:Hid ((⟨#[100,105,114]⟩:ByteArray)=ofL (q11z s 0)):=rfl
 unfold dirA dirL at hd hix
 simp only[if_pos (show 0<4 by omega),if_pos (show 1<4 by omega),if_pos (show 2<4 by omega),if_pos (show 3<4 by omega)] at hd hix
 have HD:=zh hd
 have HBL:=zh hbl
 have HIX:=zh hix
 clear hd hbl hix
 clear hQ hdir hm ht hk hs
 go_enter Tryz.func97,Tryz.ntmps97
 go_wp2_with fail
 refine(HD.out _ HM.out).mono ?_
 rintro e w1 ⟨rfl,hb1⟩
 obtain⟨W2,hW2⟩:=zx (w1.alloc (.cells #[.int .i64 (slotOf s 0).inode,.string (slotOf s 0).name,.int .i64 (slotOf s 1).inode,.string (slotOf s 1).name,.int .i64 (slotOf s 2).inode,.string (slotOf s 2).name,.int .i64 (slotOf s 3).inode,.string (slotOf s 3).name] 155))
 have HB2:Hid (Below w.heap.size w W2):=by rw[←hW2]; exact bl1 hb1 _
 have hz2:W2.heap[w1.heap.size]? = some (.cells #[.int .i64 (slotOf s 0).inode,.string (slotOf s 0).name,.int .i64 (slotOf s 1).inode,.string (slotOf s 1).name,.int .i64 (slotOf s 2).inode,.string (slotOf s 2).name,.int .i64 (slotOf s 3).inode,.string (slotOf s 3).name] 155 (0,0)):=by rw[←hW2]; exact heapNew w1 _
 have HZ2:=zh hz2
 clear hb1 hz2
 go_wp2_with fail
 clear hW2
 refine(HBL.out _).mono ?_
 rintro e w3 ⟨rfl,hb3⟩
 have HB3:=zh (blN HB2.out hb3)
 have hz:=heapOld hb3 HZ2.out
 have y0:w3.cell? ⟨w1.heap.size,0,none⟩=some (.int .i64 (slotOf s 0).inode):=cellOf hz rfl
 have y1:w3.cell? ⟨w1.heap.size,1,none⟩=some (.string (slotOf s 0).name):=cellOf hz rfl
 have y2:w3.cell? ⟨w1.heap.size,2,none⟩=some (.int .i64 (slotOf s 1).inode):=cellOf hz rfl
 have y3:w3.cell? ⟨w1.heap.size,3,none⟩=some (.string (slotOf s 1).name):=cellOf hz rfl
 have y4:w3.cell? ⟨w1.heap.size,4,none⟩=some (.int .i64 (slotOf s 2).inode):=cellOf hz rfl
 have y5:w3.cell? ⟨w1.heap.size,5,none⟩=some (.string (slotOf s 2).name):=cellOf hz rfl
 have y6:w3.cell? ⟨w1.heap.size,6,none⟩=some (.int .i64 (slotOf s 3).inode):=cellOf hz rfl
 have y7:w3.cell? ⟨w1.heap.size,7,none⟩=some (.string (slotOf s 3).name):=cellOf hz rfl
 clear hb3 hz
 have hsz3:(ofL (padL (q12z s 0))).size=64:=slotsT_size HS.out (by omega)
 go_wp2_with fail
 rw[HW.out]
 clear y0 y1 y2 y3 y4 y5 y6 y7
 go_loopw [6,7,22] (fun l t i wr=>∃k:Nat,k≤4∧i = .int .i64 (k:Int)∧l = .string (ofL (q11z s k))∧t = .string (ofL (padL (q12z s k)))∧Hid (Below w.heap.size w wr)) (fun _ _ i _=>4-(intOf i).toNat)
 case atStart=>exact⟨0,Nat.zero_le _,rfl,rfl,rfl,HB3⟩
 case round=>
  obtain⟨k,hk,rfl,rfl,rfl,HB⟩:=hrel
  by_cases hlt:k<4
  ·have hlt2:(k:Int)<4:=by omega
   have hok:=(HDir.out.2 k hlt).1
   have hmay:=hok.2.1
   have hsl:=hok.2.2
   obtain⟨hn0,hn1,hnz⟩:=may_bd hmay
   have hix:=HIX.out k hlt
   have hst:=slotsT_step HS.out hlt
   have hln:=slotAt_length HS.out hlt
   have hwn:=wordsL_snoc s k
   obtain⟨⟨n,N⟩,hx⟩:∃x,slotOf s k=x:=⟨_,rfl⟩
   rw[hx] at hmay hsl hn0 hn1 hnz hix hwn
   rw[←hsl] at hst hln
   simp only at hn0 hn1 hnz
   obtain⟨n,rfl⟩:∃q:Nat,n=(q:Int):=⟨n.toNat,by omega⟩
   have hput:=fun(W:World) (hm:MaxOk W)=>eput_any W (k:Int) ⟨(n:Int),N⟩ hm (by unfold maxLen; show N.size≤_; omega)
   unfold EPut eV at hput
   rw[if_neg (by omega),if_pos hmay] at hput
   obtain⟨p,hp⟩:=zx (16*k)
   rw[show(k:Int)*16=(p:Int) by omega] at hput
   rw[hp] at hst
   obtain⟨S,hS⟩:=zx (ofL (slotL ⟨(n:Int),N⟩))
   have hSd:S.data.toList=slotL ⟨(n:Int),N⟩:=by rw[←hS,ofL_data]
   have hS16:S.size=16:=by rw[←hS,ofL_size,hln]
   rw[hS] at hput
   rw[←hSd] at hst
   have hts:=slotsT_size HS.out (show k≤4 by omega)
   have htd:(ofL (padL (q12z s k))).data.toList=padL (q12z s k):=ofL_data _
   obtain⟨T,hT⟩:=zx (ofL (padL (q12z s k)))
   rw[hT] at hts htd
   have hpt:=fun(W:World) (v:Value) (hv:Pats W v [((p:Int),S)])=>fpatched_any W T v [((p:Int),S)] hv hts (by simp) (by
    intro q hq
    rw[List.mem_singleton] at hq
    subst hq
    exact⟨by simp only; omega,by simp only[hS16]; decide,by simp only[hS16]; decide,by simp only[hS16]; omega⟩)
   have hpe:patchedL T.data.toList [((p:Int),S)]=patchL T.data.toList p S.data.toList:=rfl
   rw[hpe,htd,hst] at hpt
   have hzw:=wordsL_le s k
   have hzs:=slotW_le s k
   rw[hx] at hzs
   have hcat1:=text_cat [32] (slotW ⟨(n:Int),N⟩)
   have hcat2:=text_cat (q11z s k) (32 :: slotW ⟨(n:Int),N⟩)
   rw[←hwn] at hcat2
   have s1:(ofL (slotW ⟨(n:Int),N⟩)).size≤100:=by rw[ofL_size]; exact hzs
   have s2:(ofL (32 :: slotW ⟨(n:Int),N⟩)).size≤101:=by rw[ofL_size,List.length_cons]; omega
   have s3:(ofL (q11z s k)).size≤1000:=by rw[ofL_size]; omega
   have hw0:n=0→(⟨#[45]⟩:ByteArray)=ofL (slotW ⟨(n:Int),N⟩):=fun h=>by rw[h]; rfl
   have hw1:0<n→ofL (digitsL n) ++ (⟨#[58]⟩:ByteArray) ++ ofL (hexL N.data.toList)=ofL (slotW ⟨(n:Int),N⟩):=fun h=>by
    rw[slotW_one h]
    show ofL (digitsL n) ++ ofL [58] ++ ofL (hexL N.data.toList)=_
    rw[text_cat,text_cat,List.append_assoc]
    rfl
   obtain⟨Wd,hWd⟩:=zx (ofL (slotW ⟨(n:Int),N⟩))
   obtain⟨X,hX⟩:=zx (ofL (32 :: slotW ⟨(n:Int),N⟩))
   obtain⟨L,hL⟩:=zx (ofL (q11z s k))
   obtain⟨M,hM⟩:=zx (ofL (q11z s (k+1)))
   obtain⟨T2,hT2⟩:=zx (ofL (padL (q12z s (k+1))))
   change ofL [32] ++ ofL (slotW ⟨(n:Int),N⟩)=ofL (32 :: slotW ⟨(n:Int),N⟩) at hcat1
   rw[hWd] at hcat1 s1 hw0 hw1
   rw[hX] at hcat1 hcat2 s2
   rw[hL] at hcat2 s3
   rw[hM] at hcat2
   rw[hT2] at hpt
   rw[hL,hT]
   change (⟨#[32]⟩:ByteArray) ++ Wd=X at hcat1
   have hl1:¬9223372036854775807<1+Wd.size:=by omega
   have hl2:¬9223372036854775807<L.size+X.size:=by omega
   have HMM:=zh hM
   have HTT:=zh hT2
   have HN:=zh hnz
   have HW0:=zh hw0
   have HW1:=zh hw1
   have HPUT:=zh hput
   have HPT:=zh hpt
   clear hput hpt
   clear hn0 hS hSd hts htd hT hWd hX hL hM hT2 hzw hzs hwn hst hsl hok hmay hx hln hp hpe hw0 hw1 hnz s1 s2 s3
   obtain⟨W4,hW4⟩:=zx (wr.alloc (.cells #[.int .i64 (n:Int),.string N] 114))
   have HB4:Hid (Below w.heap.size w W4):=by rw[←hW4]; exact bl1 HB.out _
   have hz4:W4.heap[wr.heap.size]? = some (.cells #[.int .i64 (n:Int),.string N] 114 (0,0)):=by rw[←hW4]; exact heapNew wr _
   have HKX:Hid (∀W,Below W4.heap.size W4 W→W.cell? ⟨wr.heap.size,0,none⟩=some (.int .i64 (n:Int))∧W.cell? ⟨wr.heap.size,1,none⟩=some (.string N)):=fun W hW=>⟨cellOf (heapOld hW hz4) rfl,cellOf (heapOld hW hz4) rfl⟩
   clear hz4
   obtain⟨x0,x1⟩:=HKX.out W4 (Below.refl _ _)
   by_cases hn:0<n
   rotate_left
   focus
    have hcat0:(⟨#[32]⟩:ByteArray) ++ ⟨#[45]⟩=X:=by rw[HW0.out (by omega)]; exact hcat1
    go_wp2_with fail
    clear x0 x1 hcat0
    obtain⟨w5,hw5⟩:=zx (W4)
    have HB5:Hid (Below W4.heap.size W4 w5):=by rw[←hw5]; exact Below.refl _ _
    rw[hw5]
    clear hw5
   rotate_left
   focus
    have hnum:=fun(W:World) (h:TabOk W)=>q44z W n (by omega) h
    have hhex:=fun W:World=>dhex_any W N (by have:=HN.out; omega)
    have hc1:=text_cat (digitsL n) [58]
    have q1:(ofL (digitsL n)).size≤19:=by rw[ofL_size]; exact q9z (by omega)
    have q2:(ofL (digitsL n ++ [58])).size≤20:=by rw[ofL_size,List.length_append]; rw[ofL_size] at q1; simp; omega
    have q3:(ofL (hexL N.data.toList)).size≤26:=by
     rw[ofL_size,q26z]
     have:N.data.toList.length=N.size:=Array.length_toList
     have:=HN.out
     omega
    have hc2:=HW1.out hn
    change ofL (digitsL n) ++ ofL [58] ++ ofL (hexL N.data.toList)=Wd at hc2
    rw[hc1] at hc2
    obtain⟨D,hD⟩:=zx (ofL (digitsL n))
    obtain⟨DX,hDX⟩:=zx (ofL (digitsL n ++ [58]))
    obtain⟨H,hH⟩:=zx (ofL (hexL N.data.toList))
    rw[hD] at hnum hc1 q1
    rw[hDX] at hc1 hc2 q2
    rw[hH] at hhex hc2 q3
    change D ++ (⟨#[58]⟩:ByteArray)=DX at hc1
    have hl3:¬9223372036854775807<D.size+1:=by omega
    have hl4:¬9223372036854775807<DX.size+H.size:=by omega
    have HTB:Hid (∀W,Below W4.heap.size W4 W→TabOk W):=fun W hW=>HT.out.below (blN HB4.out hW)
    have HNUM:=zh hnum
    have HHEX:=zh hhex
    clear hnum hhex
    clear hD hDX hH q1 q2 q3
    go_wp2_with fail
    clear x0 x1
    go_region_held3 (fun W=>W.cell? ⟨wr.heap.size,0,none⟩=some (.int .i64 (n:Int))∧W.cell? ⟨wr.heap.size,1,none⟩=some (.string N))
     ((refine HKX.out _ ?_; repeat' first | with_reducible exact Below.refl _ _ | with_reducible exact HBa.out | with_reducible exact HB5.out | with_reducible refine blD ?_ | with_reducible refine bl1 ?_ _))
     (first
       | (go_at_call 16
          refine(HNUM.out _ ?a1).mono ?_
          case a1=>
           refine HTB.out _ ?_
           repeat' first | with_reducible exact Below.refl _ _ | with_reducible refine blD ?_ | with_reducible refine bl1 ?_ _
          rintro e wa ⟨rfl,hba⟩
          have HBa:Hid (Below W4.heap.size W4 wa):=blN (by repeat' first | with_reducible exact Below.refl _ _ | with_reducible refine blD ?_ | with_reducible refine bl1 ?_ _) hba
          clear hba
          simp only)
       | (go_at_call 98
          refine(HHEX.out _).mono ?_
          rintro e w5 ⟨rfl,hb5⟩
          have HB5:Hid (Below W4.heap.size W4 w5):=blN (by repeat' first | with_reducible exact HBa.out | with_reducible refine blD ?_ | with_reducible refine bl1 ?_ _) hb5
          clear hb5
          simp only))
    all_goals
     go_wp2_with fail
   all_goals
    refine(HPUT.out _ (HM.out.below (blN HB4.out HB5.out))).mono ?_
    rintro e w6 ⟨rfl,hb6⟩
    have HB6:=zh (blN (blN HB4.out HB5.out) hb6)
    clear hb6
    obtain⟨W7,hW7⟩:=zx (w6.alloc (.cells #[.int .i64 (p:Int),.string S] 99))
    have HB7:Hid (Below w.heap.size w W7):=by rw[←hW7]; exact bl1 HB6.out _
    have hz7:W7.heap[w6.heap.size]? = some (.cells #[.int .i64 (p:Int),.string S] 99 (0,0)):=by rw[←hW7]; exact heapNew w6 _
    have p0:=zc 0 hz7
    have p1:=zc 1 hz7
    clear hz7
    go_wp2_with fail
    refine(HPT.out _ _ (pats_one (heapNew W7 _))).mono ?_
    rintro e w8 ⟨rfl,hb8⟩
    have HB8:=zh (blN (bl1 HB7.out _) hb8)
    clear hb8 p0 p1 hW7
    go_wp2
    go_roundw
    case rel=>exact⟨k+1,by omega,by go_num,by rw[HMM.out],by rw[HTT.out],HB8⟩
    case measure=>simp[intOf]; omega
  ·obtain rfl:k=4:=by omega
   have hlt2:¬(4:Int)<4:=by omega
   rw[slotsT_all HS.out]
   have fs:(s.toList == s.toList)=true:=beq_self_eq_true _
   go_wp2
   first | exact HYes.out _ HB.out | (go_ret2; exact HYes.out _ HB.out)
end
