import Derived.Test.YtgofmnhfajmbfaaGreatDoorDumpWhat
namespace Go.Proofs.YtgofmnhfajmbfaaGreatDoor
open Go Go.RowKit Txt Sp
theorem flat_le {α:Type} {f:α→List UInt8} {k:Nat}:∀l:List α,(∀x∈l,(f x).length≤k)→(l.flatMap f).length≤k*l.length
 | [],_=>by simp
 | x :: r,h=>by
   rw[List.flatMap_cons,List.length_append,List.length_cons,Nat.mul_succ]
   have h1:=h x (by simp)
   have h2:=flat_le r (fun y hy=>h y (List.mem_cons_of_mem _ hy))
   omega
theorem numL_lt:∀l:List UInt8,numL l<256 ^ l.length
 | []=>by simp[numL]
 | b :: r=>by
   have h:=numL_lt r
   have hb:=UInt8.toNat_lt b
   rw[numL,List.length_cons,Nat.pow_succ]
   omega
theorem q137z (s:ByteArray) (off:Nat) {b:Nat} (hb:b≤4):numAt s off b<9223372036854775808:=by
 have h:=numL_lt ((s.data.toList.drop off).take b)
 have hl:((s.data.toList.drop off).take b).length≤4:=by rw[List.length_take]; omega
 have h2:256 ^ ((s.data.toList.drop off).take b).length≤256 ^ 4:=Nat.pow_le_pow_right (by decide) hl
 unfold numAt
 have:(256:Nat) ^ 4=4294967296:=by decide
 omega
theorem mapw_le {word s:List UInt8} {n:Nat} (hw:word.length=6) (hn:n≤64):(word ++ listL (q12z s n)).length≤2000:=by
 have h1:=placesL_length s n
 have h2:=q74z (q12z s n) (fun x hx=>by
  unfold q12z at hx
  have:=(List.mem_filter.1 hx).1
  rw[List.mem_range] at this
  omega)
 rw[List.length_append]
 omega
theorem leasesL_le (s:ByteArray) {n:Nat} (hn:n≤16):(q39z s n).length≤800:=by
 have h:=flat_le (f:=fun i=>32 :: (q3z (q30z s i) ++ 46 :: q3z (seqAt s i))) (k:=50) (List.range n) (fun i _=>by
  have h1:=q41z (q137z s (4*i) (b:=1) (by decide))
  have h2:=q41z (q137z s (4*i+1) (b:=3) (by decide))
  rw[List.length_cons,List.length_append,List.length_cons]
  show(q3z (numAt s (4*i) 1)).length+((q3z (numAt s (4*i+1) 3)).length+1)+1≤50
  omega)
 rw[List.length_range] at h
 unfold q39z
 omega
theorem slotW_le (s:ByteArray) (i:Nat):(slotW (q2z s i)).length≤100:=by
 unfold slotW
 split
 ·have h1:=q41z (q137z s (16*i) (b:=2) (by decide))
  have hl:(q32z s i).length≤16:=by unfold q32z; rw[List.length_take]; omega
  rw[List.length_append,List.length_cons,q92z]
  have h3:(q2z s i).name.data.toList.length≤16:=by
   show(((q32z s i).drop 3).take ((q32z s i).getD 2 0).toNat).length≤16
   rw[List.length_take,List.length_drop]
   omega
  have h2:(q3z (q2z s i).inode.toNat).length≤19:=h1
  omega
 ·simp
theorem told_le {g:Sp.Geom} {a:Int} {s:ByteArray} (hg:g.ok) {L:List UInt8} (h:told g a s=some L):L.length≤3000:=by
 unfold told at h
 split at h
 ·split at h
  ·rw[←Option.some.inj h,List.length_append]
   have:=leasesL_le s (n:=q49z g a) (by unfold q49z; omega)
   have:q48z.length=6:=rfl
   omega
  ·cases h
 split at h
 ·split at h
  ·rename_i hm
   have hz:=q64z hm
   rw[←Option.some.inj h]
   have:=mapw_le (word:=q117z) (s:=s.data.toList) (n:=g.inodes.toNat) rfl (by omega)
   omega
  ·cases h
 split at h
 ·split at h
  ·rename_i hm
   have hz:=q64z hm
   rw[←Option.some.inj h]
   have:=mapw_le (word:=q118z) (s:=s.data.toList) (n:=g.blocks.toNat) rfl (by omega)
   omega
  ·cases h
 split at h
 ·split at h
  ·rename_i hi
   have hf:=hi.2.1
   obtain⟨_,_,_,_,_,_,_,_,_,_,_,hall⟩:=fits_num hg hf
   rw[←Option.some.inj h]
   have hkl:(kindL (q6z s).kind).length≤4:=by
    unfold kindL
    split
    ·decide
    ·split <;> decide
   have h1:=q74z [(q6z s).links.toNat,(q6z s).parent.toNat,(q6z s).gen.toNat,(q6z s).size.toNat] (by intro n hn; simp only[List.mem_cons,List.not_mem_nil,or_false] at hn; omega)
   have h2:=q74z ((q6z s).direct.map Int.toNat) (by
    intro n hn
    obtain⟨d,hd,rfl⟩:=List.mem_map.1 hn
    have:=hall d hd
    omega)
   have h3:=q74z [(q6z s).more.toNat] (by intro n hn; simp only[List.mem_singleton] at hn; omega)
   have h4:((q6z s).direct.map Int.toNat).length=8:=by rw[List.length_map]; unfold q6z; simp
   have h5:q54z.length=6:=rfl
   simp only[List.length_append,List.length_cons,List.length_nil] at h1 h3 ⊢
   omega
  ·cases h
 split at h
 ·split at h
  ·rw[←Option.some.inj h,List.length_append]
   have h1:=flat_le (f:=fun i=>32 :: slotW (q2z s i)) (k:=101) (List.range 4) (fun i _=>by
    have:=slotW_le s i
    rw[List.length_cons]
    omega)
   rw[List.length_range] at h1
   have:wDir.length=3:=rfl
   omega
  ·cases h
 ·cases h
theorem whatL_le {g:Sp.Geom} {a:Int} {s:ByteArray} (hg:g.ok) (hs:s.size=64):(whatL g a s).length≤3000:=by
 have hl:s.data.toList.length=64:=by rw[Array.length_toList]; exact hs
 unfold whatL
 split
 ·decide
 split
 ·rw[List.length_append]
  have h1:∀i,byteAt s i<256:=fun i=>by
   have:=UInt8.toNat_lt (s.data.toList.getD i 0)
   unfold byteAt
   omega
  have h2:=q74z [(q16z s).groups.toNat,(q16z s).inodes.toNat,(q16z s).blocks.toNat] (by
   intro n hn
   have x4:=h1 4
   have x5:=h1 5
   have x6:=h1 6
   simp only[q16z,List.mem_cons,List.not_mem_nil,or_false] at hn
   omega)
  have:q94z.length=5:=rfl
  simp only[List.length_cons,List.length_nil] at h2
  omega
 split
 ·rw[List.length_append]
  have h2:=q74z [numAt s 4 4,numAt s 8 4] (by
   intro n hn
   have x4:=q121z s 4
   have x8:=q121z s 8
   simp only[List.mem_cons,List.not_mem_nil,or_false] at hn
   omega)
  have:q95z.length=5:=rfl
  simp only[List.length_cons,List.length_nil] at h2
  omega
 ·cases h:told g a s with
  | none=>
    show(wRaw ++ hexL s.data.toList).length≤3000
    rw[List.length_append,q92z]
    have:wRaw.length=4:=rfl
    omega
  | some L=>exact told_le hg h
def q46z (s:ByteArray) (k:Nat):List UInt8:=(List.range k).flatMap (q32z s)
theorem slotAt_length {s:ByteArray} (hs:s.size=64) {k:Nat} (hk:k<4):(q32z s k).length=16:=by
 have hl:s.data.toList.length=64:=by rw[Array.length_toList]; exact hs
 unfold q32z
 rw[List.length_take,List.length_drop,hl]
 omega
theorem slotsL_snoc (s:ByteArray) (k:Nat):q46z s (k+1)=q46z s k ++ q32z s k:=by
 unfold q46z
 rw[List.range_succ,List.flatMap_append,List.flatMap_cons,List.flatMap_nil,List.append_nil]
theorem slotsL_take (s:ByteArray):∀k,q46z s k=s.data.toList.take (16*k)
 | 0=>by simp[q46z]
 | k+1=>by
   rw[slotsL_snoc,slotsL_take s k,Nat.mul_succ,List.take_add]
   rfl
theorem slotsL_length {s:ByteArray} (hs:s.size=64) {k:Nat} (hk:k≤4):(q46z s k).length=16*k:=by
 have hl:s.data.toList.length=64:=by rw[Array.length_toList]; exact hs
 rw[slotsL_take,List.length_take,hl]
 omega
theorem slotsT_step {s:ByteArray} (hs:s.size=64) {k:Nat} (hk:k<4):q40z (padL (q46z s k)) (16*k) (q32z s k)=padL (q46z s (k+1)):=by
 have h:=patch_pad (q:=q46z s k) (x:=q32z s k) (by rw[slotsL_length hs (by omega),slotAt_length hs hk]; omega)
 rw[slotsL_length hs (by omega)] at h
 rw[h,slotsL_snoc]
theorem slotsT_zero (s:ByteArray):ofL (padL (q46z s 0))=Sp.blank:=rfl
theorem slotsT_size {s:ByteArray} (hs:s.size=64) {k:Nat} (hk:k≤4):(ofL (padL (q46z s k))).size=64:=by
 rw[q9z]
 unfold padL
 rw[List.length_append,zeros_length,slotsL_length hs hk]
 omega
theorem slotsT_all {s:ByteArray} (hs:s.size=64):ofL (padL (q46z s 4))=s:=by
 have hl:s.data.toList.length=64:=by rw[Array.length_toList]; exact hs
 rw[slotsL_take,List.take_of_length_le (by omega)]
 unfold padL
 rw[hl]
 show ofL (s.data.toList ++ [])=s
 rw[List.append_nil]
 rfl
def q43z (s:ByteArray) (k:Nat):List UInt8:=wDir ++ (List.range k).flatMap (fun i=>32 :: slotW (q2z s i))
theorem wordsL_snoc (s:ByteArray) (k:Nat):q43z s (k+1)=q43z s k ++ 32 :: slotW (q2z s k):=by
 unfold q43z
 rw[List.range_succ,List.flatMap_append,List.flatMap_cons,List.flatMap_nil,List.append_nil,List.append_assoc]
theorem wordsL_le (s:ByteArray):∀k,(q43z s k).length≤3+101*k
 | 0=>by simp[q43z,wDir]
 | k+1=>by
   have h1:=slotW_le s k
   have h2:=wordsL_le s k
   rw[wordsL_snoc,List.length_append,List.length_cons]
   omega
theorem told_dir {g:Sp.Geom} {a:Int} {s:ByteArray} (hk:(g.kind a).1=6):told g a s=if q24z s then some (q43z s 4) else none:=by
 unfold told
 rw[if_neg (by omega),if_neg (by omega),if_neg (by omega),if_neg (by omega),if_pos hk]
 rfl
theorem slotW_one {n:Nat} {N:ByteArray} (h:0<n):slotW ⟨(n:Int),N⟩=q3z n ++ 58 :: hexL N.data.toList:=by
 unfold slotW
 rw[if_pos (show(n:Int) > 0 by omega)]
 rfl
theorem slotW_none {N:ByteArray}:slotW ⟨0,N⟩=[45]:=by
 unfold slotW
 rw[if_neg (show ¬(0:Int) > 0 by omega)]
def q57z (s:ByteArray) (i:Nat):Int×Int:=((q30z s i:Int),(seqAt s i:Int))
theorem four_of:∀l:List UInt8,4≤l.length→∃a b c d r,l=a :: b :: c :: d :: r
 | a :: b :: c :: d :: r,_=>⟨a,b,c,d,r,rfl⟩
 | [],h=>by simp at h
 | [_],h=>by simp at h
 | [_,_],h=>by simp at h
 | [_,_,_],h=>by simp at h
theorem leaseB_at {s:ByteArray} (hs:s.size=64) {i:Nat} (hi:i<16):q61z (q57z s i)=(s.data.toList.drop (4*i)).take 4:=by
 have hl:s.data.toList.length=64:=by rw[Array.length_toList]; exact hs
 obtain⟨a,b,c,d,r,h⟩:=four_of (s.data.toList.drop (4*i)) (by rw[List.length_drop]; omega)
 have h1:s.data.toList.drop (4*i+1)=b :: c :: d :: r:=by rw[←List.drop_drop,h]; rfl
 have ho:q30z s i=numL [a]:=by unfold q30z numAt; rw[h]; rfl
 have hq:seqAt s i=numL [b,c,d]:=by unfold seqAt numAt; rw[h1]; rfl
 have hn:((q57z s i).1+256*(q57z s i).2).toNat=numL [a,b,c,d]:=by
  show((q30z s i:Int)+256*(seqAt s i:Int)).toNat=_
  rw[ho,hq]
  have e1:numL [a]=a.toNat:=by simp[numL]
  have e2:numL [a,b,c,d]=a.toNat+256*numL [b,c,d]:=rfl
  omega
 unfold q61z
 rw[hn,h]
 exact textL_numL [a,b,c,d]
theorem leases_flat {s:ByteArray} (hs:s.size=64):∀n,n≤16→((List.range n).map (q57z s)).flatMap q61z=s.data.toList.take (4*n)
 | 0,_=>rfl
 | n+1,h=>by
   rw[List.range_succ,List.map_append,List.flatMap_append,leases_flat hs n (by omega),List.map_cons,List.map_nil,List.flatMap_cons,List.flatMap_nil,List.append_nil,leaseB_at hs (by omega),Nat.mul_succ,List.take_add]
def q11z (s:ByteArray) (R f n:Nat):List (Int×Int):=List.replicate f (0,0) ++ (List.range n).map (q57z s) ++ List.replicate (R-f-n) (0,0)
theorem leasedRow_length {s:ByteArray} {R f n:Nat} (h:f+n≤R):(q11z s R f n).length=R:=by
 unfold q11z
 rw[List.length_append,List.length_append,List.length_replicate,List.length_map,List.length_range,List.length_replicate]
 omega
theorem leasedRow_sec {s:ByteArray} (hs:s.size=64) {R f n:Nat} (hn:n=min 16 (R-f)):secB (((q11z s R f n).drop f).take 16)=s.data.toList.take (4*n) ++ zeros (64-4*n):=by
 have h:((q11z s R f n).drop f).take 16=(List.range n).map (q57z s):=by
  unfold q11z
  rw[List.append_assoc,List.drop_left' (by rw[List.length_replicate])]
  by_cases h:n=16
  ·rw[List.take_left' (by rw[List.length_map,List.length_range,h])]
  ·rw[show R-f-n=0 by omega,List.replicate_zero,List.append_nil,List.take_of_length_le (by rw[List.length_map,List.length_range]; omega)]
 unfold secB
 have hl:s.data.toList.length=64:=by rw[Array.length_toList]; exact hs
 rw[h,leases_flat hs n (by omega)]
 unfold padL
 rw[List.length_take,hl,show min (4*n) 64=4*n by omega]
theorem leased_same {s:ByteArray} (hs:s.size=64) {n:Nat} (hn:n≤16):ofL (s.data.toList.take (4*n) ++ zeros (64-4*n))=s↔(s.data.toList.drop (4*n)).all (fun b=>b == 0)=true:=by
 have hl:s.data.toList.length=64:=by rw[Array.length_toList]; exact hs
 have hd:(s.data.toList.drop (4*n)).length=64-4*n:=by rw[List.length_drop,hl]
 rw[List.all_eq_true]
 constructor
 ·intro h b hb
  have h2:s.data.toList=s.data.toList.take (4*n) ++ zeros (64-4*n):=by
   have h3:=congrArg (fun t:ByteArray=>t.data.toList) h
   simpa [ofL] using h3.symm
  rw[h2,List.drop_left' (by rw[List.length_take,hl]; omega)] at hb
  unfold zeros at hb
  rw[(List.mem_replicate.1 hb).2]
  rfl
 ·intro h
  have h2:s.data.toList.drop (4*n)=zeros (64-4*n):=by
   unfold zeros
   rw[←hd]
   exact List.eq_replicate_iff.2 ⟨rfl,fun b hb=>by simpa using h b hb⟩
  rw[←h2,List.take_append_drop]
  rfl
theorem leasedRow_ok {s:ByteArray} {R f n:Nat}:(∀x∈q11z s R f n,q38z x)↔∀i,i<n→q30z s i≤2:=by
 have hq:∀i,seqAt s i≤16777215:=fun i=>by
  have h:=Sp.numL_lt ((s.data.toList.drop (4*i+1)).take 3)
  have hl:((s.data.toList.drop (4*i+1)).take 3).length≤3:=by rw[List.length_take]; omega
  have h2:256 ^ ((s.data.toList.drop (4*i+1)).take 3).length≤256 ^ 3:=Nat.pow_le_pow_right (by decide) hl
  have:(256:Nat) ^ 3=16777216:=by decide
  unfold seqAt numAt
  omega
 constructor
 ·intro h i hi
  have:=h (q57z s i) (by
   unfold q11z
   exact List.mem_append_left _ (List.mem_append_right _ (List.mem_map.2 ⟨i,List.mem_range.2 hi,rfl⟩)))
  have h1:=this.2.1
  unfold q57z at h1
  simp only at h1
  omega
 ·intro h x hx
  unfold q11z at hx
  rcases List.mem_append.1 hx with hx | hx
  ·rcases List.mem_append.1 hx with hx | hx
   ·rw[(List.mem_replicate.1 hx).2]; decide
   ·obtain⟨i,hi,rfl⟩:=List.mem_map.1 hx
    have h1:=h i (List.mem_range.1 hi)
    have h2:=hq i
    unfold q38z q57z
    simp only
    omega
  ·rw[(List.mem_replicate.1 hx).2]; decide
