import Derived.Test.YtmljdnlmpiklgaaGreatDoorMapsA
import Derived.StillTailTactics
import Derived.Laws.CopyOwn
set_option maxRecDepth 20000
set_option maxHeartbeats 8000000
namespace Go.Proofs.YtmljdnlmpiklgaaGreatDoor
open Go Go.RowKit Txt Sp
def tableAt (g:Sp.Geom) (r:Int):Int×Int×Int:=if g.within r g.regions=0 then(2+r / 16,r % 16*4,0) else(0,0,g.within r g.regions)
theorem within_bd {g:Sp.Geom} {n m:Int} (h:g.within n m=0):g.ok∧0≤n∧n<m:=by
 unfold Sp.Geom.within at h
 split at h
 ·rename_i hg
  refine⟨hg,?_⟩
  split at h
  ·cases h
  ·omega
 ·cases h
theorem lease_or (a b:Int) (h:leaseOk (a,b)):bits .or .i64 a (b*256)=((a+256*b).toNat:Int):=by
 obtain⟨h1,h2,h3,h4⟩:=h
 simp only at h1 h2 h3 h4
 obtain⟨x,rfl⟩:∃k:Nat,a=(k:Int):=⟨a.toNat,by omega⟩
 obtain⟨y,rfl⟩:∃k:Nat,b=(k:Int):=⟨b.toNat,by omega⟩
 have e:(y:Int)*256=((256*y:Nat):Int):=by omega
 rw[e,i64_or _ _ (by omega) (by omega),Nat.or_comm,or_low 8 y x (by omega)]
 omega
section
theorem gtable_any (w:World) (g:Sp.Geom) (r:Int):Calls Tryz.prog 121 #[gV g,.int .i64 r] w fun e w'=>e = .returned (.tuple #[.int .i64 (tableAt g r).1,.int .i64 (tableAt g r).2.1,.int .i64 (tableAt g r).2.2])∧Below w.heap.size w w':=by
 have hz:=fun W:World=>gregions_any W g
 have hw:=fun W:World=>gwithin_any W g r g.regions
 obtain⟨k,n,d,hx⟩:∃k n d,tableAt g r=(k,n,d):=⟨_,_,_,rfl⟩
 rw[hx]
 unfold tableAt at hx
 have hwz:=fun h=>(⟨(within_bd (g:=g) (n:=r) (m:=g.regions) h).2,(Geom.regions_bd (within_bd h).1).2⟩:(0≤r∧r<g.regions)∧g.regions≤132)
 obtain⟨sz,hsz⟩:=zx (g.regions)
 rw[hsz] at hz hw hwz hx
 obtain⟨c,hc⟩:=zx (g.within r sz)
 rw[hc] at hw hwz hx
 obtain⟨ga,gb,gc⟩:=g
 unfold gV at hz hw ⊢
 obtain⟨W0,hW0⟩:=zg w ga gb gc
 have hk:=g_keep hW0
 have HB0:=zh hk.1
 have HK:=zh hk.2
 clear hk
 have HZ:=zh hz
 have HW:=zh hw
 have HWZ:=zh hwz
 have HX:=zh hx
 clear hz hw hwz hx
 clear hsz hc
 go_enter Tryz.func121,Tryz.ntmps121
 go_wp2_with fail
 go_region_held3 (fun W=>W.cell? ⟨w.heap.size,0,none⟩=some (.int .i64 ga)∧W.cell? ⟨w.heap.size,1,none⟩=some (.int .i64 gb)∧W.cell? ⟨w.heap.size,2,none⟩=some (.int .i64 gc))
  ((refine HK.out _ ?_; repeat' first | with_reducible exact Below.refl _ _ | with_reducible exact HB1.out | with_reducible exact HB2.out | with_reducible refine blD ?_ | with_reducible refine bl1 ?_ _))
  (first
    | (go_at_call 35
       refine(HZ.out _).mono ?_
       rintro e w1 ⟨rfl,hb1⟩
       have HB1:Hid (Below W0.heap.size W0 w1):=blN (by repeat' first | with_reducible exact Below.refl _ _ | with_reducible refine blD ?_ | with_reducible refine bl1 ?_ _) hb1
       clear hb1
       simp only)
    | (go_at_call 74
       refine(HW.out _).mono ?_
       rintro e w2 ⟨rfl,hb2⟩
       have HB2:Hid (Below W0.heap.size W0 w2):=blN (by repeat' first | with_reducible exact Below.refl _ _ | with_reducible exact HB1.out | with_reducible refine blD ?_ | with_reducible refine bl1 ?_ _) hb2
       clear hb2
       simp only))
 by_cases hc0:c=0
 ·obtain⟨⟨h0,h1⟩,h2⟩:=HWZ.out hc0
  have hx:=HX.out
  rw[if_pos hc0] at hx
  subst hc0
  have HE:=zh hx
  clear hx HWZ HX
  have e1:IntKind.i64.wrap (r / 16)=r / 16:=IntWalk.i64_in _ (by omega)
  go_wp2
  go_ret3
  exact⟨ret_t HE.out,blN HB0.out HB2.out⟩
 ·have f1:(c == 0)=false:=beq_eq_false_iff_ne.2 hc0
  have f2:(c != 0)=true:=by simp[hc0]
  have hx:=HX.out
  rw[if_neg hc0] at hx
  have HE:=zh hx
  clear hc0 hx
  go_wp2
  go_ret3
  exact⟨ret_t HE.out,blN HB0.out HB2.out⟩
theorem tmay_any (w:World) (x:Int×Int):Calls Tryz.prog 122 #[.agg #[.int .i64 x.1,.int .i64 x.2]] w fun e w'=>e = .returned (.bool (decide (leaseOk x)))∧Below w.heap.size w w':=by
 obtain⟨a,b⟩:=x
 obtain⟨q,hq⟩:=zx (decide (leaseOk (a,b)))
 rw[hq]
 by_cases h1:0≤a
 rotate_left
 ·obtain rfl:q=false:=by rw[←hq]; exact decide_eq_false (fun h=>h1 h.1)
  clear hq
  go_enter Tryz.func122,Tryz.ntmps122
  go_wp2
  go_ret
  exact⟨rfl,bl2 _⟩
 by_cases h2:a≤2
 rotate_left
 ·obtain rfl:q=false:=by rw[←hq]; exact decide_eq_false (fun h=>h2 h.2.1)
  clear hq
  go_enter Tryz.func122,Tryz.ntmps122
  go_wp2
  go_ret
  exact⟨rfl,bl2 _⟩
 by_cases h3:0≤b
 rotate_left
 ·obtain rfl:q=false:=by rw[←hq]; exact decide_eq_false (fun h=>h3 h.2.2.1)
  clear hq
  go_enter Tryz.func122,Tryz.ntmps122
  go_wp2
  go_ret
  exact⟨rfl,bl2 _⟩
 by_cases h4:b≤16777215
 ·obtain rfl:q=true:=by rw[←hq]; exact decide_eq_true ⟨h1,h2,h3,h4⟩
  clear hq
  go_enter Tryz.func122,Tryz.ntmps122
  go_wp2
  go_ret
  exact⟨rfl,bl2 _⟩
 ·obtain rfl:q=false:=by rw[←hq]; exact decide_eq_false (fun h=>h4 h.2.2.2)
  clear hq
  go_enter Tryz.func122,Tryz.ntmps122
  go_wp2
  go_ret
  exact⟨rfl,bl2 _⟩
theorem tsectors_any (w:World) (g:Sp.Geom):Calls Tryz.prog 70 #[gV g] w fun e w'=>e = .returned (.int .i64 g.tables)∧Below w.heap.size w w':=by
 have hz:=fun W:World=>gregions_any W g
 have hbd:0≤g.regions∧g.regions≤132:=by
  by_cases hg:g.ok
  ·have:=Geom.regions_bd hg; omega
  ·rw[show g.regions=0 from if_neg hg]; omega
 unfold Geom.tables
 obtain⟨sz,hsz⟩:=zx (g.regions)
 rw[hsz] at hz hbd ⊢
 obtain⟨ga,gb,gc⟩:=g
 unfold gV at hz ⊢
 clear hsz
 obtain⟨h0,h1⟩:=hbd
 have HZ:=zh hz
 clear hz
 have e1:IntKind.i64.wrap ((sz+15) / 16)=(sz+15) / 16:=IntWalk.i64_in _ (by omega)
 go_enter Tryz.func70,Tryz.ntmps70
 go_wp2_with fail
 refine(HZ.out _).mono ?_
 rintro e w1 ⟨rfl,hb1⟩
 have HB1:=zh (blN (bl2 _) hb1)
 clear hb1
 go_wp2
 go_ret
 exact⟨ret_i (by omega),HB1.out⟩
end
theorem take_step {α:Type} {l:List α} {k:Nat} {x:α} (h:l[k]? = some x):l.take (k+1)=l.take k ++ [x]:=by
 rw[List.take_add_one,h]
 rfl
theorem patchL_app {l z p:List UInt8} {off:Nat} (h:off+p.length≤l.length):patchL (l ++ z) off p=patchL l off p ++ z:=by
 unfold patchL
 rw[List.take_append_of_le_length (by omega),List.drop_append_of_le_length h,List.append_assoc,List.append_assoc,List.append_assoc]
def PatRel (w wr:World) (l0:List UInt8) (l:List (Int×ByteArray)) (cp:Nat) (mk:Nat×Nat) (k:Nat):Prop:=
 wr.heap[w.heap.size]? = some (bytesO (patchedL l0 (l.take k) ++ zeros (cp-64)) 5 mk)∧Below w.heap.size w wr
section
theorem fcheck_any (w:World) (off:Int) (s:ByteArray):Calls Tryz.prog 123 #[.agg #[.int .i64 off,.string s]] w fun e w'=>e = .returned (.int .i64 (if inside off s.size then 0 else 1))∧Below w.heap.size w w':=by
 have hi:=fun W:World=>finside_any W off (s.size:Int)
 by_cases h:inside off s.size
 ·rw[if_pos h]
  rw[decide_eq_true h] at hi
  have HI:=zh hi
  clear hi
  clear h
  go_enter Tryz.func123,Tryz.ntmps123
  go_wp2_with fail
  refine(HI.out _).mono ?_
  rintro e w1 ⟨rfl,rfl⟩
  go_wp2
  go_ret
  exact⟨rfl,bl2 _⟩
 ·rw[if_neg h]
  rw[decide_eq_false h] at hi
  have HI:=zh hi
  clear hi
  clear h
  go_enter Tryz.func123,Tryz.ntmps123
  go_wp2_with fail
  refine(HI.out _).mono ?_
  rintro e w1 ⟨rfl,rfl⟩
  go_wp2
  go_ret
  exact⟨rfl,bl2 _⟩
theorem fpatched_any (w:World) (s:ByteArray) (v:Value) (l:List (Int×ByteArray)) (hv:Pats w v l) (hs:s.size=64) (hl:l.length≤1024) (hok:patchesOk l):Calls Tryz.prog 72 #[.string s,v] w fun e w'=>e = .returned (.tuple #[.string (ofL (patchedL s.data.toList l)),.int .i64 0])∧Below w.heap.size w w':=by
 obtain⟨ad,n,cap,rfl,HN,hn2,HF⟩:=RowAt.facts hv
 clear hv
 have hnl:n≤1024:=by rw[HN.out]; exact hl
 obtain⟨cp,mk,hc1,hc2,hmk,hcv⟩:=run_text_bytes (P:=Tryz.prog) w s (by unfold maxLen; omega) Tryz.underlying9 Tryz.underlying36 Tryz.underlying5
 have hlen:s.data.toList.length=64:=by rw[Array.length_toList]; exact hs
 rw[hs] at hcv hc1
 unfold maxLen at hc2
 have hsz:(Tryz.prog.info? 5).map (·.size)=some 1:=by kernel_rfl
 have HSZ:=zh hsz
 clear hsz
 have f1:((s.size:Int) == 64)=true:=by rw[hs]; rfl
 have f2:((s.size:Int) != 64)=false:=by rw[hs]; rfl
 obtain⟨W0,hW0⟩:=zx (w.drew.alloc (bytesO (s.data.toList ++ zeros (cp-64)) 5 mk))
 have hz0:W0.heap[w.heap.size]? = some (bytesO (s.data.toList ++ zeros (cp-64)) 5 mk):=by rw[←hW0]; exact heapNew w.drew _
 have hb0:Below w.heap.size w W0:=by rw[←hW0]; exact(below_drewN (Below.refl _ _) 1).alloc (Nat.le_refl _) _
 rw[hW0] at hcv
 obtain⟨l0,hl0⟩:=zx (s.data.toList)
 rw[hl0] at hz0 hlen ⊢
 have HR0:Hid (PatRel w W0 l0 l cp mk 0):=⟨hz0,hb0⟩
 have HLen:Hid (∀k,(patchedL l0 (l.take k)).length=64):=fun k=>patchedL_length _ _ hlen (fun p hp=>hok p (List.mem_of_mem_take hp))
 clear hz0 hb0 hl hlen hl0 hW0 hs
 have HOK:=zh hok
 have HMK:=zh hmk
 clear hok hmk
 go_enter Tryz.func72,Tryz.ntmps72
 go_wp2
 go_loopw [22] (fun i wr=>∃k:Nat,k≤n∧i = .int .i64 k∧Hid (PatRel w wr l0 l cp mk k)) (fun i _=>n-(intOf i).toNat)
 case atStart=>exact⟨0,Nat.zero_le _,rfl,HR0⟩
 case round=>
  obtain⟨k,hk,rfl,HR⟩:=hrel
  clear HR0 hcv
  by_cases hlt:k<n
  ·obtain⟨b,o,x,rfl,hb,hx,hc⟩:=HF.out k hlt
   obtain⟨po,pt⟩:=x
   have hin:=HOK.out (po,pt) (List.mem_of_getElem? hx)
   have hcc:=fun W:World=>fcheck_any W po pt
   rw[if_pos hin] at hcc
   obtain⟨hi0,hi1,hi2,hi3⟩:=hin
   simp only at hi0 hi1 hi2 hi3
   obtain⟨p,rfl⟩:∃p:Nat,po=(p:Int):=⟨po.toNat,by omega⟩
   have c0:wr.cell? ⟨b,o+k*2,none⟩=some (.int .i64 (p:Int)):=(HR.out.2.cell (p:=⟨b,o+k*2,none⟩) hb).trans (hc 0 _ rfl)
   have c1:wr.cell? ⟨b,o+k*2+1,none⟩=some (.string pt):=(HR.out.2.cell (p:=⟨b,o+k*2+1,none⟩) hb).trans (hc 1 _ rfl)
   have HX:=zh hx
   have hp63:p≤63:=by omega
   have hp64:(p:Int)≤64:=by omega
   have hne:¬cp=p:=by omega
   have hpt:pt.size≤64-p:=by omega
   have HCC:=zh hcc
   clear hcc
   clear hc hx hi0 hi1 hi2 hi3
   go_wp2_with fail
   refine(HCC.out _).mono ?_
   rintro e w2 ⟨rfl,hb2⟩
   have hrow2:=heapOld hb2 (heapOld (bl2 (w:=wr) _) HR.out.1)
   have hbox:=heapOld hb2 (heapNew wr _)
   have k0:w2.cell? ⟨wr.heap.size,0,none⟩=some (.int .i64 (p:Int)):=cellOf hbox rfl
   have k1:w2.cell? ⟨wr.heap.size,1,none⟩=some (.string pt):=cellOf hbox rfl
   have HB2:=zh (blN (bl1 HR.out.2 _) hb2)
   have hrow3:w2.drew.heap[w.heap.size]? = _:=hrow2
   have hcp:=run_copy_at (P:=Tryz.prog) w2.drew (ty:=3) (sT:=9) (off:=p) (n:=64-p) Tryz.underlying36 HSZ.out hrow3 (by rw[List.length_append,HLen.out,zeros_length]; have:=HMK.out; rwa [show 64+(cp-64)=cp by omega]) pt (by omega) (by rw[List.length_append,HLen.out]; omega) (cp-p)
   have hpl:patchL (patchedL l0 (l.take k) ++ zeros (cp-64)) p pt.data.toList=patchedL l0 (l.take (k+1)) ++ zeros (cp-64):=by
    have hz:pt.data.toList.length=pt.size:=Array.length_toList
    rw[patchL_app (by rw[HLen.out,hz]; omega),take_step HX.out,patchedL_snoc]
    rfl
   rw[hpl] at hcp
   have HR3:Hid (PatRel w (w2.drew.setRow w.heap.size (bytesV (patchedL l0 (l.take (k+1)) ++ zeros (cp-64))).toArray) l0 l cp mk (k+1)):=⟨setRow_bytes hrow3 _,below_setRow (below_drewN HB2.out 1) (Nat.le_refl _) _⟩
   obtain⟨W3,hW3⟩:=zx (w2.drew.setRow w.heap.size (bytesV (patchedL l0 (l.take (k+1)) ++ zeros (cp-64))).toArray)
   rw[hW3] at hcp HR3
   clear hb2 hrow2 hbox hrow3 hpl hW3
   go_wp2_with fail
   go_still_tail 6,(by kernel_rfl)
   change wpList _ _ _ _ _ w2.drew
   go_wp2
   go_roundw
   case rel=>exact⟨k+1,by omega,by go_num,HR3⟩
   case measure=>simp[intOf]; omega
  ·have hkn:k=n:=by omega
   have hrow:=HR.out.1
   have htk:l.take k=l:=by rw[hkn,HN.out]; exact List.take_length
   rw[htk] at hrow
   have hl64:=HLen.out k
   rw[htk] at hl64
   have hcv:=run_bytes_text (P:=Tryz.prog) wr (src:=36) (dst:=9) Tryz.underlying36 Tryz.underlying5 Tryz.underlying9 hrow hl64.symm cp
   clear hrow htk hl64 hkn
   go_wp2
   go_ret2
   exact⟨rfl,HR.out.2⟩
end
theorem boxes3 {w w1:World} {a b c:Obj} (hb:Below (((w.alloc a).alloc b).alloc c).heap.size (((w.alloc a).alloc b).alloc c) w1) :
 Below w.heap.size w w1∧w1.heap[w.heap.size]? = some a∧w1.heap[w.heap.size+1]? = some b∧w1.heap[w.heap.size+1+1]? = some c:=by
 have h0:Below w.heap.size w (((w.alloc a).alloc b).alloc c):=bl1 (bl1 (bl2 a) b) c
 have e1:(w.alloc a).heap.size=w.heap.size+1:=by simp
 have e2:((w.alloc a).alloc b).heap.size=w.heap.size+1+1:=by simp
 have g2:=heapNew ((w.alloc a).alloc b) c
 rw[e2] at g2
 have g1:=heapOld (bl2 (w:=(w.alloc a).alloc b) c) (heapNew (w.alloc a) b)
 rw[e1] at g1
 exact⟨blN h0 hb,heapOld hb (heapOld (bl2 (w:=(w.alloc a).alloc b) c) (heapOld (bl2 (w:=w.alloc a) b) (heapNew w a))),heapOld hb g1,heapOld hb g2⟩
theorem put2 {w:World} {b:Nat} {c0 c1:Value} {e:TypeId} (h:w.heap[b]? = some (.cells #[c0,c1] e (0,0))) (x y:Value):((w.setCell ⟨b,0,none⟩ x).setCell ⟨b,1,none⟩ y).heap[b]? = some (.cells #[x,y] e (0,0)):=
 setHeap_at (k:=1) (setHeap_at (k:=0) h x) y
def TPut (r:Int) (x:Int×Int) (w:World) (e:Ending) (w':World):Prop:=
 e = .returned (.tuple (if leaseOk x then #[.int .i64 (2+r / 16),.agg #[.int .i64 (r % 16*4),.string (ofL (leaseB x))],.int .i64 0] else #[.int .i64 0,.agg #[.int .i64 0,.string ⟨#[]⟩],.int .i64 80]))∧Below w.heap.size w w'
theorem tput_no {r:Int} {x:Int×Int} {w w':World} (h:¬leaseOk x) (hb:Below w.heap.size w w'):TPut r x w (.returned (.tuple #[.int .i64 0,.agg #[.int .i64 0,.string ⟨#[]⟩],.int .i64 80])) w':=by
 refine⟨?_,hb⟩
 rw[if_neg h]
theorem tput_yes {r q o:Int} {S:ByteArray} {x:Int×Int} {w w':World} (h:leaseOk x) (hq:2+r / 16=q) (ho:r % 16*4=o) (hS:ofL (leaseB x)=S) (hb:Below w.heap.size w w'):TPut r x w (.returned (.tuple #[.int .i64 q,.agg #[.int .i64 o,.string S],.int .i64 0])) w':=by
 refine⟨?_,hb⟩
 rw[if_pos h,hq,ho,hS]
section
theorem tput_any (w:World) {g:Sp.Geom} {r:Int} (x:Int×Int) (hg:g.ok) (h0:0≤r) (h1:r<g.regions):Calls Tryz.prog 71 #[gV g,.int .i64 r,.agg #[.int .i64 x.1,.int .i64 x.2]] w (TPut r x w):=by
 obtain⟨a,b⟩:=x
 have ht:=fun W:World=>gtable_any W g r
 have hw:g.within r g.regions=0:=by
  unfold Geom.within
  rw[if_pos hg,if_neg (by omega)]
 have htab:tableAt g r=(2+r / 16,r % 16*4,0):=if_pos hw
 rw[htab] at ht
 simp only at ht
 have hm:=fun W:World=>tmay_any W (a,b)
 simp only at hm ⊢
 obtain⟨ga,gb,gc⟩:=g
 unfold gV at ht ⊢
 by_cases hx:leaseOk (a,b)
 ·rw[decide_eq_true hx] at hm
  have hor:=lease_or a b hx
  have hp:=fun W:World=>fput4_any W (r % 16*4) ((a+256*b).toNat:Int) (by omega) (by omega) (by omega) (by have:=hx.2.1; have:=hx.2.2.2; simp only at *; omega)
  have hB:putB 4 ((a+256*b).toNat:Int)=ofL (leaseB (a,b)):=rfl
  rw[hB] at hp
  have hb2:0≤b∧b≤16777215:=⟨hx.2.2.1,hx.2.2.2⟩
  have ha2:0≤a∧a≤2:=⟨hx.1,hx.2.1⟩
  obtain⟨S,hS⟩:=zx (ofL (leaseB (a,b)))
  obtain⟨q,hq⟩:=zx (2+r / 16)
  obtain⟨o,ho⟩:=zx (r % 16*4)
  obtain⟨m,hm'⟩:=zx (((a+256*b).toNat:Int))
  rw[hS,ho,hm'] at hp
  rw[hq,ho] at ht
  rw[hm'] at hor
  have HE:Hid (∀w',Below w.heap.size w w'→TPut r (a,b) w (.returned (.tuple #[.int .i64 q,.agg #[.int .i64 o,.string S],.int .i64 0])) w'):=fun w'=>tput_yes hx hq ho hS
  clear hS hq ho hm' hB hx htab hw hg h1
  have HT:=zh ht
  have HM:=zh hm
  have HP:=zh hp
  clear ht hm hp
  go_enter Tryz.func71,Tryz.ntmps71
  go_wp2_with fail
  refine(HT.out _).mono ?_
  rintro e w1 ⟨rfl,hb1⟩
  obtain⟨hbl,hz0,hz1,hz2⟩:=boxes3 hb1
  have HB1:=zh hbl
  have HZ1:=zh hz1
  have HZ2:=zh hz2
  have k0:=zc 0 hz1
  have k1:=zc 1 hz1
  clear hbl hz0 hz1 hz2 hb1
  go_wp2_with fail
  clear k0 k1
  refine(HM.out _).mono ?_
  rintro e w2 ⟨rfl,hb2⟩
  have HB2:=zh (blN HB1.out hb2)
  have HZ1b:=zh (heapOld hb2 HZ1.out)
  have HZ2b:=zh (heapOld hb2 HZ2.out)
  have k0:=zc 0 HZ1b.out
  have k1:=zc 1 HZ1b.out
  clear hb2
  go_wp2_with fail
  clear k0 k1
  refine(HP.out _).mono ?_
  rintro e w3 ⟨rfl,hb3⟩
  have HB3:=zh (blN HB2.out hb3)
  have hz:=heapOld hb3 HZ2b.out
  have y0:=zc 0 hz
  have y1:=zc 1 hz
  have v0:w3.frozen? ⟨w.heap.size+1+1,0,none⟩=false:=freeOf hz
  have v1:w3.frozen? ⟨w.heap.size+1+1,1,none⟩=false:=freeOf hz
  have HW:=zh (put2 (put2 hz (.int .i64 o) (.string S)) (.int .i64 o) (.string S))
  clear hb3 hz
  go_wp2
  go_region
  all_goals
   go_wp2
   obtain⟨Wf,hWf⟩:=zx ((((w3.setCell ⟨w.heap.size+1+1,0,none⟩ (.int .i64 o)).setCell ⟨w.heap.size+1+1,1,none⟩ (.string S)).setCell ⟨w.heap.size+1+1,0,none⟩ (.int .i64 o)).setCell ⟨w.heap.size+1+1,1,none⟩ (.string S))
   have hb4:Below w.heap.size w Wf:=by rw[←hWf]; exact(((HB3.out.setCell (by simp; omega) _).setCell (by simp; omega) _).setCell (by simp; omega) _).setCell (by simp; omega) _
   have hw4:=HW.out
   rw[hWf] at hw4 ⊢
   have y0:=zc 0 hw4
   have y1:=zc 1 hw4
   refine bodyPost_ret (v:=.tuple #[.int .i64 q,.agg #[.int .i64 o,.string S],.int .i64 0]) (by simp[results,Tryz.results71,go_sem,y0,y1]) rfl ?_
   exact HE.out _ (blD hb4)
 ·rw[decide_eq_false hx] at hm
  have HE:Hid (∀w',Below w.heap.size w w'→TPut r (a,b) w (.returned (.tuple #[.int .i64 0,.agg #[.int .i64 0,.string ⟨#[]⟩],.int .i64 80])) w'):=fun w'=>tput_no hx
  clear hx htab hw hg h1
  have HT:=zh ht
  have HM:=zh hm
  clear ht hm
  go_enter Tryz.func71,Tryz.ntmps71
  go_wp2_with fail
  refine(HT.out _).mono ?_
  rintro e w1 ⟨rfl,hb1⟩
  obtain⟨hbl,hz0,hz1,hz2⟩:=boxes3 hb1
  have HB1:=zh hbl
  have HZ1:=zh hz1
  have HZ2:=zh hz2
  have k0:=zc 0 hz1
  have k1:=zc 1 hz1
  clear hbl hz0 hz1 hz2 hb1
  go_wp2_with fail
  clear k0 k1
  refine(HM.out _).mono ?_
  rintro e w2 ⟨rfl,hb2⟩
  have HB2:=zh (blN HB1.out hb2)
  have hz:=heapOld hb2 HZ2.out
  have y0:=zc 0 hz
  have y1:=zc 1 hz
  have v0:w2.frozen? ⟨w.heap.size+1+1,0,none⟩=false:=freeOf hz
  have v1:w2.frozen? ⟨w.heap.size+1+1,1,none⟩=false:=freeOf hz
  clear hb2 hz
  go_wp2
  refine bodyPost_ret (v:=.tuple #[.int .i64 0,.agg #[.int .i64 0,.string ⟨#[]⟩],.int .i64 80]) (by simp[results,Tryz.results71,go_sem,y0,y1]) rfl ?_
  exact HE.out _ ((HB2.out.setCell (by simp; omega) _).setCell (by simp; omega) _)
end
def mapAt (g:Sp.Geom) (k:Int) (b:Bool):Int×Int:=if g.within k g.groups=0 then(g.first k+(if b then 1 else 0),0) else(0,g.within k g.groups)
def inodeAt (g:Sp.Geom) (i:Int):Int×Int×Int×Int:=if g.within i (g.many+1)=0 then(if i=0 then(0,0,0,1) else(g.first ((i-1) / g.inodes)+2+(i-1) % g.inodes,(i-1) / g.inodes,(i-1) % g.inodes,0)) else(0,0,0,g.within i (g.many+1))
theorem ret_two' {a b c d:Int} (h:(a,b)=(c,d)):Ending.returned (.tuple #[.int .i64 a,.int .i64 b]) = .returned (.tuple #[.int .i64 c,.int .i64 d]):=by cases h; rfl
theorem ret_q {a b c d a' b' c' d':Int} (h:(a,b,c,d)=(a',b',c',d')):Ending.returned (.tuple #[.int .i64 a,.int .i64 b,.int .i64 c,.int .i64 d]) = .returned (.tuple #[.int .i64 a',.int .i64 b',.int .i64 c',.int .i64 d']):=by cases h; rfl
theorem inode_bd {g:Sp.Geom} (hg:g.ok) {i:Int} (h0:0<i) (h1:i<g.many+1):0≤(i-1) / g.inodes∧(i-1) / g.inodes<g.groups∧0≤(i-1) % g.inodes∧(i-1) % g.inodes<g.inodes:=by
 have hm:=Geom.many_ok hg
 rw[hm] at h1
 obtain⟨_,_,h3,_⟩:=hg
 refine⟨Int.ediv_nonneg (by omega) (by omega),?_,Int.emod_nonneg _ (by omega),Int.emod_lt_of_pos _ (by omega)⟩
 exact Int.ediv_lt_of_lt_mul (by omega) (by omega)
section
theorem gmap_any (w:World) (g:Sp.Geom) (k:Int) (b:Bool):Calls Tryz.prog 36 #[gV g,.int .i64 k,.bool b] w fun e w'=>e = .returned (.tuple #[.int .i64 (mapAt g k b).1,.int .i64 (mapAt g k b).2])∧Below w.heap.size w w':=by
 have hw:=fun W:World=>gwithin_any W g k g.groups
 obtain⟨x,y,hx⟩:∃x y,mapAt g k b=(x,y):=⟨_,_,rfl⟩
 rw[hx]
 unfold mapAt at hx
 have hwz:=fun h=>(⟨(within_bd (g:=g) (n:=k) (m:=g.groups) h).1,(within_bd (g:=g) (n:=k) (m:=g.groups) h).2,Geom.first_bd (within_bd (g:=g) (n:=k) (m:=g.groups) h).1 (k:=k) (within_bd (g:=g) (n:=k) (m:=g.groups) h).2.1 (by have h2:=(within_bd (g:=g) (n:=k) (m:=g.groups) h).2.2; have h3:=(within_bd (g:=g) (n:=k) (m:=g.groups) h).1.2.1; omega)⟩:g.ok∧(0≤k∧k<g.groups)∧3≤g.first k∧g.first k≤403)
 have hf:=fun(W:World) (hg:g.ok) (h0:0≤k) (h4:k≤4)=>gfirst_any W hg h0 h4
 obtain⟨f,hf0⟩:=zx (g.first k)
 rw[hf0] at hf hx hwz
 obtain⟨ga,gb,gc⟩:=g
 simp only at hw hx hwz hf
 obtain⟨c,hc⟩:=zx ((⟨ga,gb,gc⟩:Sp.Geom).within k ga)
 rw[hc] at hw hx hwz
 unfold gV at hw hf ⊢
 obtain⟨W0,hW0⟩:=zg w ga gb gc
 have hk:=g_keep hW0
 have HB0:=zh hk.1
 have HK:=zh hk.2
 clear hk
 have HW:=zh hw
 have HWZ:=zh hwz
 have HX:=zh hx
 have HF:=zh hf
 clear hw hwz hx hf
 clear hc hf0
 obtain⟨z0,z1,z2⟩:=HK.out W0 (Below.refl _ _)
 go_enter Tryz.func36,Tryz.ntmps36
 go_wp2_with fail
 clear z0 z1 z2
 refine(HW.out _).mono ?_
 rintro e w1 ⟨rfl,hb1⟩
 have HB1:Hid (Below W0.heap.size W0 w1):=hb1
 clear hb1
 obtain⟨z0,z1,z2⟩:=HK.out w1 HB1.out
 by_cases hc0:c=0
 ·obtain⟨hg,⟨h0,h1⟩,h2,h3⟩:=HWZ.out hc0
  have hx:=HX.out
  rw[if_pos hc0] at hx
  have hf:=fun W=>HF.out W hg h0 (by have:=hg.2.1; simp only at this; omega)
  subst hc0
  have HE:=zh hx
  have HF:=zh hf
  clear hf
  clear hx HWZ HX hg h1
  cases b
  ·go_wp2_with fail
   clear z0 z1 z2
   refine(HF.out _).mono ?_
   rintro e w2 ⟨rfl,hb2⟩
   have HB2:Hid (Below W0.heap.size W0 w2):=blN HB1.out hb2
   clear hb2
   go_wp2
   go_ret2
   exact⟨ret_two' ((by simp:((f,0):Int×Int)=(f+(if false=true then 1 else 0),0)).trans HE.out),blN HB0.out HB2.out⟩
  ·go_wp2_with fail
   clear z0 z1 z2
   refine(HF.out _).mono ?_
   rintro e w2 ⟨rfl,hb2⟩
   have HB2:Hid (Below W0.heap.size W0 w2):=blN HB1.out hb2
   clear hb2
   go_wp2
   go_ret2
   exact⟨ret_two' ((by simp:((f+1,0):Int×Int)=(f+(if true=true then 1 else 0),0)).trans HE.out),blN HB0.out HB2.out⟩
 ·have f1:(c == 0)=false:=beq_eq_false_iff_ne.2 hc0
  have f2:(c != 0)=true:=by simp[hc0]
  have hx:=HX.out
  rw[if_neg hc0] at hx
  have HE:=zh hx
  clear hc0 hx
  go_wp2
  go_ret2
  exact⟨ret_two' HE.out,blN HB0.out HB1.out⟩
theorem ginode_any (w:World) (g:Sp.Geom) (i:Int):Calls Tryz.prog 38 #[gV g,.int .i64 i] w fun e w'=>e = .returned (.tuple #[.int .i64 (inodeAt g i).1,.int .i64 (inodeAt g i).2.1,.int .i64 (inodeAt g i).2.2.1,.int .i64 (inodeAt g i).2.2.2])∧Below w.heap.size w w':=by
 have hm:=fun W:World=>ginodes_any W g
 have hw:=fun W:World=>gwithin_any W g i (g.many+1)
 obtain⟨x,y,z,u,hx⟩:∃x y z u,inodeAt g i=(x,y,z,u):=⟨_,_,_,_,rfl⟩
 rw[hx]
 unfold inodeAt at hx
 have hwz:=fun h=>within_bd (g:=g) (n:=i) (m:=g.many+1) h
 have hib:=fun(hg:g.ok) (h0:0<i) (h1:i<g.many+1)=>inode_bd hg h0 h1
 have hmb:0≤g.many∧g.many≤128:=by
  by_cases hg:g.ok
  ·have:=Geom.prod hg; rw[Geom.many_ok hg]; omega
  ·rw[show g.many=0 from if_neg hg]; omega
 have hff:=fun(hg:g.ok) (k:Int) (h0:0≤k) (h4:k≤4)=>Geom.first_bd hg (k:=k) h0 h4
 have hf:=fun(W:World) (hg:g.ok) (k:Int) (h0:0≤k) (h4:k≤4)=>gfirst_any W hg (k:=k) h0 h4
 obtain⟨m,hm0⟩:=zx (g.many)
 rw[hm0] at hm hw hx hwz hib hmb
 obtain⟨c,hc⟩:=zx (g.within i (m+1))
 rw[hc] at hw hx hwz
 have hfz:∃F:Int→Int,(∀k,g.first k=F k):=⟨g.first,fun _=>rfl⟩
 obtain⟨F,hF⟩:=hfz
 simp only[hF] at hff hf hx
 obtain⟨ga,gb,gc⟩:=g
 simp only at hx hib
 unfold gV at hm hw hf ⊢
 obtain⟨W0,hW0⟩:=zg w ga gb gc
 have hk:=g_keep hW0
 have HB0:=zh hk.1
 have HK:=zh hk.2
 clear hk
 have HM:=zh hm
 have HW:=zh hw
 have HWZ:=zh hwz
 have HX:=zh hx
 have HF:=zh hf
 have HIB:=zh hib
 have HFF:=zh hff
 clear hm hw hwz hx hf hib hff
 clear hc hm0 hF
 have em:IntKind.i64.wrap (m+1)=m+1:=IntWalk.i64_in _ (by omega)
 have em0:0≤m:=hmb.1
 go_enter Tryz.func38,Tryz.ntmps38
 go_wp2_with fail
 go_region_held3 (fun W=>W.cell? ⟨w.heap.size,0,none⟩=some (.int .i64 ga)∧W.cell? ⟨w.heap.size,1,none⟩=some (.int .i64 gb)∧W.cell? ⟨w.heap.size,2,none⟩=some (.int .i64 gc))
  ((refine HK.out _ ?_; repeat' first | with_reducible exact Below.refl _ _ | with_reducible exact HB1.out | with_reducible exact HB2.out | with_reducible refine blD ?_ | with_reducible refine bl1 ?_ _))
  (first
    | (go_at_call 73
       refine(HM.out _).mono ?_
       rintro e w1 ⟨rfl,hb1⟩
       have HB1:Hid (Below W0.heap.size W0 w1):=blN (by repeat' first | with_reducible exact Below.refl _ _ | with_reducible refine blD ?_ | with_reducible refine bl1 ?_ _) hb1
       clear hb1
       simp only)
    | (go_at_call 74
       refine(HW.out _).mono ?_
       rintro e w2 ⟨rfl,hb2⟩
       have HB2:Hid (Below W0.heap.size W0 w2):=blN (by repeat' first | with_reducible exact Below.refl _ _ | with_reducible exact HB1.out | with_reducible refine blD ?_ | with_reducible refine bl1 ?_ _) hb2
       clear hb2
       simp only))
 by_cases hc0:c=0
 rotate_left
 ·have f1:(c == 0)=false:=beq_eq_false_iff_ne.2 hc0
  have f2:(c != 0)=true:=by simp[hc0]
  have hx:=HX.out
  rw[if_neg hc0] at hx
  have HE:=zh hx
  clear hc0 hx
  go_wp2
  refine bodyPost_ret (v:=.tuple #[.int .i64 0,.int .i64 0,.int .i64 0,.int .i64 c]) (by simp[results,Tryz.results38,go_sem]) rfl ?_
  exact⟨ret_q HE.out,blN HB0.out HB2.out⟩
 obtain⟨hg,h0,h1⟩:=HWZ.out hc0
 have hx:=HX.out
 rw[if_pos hc0] at hx
 have HX2:=zh hx
 subst hc0
 clear hx HX HWZ
 by_cases hi:i=0
 ·have hx:=HX2.out
  rw[if_pos hi] at hx
  have f1:(i == 0)=true:=beq_iff_eq.2 hi
  have HE:=zh hx
  clear hx hi hg
  go_wp2
  refine bodyPost_ret (v:=.tuple #[.int .i64 0,.int .i64 0,.int .i64 0,.int .i64 1]) (by simp[results,Tryz.results38,go_sem]) rfl ?_
  exact⟨ret_q HE.out,blN HB0.out HB2.out⟩
 have hx:=HX2.out
 rw[if_neg hi] at hx
 have f1:(i == 0)=false:=beq_eq_false_iff_ne.2 hi
 obtain⟨d0,d1,r0,r1⟩:=HIB.out hg (by omega) h1
 have e0:IntKind.i64.wrap (i-1)=i-1:=IntWalk.i64_in _ (by omega)
 have e1:(i-1).tdiv gb=(i-1) / gb:=Int.tdiv_eq_ediv_of_nonneg (by omega)
 have e2:(i-1).tmod gb=(i-1) % gb:=Int.tmod_eq_emod_of_nonneg (by omega)
 obtain⟨d,hd⟩:=zx ((i-1) / gb)
 obtain⟨r,hr⟩:=zx ((i-1) % gb)
 rw[hd] at e1 d0 d1 hx
 rw[hr] at e2 r0 r1 hx
 have hg1:1≤gb∧gb≤32:=⟨hg.2.2.1,hg.2.2.2.1⟩
 have hg2:ga≤4:=hg.2.1
 have hfd:=HFF.out hg d d0 (by omega)
 have hfc:=fun W=>HF.out W hg d d0 (by omega)
 obtain⟨f,hf⟩:=zx (F d)
 rw[hf] at hfd hfc hx
 have e3:IntKind.i64.wrap d=d:=IntWalk.i64_in _ (by omega)
 have e4:IntKind.i64.wrap r=r:=IntWalk.i64_in _ (by omega)
 have e5:IntKind.i64.wrap (f+2)=f+2:=IntWalk.i64_in _ (by omega)
 have e6:IntKind.i64.wrap (f+2+r)=f+2+r:=IntWalk.i64_in _ (by omega)
 have hL0:¬gb=0:=by omega
 have hLb:(gb == 0)=false:=beq_eq_false_iff_ne.2 hL0
 have hs0:0≤i-1:=by omega
 have HE:=zh hx
 have HFC:=zh hfc
 clear hfc
 obtain⟨z0,z1,z2⟩:=HK.out w2 HB2.out
 clear hx hg hd hr hf hi HFF HF HX2 HIB hmb em em0
 go_wp2_with fail
 go_quiet (fail)
 rename_i nq
 have HB3:Hid (Below W0.heap.size W0 (w2.drewN nq)):=below_drewN HB2.out _
 obtain⟨w3,hw3⟩:=zx (w2.drewN nq)
 rw[hw3] at HB3 ⊢
 clear z0 z1 z2 hw3
 obtain⟨z0,z1,z2⟩:=HK.out w3 HB3.out
 go_wp2_with fail
 clear z0 z1 z2
 refine(HFC.out _).mono ?_
 rintro e w4 ⟨rfl,hb4⟩
 have HB4:=zh (blN HB3.out hb4)
 clear hb4
 go_wp2
 refine bodyPost_ret (v:=.tuple #[.int .i64 (f+2+r),.int .i64 d,.int .i64 r,.int .i64 0]) (by simp[results,Tryz.results38,go_sem]) rfl ?_
 exact⟨ret_q HE.out,blN HB0.out HB4.out⟩
end
theorem take_all {α:Type} {l:List α} {k:Nat} {x:α} {p:α→Prop} (h:∀y∈l.take k,p y) (hx:l[k]? = some x) (h2:p x):∀y∈l.take (k+1),p y:=by
 intro y hy
 rw[List.take_add_one,hx] at hy
 rcases List.mem_append.1 hy with hy | hy
 ·exact h y hy
 ·have:y=x:=by simpa using hy
  rw[this]; exact h2
section
theorem iblocks_any (w:World) (g:Sp.Geom) (v:Value) (l:List Int) (hv:Ints w v l):Calls Tryz.prog 124 #[gV g,v] w fun e w'=>e = .returned (.bool (decide (∀b∈l,blockOk g b)))∧Below w.heap.size w w':=by
 obtain⟨ad,n,cap,rfl,HN,hn2,HF⟩:=RowAt.facts hv
 clear hv
 have hw:=fun(W:World) (x:Int)=>gwhat_any W g x
 obtain⟨Q,hQ⟩:∃Q:Int→Prop,∀x,blockOk g x↔Q x:=⟨blockOk g,fun _=>Iff.rfl⟩
 obtain⟨K,hK⟩:∃K:Int→Int×Int×Int,∀x,g.what x=K x:=⟨g.what,fun _=>rfl⟩
 simp only[hK] at hw
 have hok2:∀x,Q x↔x=0∨(K x).2.2=0∧(K x).1=6:=fun x=>by rw[←hQ,←hK]; exact Iff.rfl
 have HD1:Hid ((∀x∈l,Q x)→decide (∀b∈l,blockOk g b)=true):=fun h=>decide_eq_true (fun b hb=>(hQ b).2 (h b hb))
 have HD2:Hid ((¬∀x∈l,Q x)→decide (∀b∈l,blockOk g b)=false):=fun h=>decide_eq_false (fun k=>h (fun b hb=>(hQ b).1 (k b hb)))
 obtain⟨R,hR⟩:=zx (decide (∀b∈l,blockOk g b))
 rw[hR] at HD1 HD2 ⊢
 have HWW:=zh hw
 obtain⟨ga,gb,gc⟩:=g
 unfold gV at HWW ⊢
 have HOK:=zh hok2
 clear hw hok2 hQ hK hR
 obtain⟨W0,hW0⟩:=zg w ga gb gc
 have hk:=g_keep hW0
 have HB0:=zh hk.1
 have HK:=zh hk.2
 clear hk
 go_enter Tryz.func124,Tryz.ntmps124
 go_wp2
 go_loopw [12] (fun i wr=>∃k:Nat,k≤n∧i = .int .i64 k∧Hid (∀y∈l.take k,Q y)∧Hid (Below W0.heap.size W0 wr)) (fun i _=>n-(intOf i).toNat)
 case atStart=>exact⟨0,Nat.zero_le _,rfl,zh (by simp),zh (Below.refl _ _)⟩
 case round=>
  obtain⟨k,hk,rfl,HA,HB⟩:=hrel
  by_cases hlt:k<n
  ·obtain⟨b,o,x,rfl,hb,hx,hc⟩:=HF.out k hlt
   have c0:wr.cell? ⟨b,o+k,none⟩=some (.int .i64 x):=by
    have h:=((blN HB0.out HB.out).cell (p:=⟨b,o+k*1+0,none⟩) hb).trans (hc 0 _ rfl)
    simpa using h
   have HW:Hid (∀W:World,Calls Tryz.prog 93 #[.agg #[.int .i64 ga,.int .i64 gb,.int .i64 gc],.int .i64 x] W fun e w'=>e = .returned (.tuple #[.int .i64 (K x).1,.int .i64 (K x).2.1,.int .i64 (K x).2.2])∧Below W.heap.size W w'):=fun W=>HWW.out W x
   have ho:=HOK.out x
   obtain⟨kd,hkd⟩:=zx ((K x).1)
   obtain⟨nm,hnm⟩:=zx ((K x).2.1)
   obtain⟨ec,hec⟩:=zx ((K x).2.2)
   rw[hkd,hnm,hec] at HW
   rw[hkd,hec] at ho
   have HX:=zh hx
   have HO:=zh ho
   obtain⟨z0,z1,z2⟩:=HK.out wr HB.out
   clear hkd hnm hec ho hx hc
   by_cases hx0:x=0
   ·have HG:=zh (take_all HA.out HX.out (HO.out.2 (Or.inl hx0)))
    have f1:(x == 0)=true:=beq_iff_eq.2 hx0
    have f2:(x != 0)=false:=by simp[hx0]
    clear hx0
    go_wp2_with fail
    refine(HW.out _).mono ?_
    rintro e w2 ⟨rfl,hb2⟩
    have HB2:Hid (Below W0.heap.size W0 w2):=blN HB.out hb2
    clear hb2 z0 z1 z2
    go_wp2
    go_roundw
    case rel=>exact⟨k+1,by omega,by go_num,HG,HB2⟩
    case measure=>simp[intOf]; omega
   have f1:(x == 0)=false:=beq_eq_false_iff_ne.2 hx0
   have f2:(x != 0)=true:=by simp[hx0]
   by_cases he0:ec=0
   rotate_left
   ·have HG:Hid (R=false):=HD2.out (fun h=>by
     rcases HO.out.1 (h x (List.mem_of_getElem? HX.out)) with h | h
     ·exact hx0 h
     ·exact he0 h.1)
    have f3:(ec == 0)=false:=beq_eq_false_iff_ne.2 he0
    have f4:(ec != 0)=true:=by simp[he0]
    clear hx0 he0
    go_wp2_with fail
    refine(HW.out _).mono ?_
    rintro e w2 ⟨rfl,hb2⟩
    have HB2:Hid (Below W0.heap.size W0 w2):=blN HB.out hb2
    clear hb2 z0 z1 z2
    go_wp2
    go_ret
    exact⟨ret_b HG.out.symm,blN HB0.out HB2.out⟩
   by_cases hk6:kd=6
   ·have HG:=zh (take_all HA.out HX.out (HO.out.2 (Or.inr ⟨he0,hk6⟩)))
    subst he0 hk6
    clear hx0
    go_wp2_with fail
    refine(HW.out _).mono ?_
    rintro e w2 ⟨rfl,hb2⟩
    have HB2:Hid (Below W0.heap.size W0 w2):=blN HB.out hb2
    clear hb2 z0 z1 z2
    go_wp2
    go_roundw
    case rel=>exact⟨k+1,by omega,by go_num,HG,HB2⟩
    case measure=>simp[intOf]; omega
   ·have HG:Hid (R=false):=HD2.out (fun h=>by
     rcases HO.out.1 (h x (List.mem_of_getElem? HX.out)) with h | h
     ·exact hx0 h
     ·exact hk6 h.2)
    have f3:(kd == 6)=false:=beq_eq_false_iff_ne.2 hk6
    have f4:(kd != 6)=true:=by simp[hk6]
    subst he0
    clear hx0 hk6
    go_wp2_with fail
    refine(HW.out _).mono ?_
    rintro e w2 ⟨rfl,hb2⟩
    have HB2:Hid (Below W0.heap.size W0 w2):=blN HB.out hb2
    clear hb2 z0 z1 z2
    go_wp2
    go_ret
    exact⟨ret_b HG.out.symm,blN HB0.out HB2.out⟩
  ·have HG:Hid (R=true):=HD1.out (by
    have:=HA.out
    rwa [List.take_of_length_le (by have:=HN.out; omega)] at this)
   go_wp2
   go_ret
   exact⟨ret_b HG.out.symm,blN HB0.out HB.out⟩
end
