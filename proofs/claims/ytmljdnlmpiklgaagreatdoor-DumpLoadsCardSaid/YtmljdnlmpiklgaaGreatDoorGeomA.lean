import Derived.Test.YtmljdnlmpiklgaaGreatDoorProg
import Derived.BigQuiet
import Derived.Test.YtmljdnlmpiklgaaGreatDoorSpA
import Derived.WalkLawsBesides
set_option maxRecDepth 20000
set_option maxHeartbeats 8000000
namespace Go.Proofs.YtmljdnlmpiklgaaGreatDoor
open Go Go.RowKit Txt Sp
theorem text_at (w:World) {s:ByteArray} {k j:Nat} (h:k+j<s.size):(Instr.index 9 (.string s) (.int .i64 ((k:Int)+(j:Int)))).run Tryz.prog w = .ok (.int .u8 (s[k+j].toNat:Int)) w:=by
 rw[run_index_string w _ s _ _ Tryz.underlying9,dif_pos ⟨by omega,by omega⟩]
 have e:((k:Int)+(j:Int)).toNat=k+j:=by omega
 simp only[e]
theorem ret_two {a b c:Int} (h:a=b):Ending.returned (.tuple #[.int .i64 a,.int .i64 c]) = .returned (.tuple #[.int .i64 b,.int .i64 c]):=by rw[h]
section
theorem fwide_any (w:World) (b:Int):Calls Tryz.prog 157 #[.int .i64 b] w fun e w'=>e = .returned (.bool (decide (wide b)))∧w' = w:=by
 by_cases h1:b=1
 ·have hd:decide (wide b)=true:=decide_eq_true (Or.inl h1)
  rw[hd]
  subst h1
  go_enter Tryz.func157,Tryz.ntmps157
  go_wp2
  go_ret
  exact⟨rfl,rfl⟩
 by_cases h2:b=2
 ·have hd:decide (wide b)=true:=decide_eq_true (Or.inr (Or.inl h2))
  rw[hd]
  subst h2
  go_enter Tryz.func157,Tryz.ntmps157
  go_wp2
  go_ret
  exact⟨rfl,rfl⟩
 by_cases h3:b=4
 ·have hd:decide (wide b)=true:=decide_eq_true (Or.inr (Or.inr h3))
  rw[hd]
  subst h3
  go_enter Tryz.func157,Tryz.ntmps157
  go_wp2
  go_ret
  exact⟨rfl,rfl⟩
 have hd:decide (wide b)=false:=decide_eq_false (fun h=>by rcases h with h | h | h <;> omega)
 rw[hd]
 have f1:(b == 1)=false:=beq_eq_false_iff_ne.2 h1
 have f2:(b == 2)=false:=beq_eq_false_iff_ne.2 h2
 have f3:(b == 4)=false:=beq_eq_false_iff_ne.2 h3
 clear h1 h2 h3 hd
 go_enter Tryz.func157,Tryz.ntmps157
 go_wp2
 go_ret
 exact⟨rfl,rfl⟩
theorem finside_any (w:World) (off b:Int):Calls Tryz.prog 158 #[.int .i64 off,.int .i64 b] w fun e w'=>e = .returned (.bool (decide (inside off b)))∧w' = w:=by
 by_cases h1:0≤off
 rotate_left
 ·have hd:Hid (decide (inside off b)=false):=decide_eq_false (fun h=>h1 h.1)
  rw[hd.out]
  go_enter Tryz.func158,Tryz.ntmps158
  go_wp2
  go_ret
  exact⟨rfl,rfl⟩
 by_cases h2:0<b
 rotate_left
 ·have hd:Hid (decide (inside off b)=false):=decide_eq_false (fun h=>h2 h.2.1)
  rw[hd.out]
  go_enter Tryz.func158,Tryz.ntmps158
  go_wp2
  go_ret
  exact⟨rfl,rfl⟩
 by_cases h3:b≤64
 rotate_left
 ·have hd:Hid (decide (inside off b)=false):=decide_eq_false (fun h=>h3 h.2.2.1)
  rw[hd.out]
  go_enter Tryz.func158,Tryz.ntmps158
  go_wp2
  go_ret
  exact⟨rfl,rfl⟩
 by_cases h4:off≤64-b
 rotate_left
 ·have hd:Hid (decide (inside off b)=false):=decide_eq_false (fun h=>h4 h.2.2.2)
  rw[hd.out]
  go_enter Tryz.func158,Tryz.ntmps158
  go_wp2
  go_ret
  exact⟨rfl,rfl⟩
 have hd:Hid (decide (inside off b)=true):=decide_eq_true ⟨h1,h2,h3,h4⟩
 rw[hd.out]
 go_enter Tryz.func158,Tryz.ntmps158
 go_wp2
 go_ret
 exact⟨rfl,rfl⟩
theorem fget_draws (w:World) (s:ByteArray) (off b:Int):Calls Tryz.prog 136 #[.string s,.int .i64 off,.int .i64 b] w fun e w'=>e = .returned (.tuple #[.int .i64 (getN s off b),.int .i64 (getC s off b)])∧∃q,w' = w.drewN q:=by
 have HW:=fun W:World=>fwide_any W b
 have HI:=fun W:World=>finside_any W off b
 by_cases hs:s.size=64
 rotate_left
 ·have hc:getC s off b=4:=if_pos hs
  have hn:getN s off b=0:=if_neg (by rw[hc]; decide)
  rw[hc,hn]
  have f:((s.size:Int) == 64)=false:=beq_eq_false_iff_ne.2 (by omega)
  clear HW HI hc hn hs
  go_enter Tryz.func136,Tryz.ntmps136
  go_wp2
  go_ret2
  exact⟨rfl,0,rfl⟩
 by_cases hw:wide b
 rotate_left
 ·have hc:getC s off b=1:=by
   unfold getC
   rw[if_neg (by simp[hs]),if_neg (fun h=>hw h.1)]
  have hn:getN s off b=0:=if_neg (by rw[hc]; decide)
  rw[hc,hn]
  rw[decide_eq_false hw] at HW
  have HW2:=zh HW
  clear HW HI hc hn hw
  go_enter Tryz.func136,Tryz.ntmps136
  go_wp2_with fail
  refine(HW2.out _).mono ?_
  rintro e w1 ⟨rfl,rfl⟩
  go_wp2
  go_ret2
  exact⟨rfl,0,rfl⟩
 by_cases hi:inside off b
 rotate_left
 ·have hc:getC s off b=1:=by
   unfold getC
   rw[if_neg (by simp[hs]),if_neg (fun h=>hi h.2)]
  have hn:getN s off b=0:=if_neg (by rw[hc]; decide)
  rw[hc,hn]
  rw[decide_eq_true hw] at HW
  rw[decide_eq_false hi] at HI
  have HW2:=zh HW
  have HI2:=zh HI
  clear HW HI hc hn hw hi
  go_enter Tryz.func136,Tryz.ntmps136
  go_wp2_with fail
  refine(HW2.out _).mono ?_
  rintro e w1 ⟨rfl,rfl⟩
  go_wp2_with fail
  refine(HI2.out _).mono ?_
  rintro e w1 ⟨rfl,rfl⟩
  go_wp2
  go_ret2
  exact⟨rfl,0,rfl⟩
 obtain⟨k,rfl⟩:∃k:Nat,off=(k:Int):=⟨off.toNat,by have:=hi.1; omega⟩
 have hc:getC s k b=0:=by
  unfold getC
  rw[if_neg (by simp[hs]),if_pos ⟨hw,hi⟩]
 have hn:getN s k b=numAt s k b.toNat:=by
  unfold getN
  rw[if_pos hc]
  rfl
 rw[hc,hn]
 rw[decide_eq_true hw] at HW
 rw[decide_eq_true hi] at HI
 have HW2:=zh HW
 have HI2:=zh HI
 obtain⟨_,hi2,hi3,hi4⟩:=hi
 clear HW HI hc hn
 have hk0:(0:Int)≤(k:Int):=by omega
 rcases hw with rfl | rfl | rfl
 ·have hk:k<s.size:=by omega
  have HE:Hid (numAt s k 1=s[k].toNat):=num_one hk
  have b0:s[k].toNat<256:=UInt8.toNat_lt _
  have HO:=zh (or_one s[k].toNat b0)
  go_enter Tryz.func136,Tryz.ntmps136
  go_wp2_with fail
  refine(HW2.out _).mono ?_
  rintro e w1 ⟨rfl,rfl⟩
  go_wp2_with fail
  refine(HI2.out _).mono ?_
  rintro e w1 ⟨rfl,rfl⟩
  go_wp2
  go_ret2
  exact⟨ret_two (HO.out.trans (by rw[←HE.out]; rfl)),0,rfl⟩
 ·have hk:k+1<s.size:=by omega
  have HE:Hid (numAt s k 2=s[k].toNat+256*s[k+1].toNat):=num_two hk
  have b0:s[k].toNat<256:=UInt8.toNat_lt _
  have b1:s[k+1].toNat<256:=UInt8.toNat_lt _
  have HO:=zh (or_two s[k].toNat s[k+1].toNat b0 b1)
  go_enter Tryz.func136,Tryz.ntmps136
  go_wp2_with fail
  refine(HW2.out _).mono ?_
  rintro e w1 ⟨rfl,rfl⟩
  go_wp2_with fail
  refine(HI2.out _).mono ?_
  rintro e w1 ⟨rfl,rfl⟩
  go_wp2
  go_ret2
  exact⟨ret_two (HO.out.trans (by rw[←HE.out]; rfl)),0,rfl⟩
 ·have hk:k+3<s.size:=by omega
  have HE:Hid (numAt s k 4=s[k].toNat+256*(s[k+1].toNat+256*(s[k+2].toNat+256*s[k+3].toNat))):=num_four hk
  have b0:s[k].toNat<256:=UInt8.toNat_lt _
  have b1:s[k+1].toNat<256:=UInt8.toNat_lt _
  have b2:s[k+2].toNat<256:=UInt8.toNat_lt _
  have b3:s[k+3].toNat<256:=UInt8.toNat_lt _
  have HO:=zh (or_four s[k].toNat s[k+1].toNat s[k+2].toNat s[k+3].toNat b0 b1 b2 b3)
  have hx3:∀W:World,(Instr.index 9 (.string s) (.int .i64 ((k:Int)+3))).run Tryz.prog W = .ok (.int .u8 (s[k+3].toNat:Int)) W:=fun W=>text_at W (j:=3) hk
  have hx2:∀W:World,(Instr.index 9 (.string s) (.int .i64 ((k:Int)+2))).run Tryz.prog W = .ok (.int .u8 (s[k+2].toNat:Int)) W:=fun W=>text_at W (j:=2) (by omega)
  have e3:IntKind.i64.wrap ((k:Int)+3)=(k:Int)+3:=IntWalk.i64_in _ (by omega)
  have e2:IntKind.i64.wrap ((k:Int)+2)=(k:Int)+2:=IntWalk.i64_in _ (by omega)
  go_enter Tryz.func136,Tryz.ntmps136
  go_wp2_with fail
  refine(HW2.out _).mono ?_
  rintro e w1 ⟨rfl,rfl⟩
  go_wp2_with fail
  refine(HI2.out _).mono ?_
  rintro e w1 ⟨rfl,rfl⟩
  go_wp2
  go_quiet (fail)
  go_wp2
  go_ret2
  exact⟨ret_two (HO.out.trans (by rw[←HE.out]; rfl)),_,rfl⟩
theorem fget_any (w:World) (s:ByteArray) (off b:Int):Calls Tryz.prog 136 #[.string s,.int .i64 off,.int .i64 b] w fun e w'=>e = .returned (.tuple #[.int .i64 (getN s off b),.int .i64 (getC s off b)])∧Below w.heap.size w w':=
 (fget_draws w s off b).mono fun _ _ ⟨he,q,hw⟩=>⟨he,hw ▸ below_drewN (Below.refl _ _) q⟩
end
def gV (g:Sp.Geom):Value:=.agg #[.int .i64 g.groups,.int .i64 g.inodes,.int .i64 g.blocks]
theorem bl1 {w W:World} (h:Below w.heap.size w W) (o:Obj):Below w.heap.size w (W.alloc o):=h.alloc h.size o
theorem bl2 {w:World} (o:Obj):Below w.heap.size w (w.alloc o):=(Below.refl _ _).alloc (Nat.le_refl _) o
theorem blN {a b c:World} (h:Below a.heap.size a b) (k:Below b.heap.size b c):Below a.heap.size a c:=h.trans (k.mono h.size)
theorem cellOf {w:World} {b k:Nat} {cs:Array Value} {e:TypeId} {fr:Nat×Nat} {v:Value} (h:w.heap[b]? = some (.cells cs e fr)) (hv:cs[k]? = some v):w.cell? ⟨b,k,none⟩=some v:=by
 simp[World.cell?,h,hv]
theorem zc (k:Nat) {w:World} {b:Nat} {cs:Array Value} {e:TypeId} {fr:Nat×Nat} {v:Value} (h:w.heap[b]? = some (.cells cs e fr)) (hv:cs[k]? = some v:=by exact rfl):w.cell? ⟨b,k,none⟩=some v:=cellOf h hv
theorem heapNew (w:World) (o:Obj):(w.alloc o).heap[w.heap.size]? = some o:=by
 show(w.heap.push o)[w.heap.size]? = some o
 exact Array.getElem?_push_size
theorem heapOld {w w':World} (hb:Below w.heap.size w w') {k:Nat} {o:Obj} (h:w.heap[k]? = some o):w'.heap[k]? = some o:=by
 rw[hb.block k (Array.getElem?_eq_some_iff.1 h).1]; exact h
theorem g_cells {w:World} {a b c:Int} {t:TypeId} {w':World} (hb:Below (w.alloc (.cells #[.int .i64 a,.int .i64 b,.int .i64 c] t)).heap.size (w.alloc (.cells #[.int .i64 a,.int .i64 b,.int .i64 c] t)) w') :
 w'.cell? ⟨w.heap.size,0,none⟩=some (.int .i64 a)∧w'.cell? ⟨w.heap.size,1,none⟩=some (.int .i64 b)∧w'.cell? ⟨w.heap.size,2,none⟩=some (.int .i64 c):=
 have h:=heapOld hb (heapNew w _)
 ⟨cellOf h rfl,cellOf h rfl,cellOf h rfl⟩
section
theorem gcheck_any (w:World) (g:Sp.Geom):Calls Tryz.prog 14 #[gV g] w fun e w'=>e = .returned (.int .i64 g.check)∧Below w.heap.size w w':=by
 obtain⟨a,b,c⟩:=g
 by_cases h1:min (min a b) c<1
 ·have HNo:Hid (¬(⟨a,b,c⟩:Sp.Geom).ok):=fun⟨h2,h3,h4,h5,h6,h7⟩=>by
   simp only at h2 h4 h6
   omega
  rw[Geom.check_no HNo.out]
  unfold gV
  go_enter Tryz.func14,Tryz.ntmps14
  go_wp2
  all_goals first | (go_ret; exact⟨rfl,bl2 _⟩) | (exfalso; omega)
 by_cases h2:a≤4
 rotate_left
 ·have HNo:Hid (¬(⟨a,b,c⟩:Sp.Geom).ok):=fun h=>h2 h.2.1
  rw[Geom.check_no HNo.out]
  unfold gV
  go_enter Tryz.func14,Tryz.ntmps14
  go_wp2
  all_goals first | (go_ret; exact⟨rfl,bl2 _⟩) | (exfalso; omega)
 by_cases h3:b≤32
 rotate_left
 ·have HNo:Hid (¬(⟨a,b,c⟩:Sp.Geom).ok):=fun h=>h3 h.2.2.2.1
  rw[Geom.check_no HNo.out]
  unfold gV
  go_enter Tryz.func14,Tryz.ntmps14
  go_wp2
  all_goals first | (go_ret; exact⟨rfl,bl2 _⟩) | (exfalso; omega)
 by_cases h4:c≤64
 rotate_left
 ·have HNo:Hid (¬(⟨a,b,c⟩:Sp.Geom).ok):=fun h=>h4 h.2.2.2.2.2
  rw[Geom.check_no HNo.out]
  unfold gV
  go_enter Tryz.func14,Tryz.ntmps14
  go_wp2
  all_goals first | (go_ret; exact⟨rfl,bl2 _⟩) | (exfalso; omega)
 have HYes:Hid ((⟨a,b,c⟩:Sp.Geom).ok):=⟨by show 1≤a; omega,h2,by show 1≤b; omega,h3,by show 1≤c; omega,h4⟩
 rw[Geom.check_ok HYes.out]
 unfold gV
 go_enter Tryz.func14,Tryz.ntmps14
 go_wp2
 all_goals first | (go_ret; exact⟨rfl,bl2 _⟩) | (exfalso; omega)
theorem gmay_any (w:World) (g:Sp.Geom):Calls Tryz.prog 29 #[gV g] w fun e w'=>e = .returned (.bool (decide g.ok))∧Below w.heap.size w w':=by
 obtain⟨c,hc⟩:=zx (g.check)
 have h0:=g.check_zero
 rw[hc] at h0
 have H0:=zh h0
 have HC:Hid (∀W:World,Calls Tryz.prog 14 #[gV g] W fun e w'=>e = .returned (.int .i64 c)∧Below W.heap.size W w'):=fun W=>by rw[←hc]; exact gcheck_any W g
 obtain⟨ga,gb,gc⟩:=g
 unfold gV at HC ⊢
 clear hc h0
 by_cases hcc:c=0
 ·have hd:decide ((⟨ga,gb,gc⟩:Sp.Geom).ok)=true:=decide_eq_true (H0.out.1 hcc)
  rw[hd]
  subst hcc
  go_enter Tryz.func29,Tryz.ntmps29
  go_wp2_with fail
  refine(HC.out _).mono ?_
  rintro e w1 ⟨rfl,hb⟩
  have HB:=zh (blN (bl2 _) hb)
  clear hb
  go_wp2
  go_ret
  exact⟨rfl,HB.out⟩
 ·have hd:decide ((⟨ga,gb,gc⟩:Sp.Geom).ok)=false:=decide_eq_false (fun h=>hcc (H0.out.2 h))
  rw[hd]
  have f:(c == 0)=false:=beq_eq_false_iff_ne.2 hcc
  clear hcc
  go_enter Tryz.func29,Tryz.ntmps29
  go_wp2_with fail
  refine(HC.out _).mono ?_
  rintro e w1 ⟨rfl,hb⟩
  have HB:=zh (blN (bl2 _) hb)
  clear hb
  go_wp2
  go_ret
  exact⟨rfl,HB.out⟩
end
theorem blD {w W:World} (h:Below w.heap.size w W):Below w.heap.size w W.drew:=below_drewN h 1
theorem ret_i {a b:Int} (h:a=b):Ending.returned (.int .i64 a) = .returned (.int .i64 b):=by rw[h]
theorem g_keep {w W0:World} {a b c:Int} {t:TypeId} (h:w.alloc (.cells #[.int .i64 a,.int .i64 b,.int .i64 c] t)=W0) :
 Below w.heap.size w W0∧∀W,Below W0.heap.size W0 W→W.cell? ⟨w.heap.size,0,none⟩=some (.int .i64 a)∧W.cell? ⟨w.heap.size,1,none⟩=some (.int .i64 b)∧W.cell? ⟨w.heap.size,2,none⟩=some (.int .i64 c):=by
 subst h
 exact⟨bl2 _,fun W hW=>g_cells hW⟩
section
theorem ginodes_any (w:World) (g:Sp.Geom):Calls Tryz.prog 73 #[gV g] w fun e w'=>e = .returned (.int .i64 g.many)∧Below w.heap.size w w':=by
 have hc:=fun W:World=>gmay_any W g
 by_cases hg:g.ok
 ·rw[Geom.many_ok hg]
  rw[decide_eq_true hg] at hc
  have hp:=Geom.prod hg
  obtain⟨ga,gb,gc⟩:=g
  unfold gV at hc ⊢
  simp only at hp
  have HC:=zh hc
  have e1:IntKind.i64.wrap (ga*gb)=ga*gb:=IntWalk.i64_in _ (by omega)
  have HP:=zh hp
  clear hg hc hp
  go_enter Tryz.func73,Tryz.ntmps73
  go_wp2_with fail
  refine(HC.out _).mono ?_
  rintro e w1 ⟨rfl,hb⟩
  obtain⟨z0,z1,z2⟩:=g_cells hb
  have HB:=zh (blN (bl2 _) hb)
  clear hb
  go_wp2
  go_ret
  exact⟨rfl,HB.out⟩
 ·have hm:g.many=0:=if_neg hg
  rw[hm]
  rw[decide_eq_false hg] at hc
  obtain⟨ga,gb,gc⟩:=g
  unfold gV at hc ⊢
  have HC:=zh hc
  clear hg hc hm
  go_enter Tryz.func73,Tryz.ntmps73
  go_wp2_with fail
  refine(HC.out _).mono ?_
  rintro e w1 ⟨rfl,hb⟩
  have HB:=zh (blN (bl2 _) hb)
  clear hb
  go_wp2
  go_ret
  exact⟨rfl,HB.out⟩
theorem gregions_any (w:World) (g:Sp.Geom):Calls Tryz.prog 35 #[gV g] w fun e w'=>e = .returned (.int .i64 g.regions)∧Below w.heap.size w w':=by
 have hc:=fun W:World=>gmay_any W g
 have hi:=fun W:World=>ginodes_any W g
 by_cases hg:g.ok
 ·rw[Geom.regions_ok hg]
  rw[decide_eq_true hg] at hc
  have hp:=Geom.prod hg
  rw[Geom.many_ok hg] at hi
  have hg1:=hg.1
  have hg2:=hg.2.1
  obtain⟨ga,gb,gc⟩:=g
  unfold gV at hc hi ⊢
  simp only at hp hg1 hg2 hi ⊢
  obtain⟨m,hm⟩:=zx (ga*gb)
  rw[hm] at hp hi ⊢
  have HC:=zh hc
  have HI:=zh hi
  clear hg hc hm hi
  obtain⟨W0,hW0⟩:=zg w ga gb gc
  have hk:=g_keep hW0
  have HB0:=zh hk.1
  have HK:=zh hk.2
  clear hk
  go_enter Tryz.func35,Tryz.ntmps35
  obtain⟨z0,z1,z2⟩:=HK.out W0 (Below.refl _ _)
  go_wp2_with fail
  clear z0 z1 z2
  refine(HC.out _).mono ?_
  rintro e w1 ⟨rfl,hb⟩
  have HB1:Hid (Below W0.heap.size W0 w1):=hb
  clear hb
  have e1:IntKind.i64.wrap (ga+m)=ga+m:=IntWalk.i64_in _ (by omega)
  go_wp2_with fail
  go_region_held3 (fun W=>W.cell? ⟨w.heap.size,0,none⟩=some (.int .i64 ga)∧W.cell? ⟨w.heap.size,1,none⟩=some (.int .i64 gb)∧W.cell? ⟨w.heap.size,2,none⟩=some (.int .i64 gc))
   ((refine HK.out _ ?_; repeat' first | with_reducible exact Below.refl _ _ | with_reducible exact HB1.out | with_reducible exact HB2.out | with_reducible exact HB3.out | with_reducible refine bl1 ?_ _ | with_reducible refine blD ?_))
   (first
     | (go_at_call 73
        refine(HI.out _).mono ?_
        rintro e w2 ⟨rfl,hb2⟩
        have HB2:Hid (Below W0.heap.size W0 w2):=blN (by repeat' first | with_reducible exact Below.refl _ _ | with_reducible exact HB1.out | with_reducible exact HB2.out | with_reducible refine bl1 ?_ _ | with_reducible refine blD ?_) hb2
        clear hb2
        simp only))
  all_goals
   go_wp2
   go_ret
   exact⟨rfl,blN HB0.out HB2.out⟩
 ·have hm:g.regions=0:=if_neg hg
  rw[hm]
  rw[decide_eq_false hg] at hc
  obtain⟨ga,gb,gc⟩:=g
  unfold gV at hc ⊢
  have HC:=zh hc
  clear hg hc hm hi
  go_enter Tryz.func35,Tryz.ntmps35
  go_wp2_with fail
  refine(HC.out _).mono ?_
  rintro e w1 ⟨rfl,hb⟩
  have HB:=zh (blN (bl2 _) hb)
  clear hb
  go_wp2
  go_ret
  exact⟨rfl,HB.out⟩
theorem glong_any (w:World) {g:Sp.Geom} (hg:g.ok):Calls Tryz.prog 65 #[gV g] w fun e w'=>e = .returned (.int .i64 g.long)∧Below w.heap.size w w':=by
 obtain⟨h1,h2,h3,h4,h5,h6⟩:=hg
 obtain⟨ga,gb,gc⟩:=g
 unfold gV Geom.long
 simp only at h1 h2 h3 h4 h5 h6 ⊢
 go_enter Tryz.func65,Tryz.ntmps65
 go_wp2
 go_ret
 exact⟨rfl,bl2 _⟩
theorem gfirst_any (w:World) {g:Sp.Geom} (hg:g.ok) {k:Int} (hk0:0≤k) (hk4:k≤4):Calls Tryz.prog 30 #[gV g,.int .i64 k] w fun e w'=>e = .returned (.int .i64 (g.first k))∧Below w.heap.size w w':=by
 have hr:=fun W:World=>gregions_any W g
 have hl:=fun W:World=>glong_any W hg
 have hrb:=Geom.regions_bd hg
 have hlb:=Geom.long_bd hg
 unfold Geom.first
 obtain⟨r,hr0⟩:=zx (g.regions)
 obtain⟨m,hm0⟩:=zx (g.long)
 rw[hr0] at hr hrb ⊢
 rw[hm0] at hl hlb ⊢
 obtain⟨ga,gb,gc⟩:=g
 unfold gV at hr hl ⊢
 have hmul:0≤k*m∧k*m≤392:=⟨Int.mul_nonneg hk0 (by omega),by
  have e:k=0∨k=1∨k=2∨k=3∨k=4:=by omega
  rcases e with e | e | e | e | e <;> rw[e] <;> omega⟩
 obtain⟨x,hx⟩:=zx (k*m)
 have e1:IntKind.i64.wrap (k*m)=x:=by rw[hx]; exact IntWalk.i64_in _ (by omega)
 rw[hx] at hmul ⊢
 have HR:=zh hr
 have HL:=zh hl
 have HX:=zh hx
 clear hg hr hl hr0 hm0 hx
 obtain⟨W0,hW0⟩:=zg w ga gb gc
 have hk:=g_keep hW0
 have HB0:=zh hk.1
 have HK:=zh hk.2
 clear hk
 have e2:IntKind.i64.wrap (r+16)=r+16:=IntWalk.i64_in _ (by omega)
 have e3:IntKind.i64.wrap (r+16-1)=r+16-1:=IntWalk.i64_in _ (by omega)
 have e4:(r+16-1).tdiv 16=(r+16-1) / 16:=Int.tdiv_eq_ediv_of_nonneg (by omega)
 have e5:IntKind.i64.wrap ((r+16-1) / 16)=(r+16-1) / 16:=IntWalk.i64_in _ (by omega)
 have e6:IntKind.i64.wrap (2+(r+16-1) / 16)=2+(r+16-1) / 16:=IntWalk.i64_in _ (by omega)
 have e7:IntKind.i64.wrap (2+(r+16-1) / 16+x)=2+(r+16-1) / 16+x:=IntWalk.i64_in _ (by omega)
 go_enter Tryz.func30,Tryz.ntmps30
 go_wp2_with fail
 go_region_held3 (fun W=>W.cell? ⟨w.heap.size,0,none⟩=some (.int .i64 ga)∧W.cell? ⟨w.heap.size,1,none⟩=some (.int .i64 gb)∧W.cell? ⟨w.heap.size,2,none⟩=some (.int .i64 gc))
  ((refine HK.out _ ?_; repeat' first | with_reducible exact Below.refl _ _ | with_reducible exact HB1.out | with_reducible exact HB2.out | with_reducible exact HB3.out | with_reducible refine bl1 ?_ _ | with_reducible refine blD ?_))
  (first
    | (go_at_call 35
       refine(HR.out _).mono ?_
       rintro e w1 ⟨rfl,hb1⟩
       have HB1:Hid (Below W0.heap.size W0 w1):=blN (by repeat' first | with_reducible exact Below.refl _ _ | with_reducible exact HB2.out | with_reducible refine bl1 ?_ _ | with_reducible refine blD ?_) hb1
       clear hb1
       simp only)
    | (go_at_call 65
       refine(HL.out _).mono ?_
       rintro e w2 ⟨rfl,hb2⟩
       have HB2:Hid (Below W0.heap.size W0 w2):=blN (by repeat' first | with_reducible exact Below.refl _ _ | with_reducible exact HB1.out | with_reducible refine bl1 ?_ _ | with_reducible refine blD ?_) hb2
       clear hb2
       simp only))
 all_goals
  go_wp2
  go_ret
  first | exact⟨ret_i (by omega),blN HB0.out HB2.out⟩ | exact⟨ret_i (by omega),blN HB0.out HB1.out⟩
theorem gsize_any (w:World) (g:Sp.Geom):Calls Tryz.prog 11 #[gV g] w fun e w'=>e = .returned (.int .i64 g.size)∧Below w.heap.size w w':=by
 have hc:=fun W:World=>gmay_any W g
 by_cases hg:g.ok
 ·rw[Geom.size_ok hg]
  rw[decide_eq_true hg] at hc
  have hf:=fun W:World=>gfirst_any W hg (k:=g.groups) (by have:=hg.1; omega) hg.2.1
  obtain⟨x,hx⟩:=zx (g.first g.groups)
  rw[hx] at hf ⊢
  obtain⟨ga,gb,gc⟩:=g
  unfold gV at hc hf ⊢
  simp only at hf
  have HC:=zh hc
  have HF:=zh hf
  clear hg hc hf hx
  obtain⟨W0,hW0⟩:=zg w ga gb gc
  have hk:=g_keep hW0
  have HB0:=zh hk.1
  have HK:=zh hk.2
  clear hk
  go_enter Tryz.func11,Tryz.ntmps11
  obtain⟨z0,z1,z2⟩:=HK.out W0 (Below.refl _ _)
  go_wp2_with fail
  clear z0 z1 z2
  refine(HC.out _).mono ?_
  rintro e w1 ⟨rfl,hb⟩
  obtain⟨z0,z1,z2⟩:=HK.out w1 hb
  have HB1:=zh (blN HB0.out hb)
  clear hb
  go_wp2_with fail
  clear z0 z1 z2
  refine(HF.out _).mono ?_
  rintro e w2 ⟨rfl,hb2⟩
  have HB2:=zh (blN HB1.out hb2)
  clear hb2
  go_wp2
  go_ret
  exact⟨rfl,HB2.out⟩
 ·have hm:g.size=0:=if_neg hg
  rw[hm]
  rw[decide_eq_false hg] at hc
  obtain⟨ga,gb,gc⟩:=g
  unfold gV at hc ⊢
  have HC:=zh hc
  clear hg hc hm
  go_enter Tryz.func11,Tryz.ntmps11
  go_wp2_with fail
  refine(HC.out _).mono ?_
  rintro e w1 ⟨rfl,hb⟩
  have HB:=zh (blN (bl2 _) hb)
  clear hb
  go_wp2
  go_ret
  exact⟨rfl,HB.out⟩
theorem gwithin_any (w:World) (g:Sp.Geom) (n m:Int):Calls Tryz.prog 74 #[gV g,.int .i64 n,.int .i64 m] w fun e w'=>e = .returned (.int .i64 (g.within n m))∧Below w.heap.size w w':=by
 have hc:=fun W:World=>gmay_any W g
 by_cases hg:g.ok
 ·rw[decide_eq_true hg] at hc
  have hr:g.within n m=if n<0∨m≤n then 1 else 0:=if_pos hg
  rw[hr]
  obtain⟨ga,gb,gc⟩:=g
  unfold gV at hc ⊢
  have HC:=zh hc
  clear hg hc hr
  by_cases h1:n<0
  ·rw[if_pos (Or.inl h1)]
   go_enter Tryz.func74,Tryz.ntmps74
   go_wp2_with fail
   refine(HC.out _).mono ?_
   rintro e w1 ⟨rfl,hb⟩
   have HB:=zh (blN (bl2 _) hb)
   clear hb
   go_wp2
   go_ret
   exact⟨rfl,HB.out⟩
  by_cases h2:m≤n
  ·rw[if_pos (Or.inr h2)]
   go_enter Tryz.func74,Tryz.ntmps74
   go_wp2_with fail
   refine(HC.out _).mono ?_
   rintro e w1 ⟨rfl,hb⟩
   have HB:=zh (blN (bl2 _) hb)
   clear hb
   go_wp2
   go_ret
   exact⟨rfl,HB.out⟩
  ·rw[if_neg (by omega)]
   go_enter Tryz.func74,Tryz.ntmps74
   go_wp2_with fail
   refine(HC.out _).mono ?_
   rintro e w1 ⟨rfl,hb⟩
   have HB:=zh (blN (bl2 _) hb)
   clear hb
   go_wp2
   go_ret
   exact⟨rfl,HB.out⟩
 ·have hm:g.within n m=4:=if_neg hg
  rw[hm]
  rw[decide_eq_false hg] at hc
  obtain⟨ga,gb,gc⟩:=g
  unfold gV at hc ⊢
  have HC:=zh hc
  clear hg hc hm
  go_enter Tryz.func74,Tryz.ntmps74
  go_wp2_with fail
  refine(HC.out _).mono ?_
  rintro e w1 ⟨rfl,hb⟩
  have HB:=zh (blN (bl2 _) hb)
  clear hb
  go_wp2
  go_ret
  exact⟨rfl,HB.out⟩
end
theorem within_zero {g:Sp.Geom} {s:Int} (h:g.within s g.size=0):g.ok∧0≤s∧s<g.size:=by
 unfold Geom.within at h
 split at h
 ·rename_i hg
  split at h
  ·cases h
  ·exact⟨hg,by omega,by omega⟩
 ·cases h
theorem group_bd {g:Sp.Geom} (hg:g.ok) {s:Int} (h1:¬s<g.first 0) (h2:s<g.size):0≤(s-g.first 0) / g.long∧(s-g.first 0) / g.long<g.groups∧0≤(s-g.first 0) % g.long∧(s-g.first 0) % g.long<g.long:=by
 have hl:=Geom.long_bd hg
 have hlt:s-g.first 0<g.groups*g.long:=by
  rw[Geom.size_ok hg] at h2
  unfold Geom.first at h2 ⊢
  omega
 exact⟨Int.ediv_nonneg (by omega) (by omega),Int.ediv_lt_of_lt_mul (by omega) hlt,Int.emod_nonneg _ (by omega),Int.emod_lt_of_pos _ (by omega)⟩
theorem ret_t {a b c a' b' c':Int} (h:(a,b,c)=(a',b',c')):Ending.returned (.tuple #[.int .i64 a,.int .i64 b,.int .i64 c]) = .returned (.tuple #[.int .i64 a',.int .i64 b',.int .i64 c']):=by cases h; rfl
section
theorem gwhat_any (w:World) (g:Sp.Geom) (s:Int):Calls Tryz.prog 93 #[gV g,.int .i64 s] w fun e w'=>e = .returned (.tuple #[.int .i64 (g.what s).1,.int .i64 (g.what s).2.1,.int .i64 (g.what s).2.2])∧Below w.heap.size w w':=by
 have hz:=fun W:World=>gsize_any W g
 have hw:=fun W:World=>gwithin_any W g s g.size
 have hf:=fun(W:World) (hg:g.ok)=>gfirst_any W hg (k:=0) (by omega) (by omega)
 have hl:=fun(W:World) (hg:g.ok)=>glong_any W hg
 obtain⟨k,n,d,hx⟩:∃k n d,g.what s=(k,n,d):=⟨_,_,_,rfl⟩
 rw[hx]
 unfold Geom.what at hx
 have hwz:=within_zero (g:=g) (s:=s)
 have hgb:=fun(hg:g.ok) (h1:¬s<g.first 0) (h2:s<g.size)=>group_bd hg h1 h2
 have hfb:=fun(hg:g.ok)=>Geom.first_bd hg (k:=0) (by omega) (by omega)
 have hlb:=fun(hg:g.ok)=>Geom.long_bd hg
 have hsb:=fun(hg:g.ok)=>Geom.size_bd hg
 unfold Geom.kind at hx
 obtain⟨sz,hsz⟩:=zx (g.size)
 rw[hsz] at hz hw hwz hgb hsb hx
 obtain⟨c,hc⟩:=zx (g.within s sz)
 rw[hc] at hw hwz hx
 obtain⟨f0,hf0⟩:=zx (g.first 0)
 rw[hf0] at hf hgb hfb hx
 obtain⟨L,hL⟩:=zx (g.long)
 rw[hL] at hl hgb hlb hx
 obtain⟨ga,gb,gc⟩:=g
 unfold gV at hz hw hf hl ⊢
 simp only at hgb hx
 obtain⟨W0,hW0⟩:=zg w ga gb gc
 have hk:=g_keep hW0
 have HB0:=zh hk.1
 have HK:=zh hk.2
 have HZ:=zh hz
 have HW:=zh hw
 have HF:=zh hf
 have HL:=zh hl
 have HWZ:=zh hwz
 have HGB:=zh hgb
 have HFB:=zh hfb
 have HLB:=zh hlb
 have HSB:=zh hsb
 have HX:=zh hx
 clear hx hk hz hw hf hl hwz hgb hfb hlb hsb hsz hc hf0 hL
 go_enter Tryz.func93,Tryz.ntmps93
 go_wp2_with fail
 go_region_held3 (fun W=>W.cell? ⟨w.heap.size,0,none⟩=some (.int .i64 ga)∧W.cell? ⟨w.heap.size,1,none⟩=some (.int .i64 gb)∧W.cell? ⟨w.heap.size,2,none⟩=some (.int .i64 gc))
  ((refine HK.out _ ?_; repeat' first | with_reducible exact Below.refl _ _ | with_reducible exact HB1.out | with_reducible exact HB2.out | with_reducible refine blD ?_))
  (first
    | (go_at_call 11
       refine(HZ.out _).mono ?_
       rintro e w1 ⟨rfl,hb1⟩
       have HB1:Hid (Below W0.heap.size W0 w1):=blN (by repeat' first | with_reducible exact Below.refl _ _ | with_reducible refine blD ?_) hb1
       clear hb1
       simp only)
    | (go_at_call 74
       refine(HW.out _).mono ?_
       rintro e w2 ⟨rfl,hb2⟩
       have HB2:Hid (Below W0.heap.size W0 w2):=blN (by repeat' first | with_reducible exact HB1.out | with_reducible refine blD ?_) hb2
       clear hb2
       simp only))
 by_cases hc0:c=0
 rotate_left
 ·have f1:(c == 0)=false:=beq_eq_false_iff_ne.2 hc0
  have f2:(c != 0)=true:=by simp[hc0]
  have hx:=HX.out
  rw[if_neg hc0] at hx
  have HE:=zh hx
  clear hc0 hx
  go_wp2
  go_ret3
  exact⟨ret_t HE.out,blN HB0.out HB2.out⟩
 obtain⟨hg,hs0,hs1⟩:=HWZ.out hc0
 have hfb:=HFB.out hg
 have hlb:=HLB.out hg
 have hsb:=HSB.out hg
 have hg1:1≤gb∧gb≤32:=⟨hg.2.2.1,hg.2.2.2.1⟩
 have hg2:1≤gc∧gc≤64:=⟨hg.2.2.2.2.1,hg.2.2.2.2.2⟩
 have hg3:1≤ga∧ga≤4:=⟨hg.1,hg.2.1⟩
 have HF2:Hid (∀W:World,Calls Tryz.prog 30 #[.agg #[.int .i64 ga,.int .i64 gb,.int .i64 gc],.int .i64 0] W fun e w'=>e = .returned (.int .i64 f0)∧Below W.heap.size W w'):=fun W=>HF.out W hg
 have HL2:Hid (∀W:World,Calls Tryz.prog 65 #[.agg #[.int .i64 ga,.int .i64 gb,.int .i64 gc]] W fun e w'=>e = .returned (.int .i64 L)∧Below W.heap.size W w'):=fun W=>HL.out W hg
 have HGB2:=zh (HGB.out hg)
 have hx:=HX.out
 rw[if_pos hc0] at hx
 have HX2:=zh hx
 subst hc0
 clear hx HX hg HF HL HWZ HGB HFB HLB HSB
 obtain⟨z0,z1,z2⟩:=HK.out w2 HB2.out
 go_wp2_with fail
 clear z0 z1 z2
 refine(HF2.out _).mono ?_
 rintro e w3 ⟨rfl,hb3⟩
 have HB3:=zh (blN HB2.out hb3)
 clear hb3
 by_cases hlow:s<f0
 ·by_cases h0:s=0
  ·have hx:=HX2.out
   rw[if_pos hlow,if_pos (Or.inl h0)] at hx
   have HE:=zh hx
   have f1:(s == 0)=true:=beq_iff_eq.2 h0
   clear hx h0
   go_wp2
   go_ret3
   exact⟨ret_t HE.out,blN HB0.out HB3.out⟩
  by_cases h1:s=1
  ·have hx:=HX2.out
   rw[if_pos hlow,if_pos (Or.inr h1)] at hx
   have HE:=zh hx
   have f0':(s == 0)=false:=beq_eq_false_iff_ne.2 h0
   have f1:(s == 1)=true:=beq_iff_eq.2 h1
   clear hx h0 h1
   go_wp2
   go_ret3
   exact⟨ret_t HE.out,blN HB0.out HB3.out⟩
  ·have hx:=HX2.out
   rw[if_pos hlow,if_neg (by omega)] at hx
   have HE:=zh hx
   have f0':(s == 0)=false:=beq_eq_false_iff_ne.2 h0
   have f1:(s == 1)=false:=beq_eq_false_iff_ne.2 h1
   clear hx h0 h1
   go_wp2
   go_ret3
   exact⟨ret_t HE.out,blN HB0.out HB3.out⟩
 ·have hx:=HX2.out
  rw[if_neg hlow] at hx
  obtain⟨q0,q1,r0,r1⟩:=HGB2.out (by omega) hs1
  have e0:IntKind.i64.wrap (s-f0)=s-f0:=IntWalk.i64_in _ (by omega)
  have e1:(s-f0).tdiv L=(s-f0) / L:=Int.tdiv_eq_ediv_of_nonneg (by omega)
  have e2:(s-f0).tmod L=(s-f0) % L:=Int.tmod_eq_emod_of_nonneg (by omega)
  obtain⟨q,hq⟩:=zx ((s-f0) / L)
  obtain⟨r,hr⟩:=zx ((s-f0) % L)
  rw[hq] at q0 q1 e1 hx
  rw[hr] at r0 r1 e2 hx
  have HX3:=zh hx
  clear hx
  have e3:IntKind.i64.wrap q=q:=IntWalk.i64_in _ (by omega)
  have e4:IntKind.i64.wrap r=r:=IntWalk.i64_in _ (by omega)
  have hL0:¬L=0:=by omega
  have hLb:(L == 0)=false:=beq_eq_false_iff_ne.2 hL0
  have hL4:4≤L:=hlb.1
  have hL5:L≤98:=hlb.2
  have hsf:0≤s-f0:=by omega
  by_cases c3:2+gb≤r
  ·have hx:=HX3.out
   rw[if_pos c3] at hx
   obtain⟨x,hxx⟩:=zx (q*gc)
   have hx0:0≤x∧x≤192:=by
    rw[←hxx]
    have e:q=0∨q=1∨q=2∨q=3:=by omega
    rcases e with e | e | e | e <;> rw[e] <;> omega
   have e5:IntKind.i64.wrap (q*gc)=x:=by rw[hxx]; exact IntWalk.i64_in _ (by omega)
   rw[hxx] at hx
   have e6:IntKind.i64.wrap (x+r)=x+r:=IntWalk.i64_in _ (by omega)
   have e7:IntKind.i64.wrap (x+r-2)=x+r-2:=IntWalk.i64_in _ (by omega)
   have e8:IntKind.i64.wrap (x+r-2-gb)=x+r-2-gb:=IntWalk.i64_in _ (by omega)
   have HE:=zh hx
   clear hx hxx
   obtain⟨z0,z1,z2⟩:=HK.out w3 HB3.out
   go_wp2_with fail
   clear z0 z1 z2
   refine(HF2.out _).mono ?_
   rintro e w4 ⟨rfl,hb4⟩
   have HB4:=zh (blN HB3.out hb4)
   clear hb4
   go_wp2_with fail
   go_region_held3 (fun W=>W.cell? ⟨w.heap.size,0,none⟩=some (.int .i64 ga)∧W.cell? ⟨w.heap.size,1,none⟩=some (.int .i64 gb)∧W.cell? ⟨w.heap.size,2,none⟩=some (.int .i64 gc))
    ((refine HK.out _ ?_; repeat' first | with_reducible exact HB4.out | with_reducible exact HB5.out | with_reducible exact HB6.out | with_reducible refine blD ?_))
    (first
      | (with_reducible have hno:=HB5
         go_at_call 65
         refine(HL2.out _).mono ?_
         rintro e w6 ⟨rfl,hb6⟩
         have HB6:Hid (Below W0.heap.size W0 w6):=blN (by repeat' first | with_reducible exact HB5.out | with_reducible refine blD ?_) hb6
         clear hb6 hno
         simp only)
      | (go_at_call 65
         refine(HL2.out _).mono ?_
         rintro e w5 ⟨rfl,hb5⟩
         have HB5:Hid (Below W0.heap.size W0 w5):=blN (by repeat' first | with_reducible exact HB4.out | with_reducible refine blD ?_) hb5
         clear hb5
         simp only))
   all_goals
    obtain⟨z0,z1,z2⟩:=HK.out w6 HB6.out
    go_wp2
    go_quiet (fail)
    go_wp2
    go_ret3
    exact⟨ret_t HE.out,below_drewN (blN HB0.out HB6.out) _⟩
  by_cases c4:2≤r
  ·have hx:=HX3.out
   rw[if_neg c3,if_pos c4] at hx
   obtain⟨x,hxx⟩:=zx (q*gb)
   have hx0:0≤x∧x≤192:=by
    rw[←hxx]
    have e:q=0∨q=1∨q=2∨q=3:=by omega
    rcases e with e | e | e | e <;> rw[e] <;> omega
   have e5:IntKind.i64.wrap (q*gb)=x:=by rw[hxx]; exact IntWalk.i64_in _ (by omega)
   rw[hxx] at hx
   have e6:IntKind.i64.wrap (x+r)=x+r:=IntWalk.i64_in _ (by omega)
   have e7:IntKind.i64.wrap (x+r-2)=x+r-2:=IntWalk.i64_in _ (by omega)
   have e8:IntKind.i64.wrap (x+r-2+1)=x+r-2+1:=IntWalk.i64_in _ (by omega)
   have HE:=zh hx
   clear hx hxx
   obtain⟨z0,z1,z2⟩:=HK.out w3 HB3.out
   go_wp2_with fail
   clear z0 z1 z2
   refine(HF2.out _).mono ?_
   rintro e w4 ⟨rfl,hb4⟩
   have HB4:=zh (blN HB3.out hb4)
   clear hb4
   go_wp2_with fail
   go_region_held3 (fun W=>W.cell? ⟨w.heap.size,0,none⟩=some (.int .i64 ga)∧W.cell? ⟨w.heap.size,1,none⟩=some (.int .i64 gb)∧W.cell? ⟨w.heap.size,2,none⟩=some (.int .i64 gc))
    ((refine HK.out _ ?_; repeat' first | with_reducible exact HB4.out | with_reducible exact HB5.out | with_reducible exact HB6.out | with_reducible refine blD ?_))
    (first
      | (with_reducible have hno:=HB5
         go_at_call 65
         refine(HL2.out _).mono ?_
         rintro e w6 ⟨rfl,hb6⟩
         have HB6:Hid (Below W0.heap.size W0 w6):=blN (by repeat' first | with_reducible exact HB5.out | with_reducible refine blD ?_) hb6
         clear hb6 hno
         simp only)
      | (go_at_call 65
         refine(HL2.out _).mono ?_
         rintro e w5 ⟨rfl,hb5⟩
         have HB5:Hid (Below W0.heap.size W0 w5):=blN (by repeat' first | with_reducible exact HB4.out | with_reducible refine blD ?_) hb5
         clear hb5
         simp only))
   all_goals
    obtain⟨z0,z1,z2⟩:=HK.out w6 HB6.out
    go_wp2
    go_quiet (fail)
    go_wp2
    go_ret3
    exact⟨ret_t HE.out,below_drewN (blN HB0.out HB6.out) _⟩
  ·have hx:=HX3.out
   rw[if_neg c3,if_neg c4] at hx
   have HE:=zh hx
   clear hx
   obtain⟨z0,z1,z2⟩:=HK.out w3 HB3.out
   go_wp2_with fail
   clear z0 z1 z2
   refine(HF2.out _).mono ?_
   rintro e w4 ⟨rfl,hb4⟩
   have HB4:=zh (blN HB3.out hb4)
   clear hb4
   go_wp2_with fail
   go_region_held3 (fun W=>W.cell? ⟨w.heap.size,0,none⟩=some (.int .i64 ga)∧W.cell? ⟨w.heap.size,1,none⟩=some (.int .i64 gb)∧W.cell? ⟨w.heap.size,2,none⟩=some (.int .i64 gc))
    ((refine HK.out _ ?_; repeat' first | with_reducible exact HB4.out | with_reducible exact HB5.out | with_reducible exact HB6.out | with_reducible refine blD ?_))
    (first
      | (with_reducible have hno:=HB5
         go_at_call 65
         refine(HL2.out _).mono ?_
         rintro e w6 ⟨rfl,hb6⟩
         have HB6:Hid (Below W0.heap.size W0 w6):=blN (by repeat' first | with_reducible exact HB5.out | with_reducible refine blD ?_) hb6
         clear hb6 hno
         simp only)
      | (go_at_call 65
         refine(HL2.out _).mono ?_
         rintro e w5 ⟨rfl,hb5⟩
         have HB5:Hid (Below W0.heap.size W0 w5):=blN (by repeat' first | with_reducible exact HB4.out | with_reducible refine blD ?_) hb5
         clear hb5
         simp only))
   all_goals
    obtain⟨z0,z1,z2⟩:=HK.out w6 HB6.out
    go_wp2
    go_ret3
    exact⟨ret_t HE.out,blN HB0.out HB6.out⟩
end
