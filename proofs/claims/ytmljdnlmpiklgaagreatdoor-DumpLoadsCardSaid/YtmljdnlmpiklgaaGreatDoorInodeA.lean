import Derived.Test.YtmljdnlmpiklgaaGreatDoorMapsB
import Derived.Deep.RegionLawGrows
set_option maxRecDepth 20000
set_option maxHeartbeats 8000000
namespace Go.Proofs.YtmljdnlmpiklgaaGreatDoor
open Go Go.RowKit Txt Sp
def iN (k l z p ge d0 d1 d2 d3 d4 d5 d6 d7 m:Int):Sp.Inode:=⟨k,l,z,p,ge,[d0,d1,d2,d3,d4,d5,d6,d7],m⟩
theorem step_grows_guard {P:Program} {ops:Array Oper} {o:Oper} {a:Act} {w:World} {K:Act→World→Prop} {Q:Exit→Act→World→Prop} {E:Prop}
 (hw:Region.wanted o (yielded ops a.tmps)=true) (s x:Operand) (t:TypeId) (hop:o.op=Op.call { callee:=Callee.builtin Builtin.append,args:=#[s,x],argTypes:=#[t,t] })
 (e:TypeId) (i:TypeInfo) (z:Value) (size bytes:Nat) (h1:P.underlying t=some (.slice e)) (h2:P.info? e=some i) (h3:i.zero=some z) (h4:i.size=size) (h5:i.bytes=bytes) (h6:z.cells.size=size) (h7:0<size)
 (b:Addr) (n cap:Nat) (olds:List Value) (hs:a.eval s = .slice (some b) n cap) (hlo:olds.length=n*size) (holds:∀j u,olds[j]? = some u→w.cell? (b.add j)=some u)
 (ad:Addr) (m c:Nat) (news:List Value) (hx:a.eval x = .slice (some ad) m c) (hn:news.length=m*size) (hc:∀j u,news[j]? = some u→w.cell? (ad.add j)=some u)
 (hfull:cap<n+m) (b1:n+m≤maxLen) (b2:(n+m)*bytes≤140737488355328)
 (hK:∀v' w',w'.ownsRow w.heap.size e size v' (n+m) (olds ++ news)→w.grownBy w' none→K (a.put o.dst v') w') :
 if Region.wanted o (yielded ops a.tmps)=true then Oper.wp P o a w K Q else E:=by
 rw[if_pos hw]
 obtain⟨v',w',hrun,r1,r2⟩:=run_append_arg_grows (P:=P) w t o.type e i z size bytes h1 h2 h3 h4 h5 h6 h7 b n cap olds hlo holds ad m c news hn hc hfull b1 b2
 unfold Oper.wp
 simp[execOp,hop,resolve,invoke,builtin,hs,hx,hrun,Result.andThen]
 exact hK v' w' r1 r2
theorem ints_flat:∀l:List Int,(l.map fun n=>[Value.int .i64 n]).flatten=l.map (Value.int .i64)
 | []=>rfl
 | a :: r=>by rw[List.map_cons,List.flatten_cons,ints_flat r]; rfl
theorem ints_of_own {w:World} {base:Nat} {v:Value} {l:List Int} (h:w.ownsRow base 3 1 v l.length (l.map (Value.int .i64))):Ints w v l:=by
 refine RowAt.own (e:=3) (base:=base) (fun x hx=>?_) ?_
 ·obtain⟨n,_,rfl⟩:=List.mem_map.1 hx
  rfl
 ·rw[List.length_map,ints_flat]
  exact h
def sizesOk (l z ge:Int):Prop:=0≤ge∧ge≤65535∧0≤l∧l≤255∧0≤z∧z≤2560
section
theorem icheck_any (w:World) (g:Sp.Geom) (k l z p ge d0 d1 d2 d3 d4 d5 d6 d7 m:Int):Calls Tryz.prog 76 #[gV g,.agg (iA k l z p ge d0 d1 d2 d3 d4 d5 d6 d7 m)] w fun e w'=>e = .returned (.int .i64 ((iN k l z p ge d0 d1 d2 d3 d4 d5 d6 d7 m).check g))∧Below w.heap.size w w':=by
 have hc:=fun W:World=>gcheck_any W g
 have hmany:=fun W:World=>ginodes_any W g
 have hblk:=fun(W:World) (v:Value) (l:List Int) (hv:Ints W v l)=>iblocks_any W g v l hv
 obtain⟨c,hcc⟩:=zx ((iN k l z p ge d0 d1 d2 d3 d4 d5 d6 d7 m).check g)
 rw[hcc]
 unfold Inode.check at hcc
 unfold iA
 by_cases hg:g.ok
 rotate_left
 ·rw[if_neg hg] at hcc
  rw[Geom.check_no hg] at hc
  subst hcc
  obtain⟨ga,gb,gc⟩:=g
  unfold gV at hc ⊢
  have HC:=zh hc
  clear hc
  clear hg hmany hblk
  go_enter Tryz.func76,Tryz.ntmps76
  go_wp2_with fail
  refine(HC.out _).mono ?_
  rintro e w1 ⟨rfl,hb1⟩
  have HB1:=zh (blN (bl1 (bl2 _) _) hb1)
  clear hb1
  go_wp2
  go_ret
  exact⟨rfl,HB1.out⟩
 rw[if_pos hg] at hcc
 rw[Geom.check_ok hg] at hc
 obtain⟨q,hq⟩:=zx (g.many)
 have hq2:=Geom.prod hg
 have hqm:=Geom.many_ok hg
 rw[hq] at hmany hqm
 rw[←hqm] at hq2
 obtain⟨ga,gb,gc⟩:=g
 unfold gV at hc hmany hblk ⊢
 have HQ:=zh hq
 have HC:=zh hc
 have HMANY:=zh hmany
 have HBLK:=zh hblk
 have HCC:=zh hcc
 clear hc hmany hblk hcc
 clear hqm hq hg
 go_enter Tryz.func76,Tryz.ntmps76
 go_wp2_with fail
 refine(HC.out _).mono ?_
 rintro e w1 ⟨rfl,hb1⟩
 obtain⟨hbl,hz0,hz1⟩:=boxes2 hb1
 have HB1:=zh hbl
 have HZ0:=zh hz0
 have HZ1:=zh hz1
 have y0:=zc 0 hz1
 have y1:=zc 1 hz1
 have y2:=zc 2 hz1
 have y3:=zc 3 hz1
 have y4:=zc 4 hz1
 clear hb1 hbl hz0 hz1
 go_upto_region 4 with fail
 obtain⟨B,hB⟩:∃B:Bool,(B=true↔¬sizesOk l z ge):=⟨@decide (¬sizesOk l z ge) (Classical.propDecidable _),by simp⟩
 have HBt:Hid (¬sizesOk l z ge→B=true):=hB.2
 have HBf:Hid (sizesOk l z ge→B=false):=fun h=>by
  cases B
  ·rfl
  ·exact absurd h (hB.1 rfl)
 have HBi:=zh hB
 clear hB
 go_cut [6] (fun v wx=>v = .bool B∧w1=wx)
 case first=>
  --[
  by_cases h1:0≤ge
  rotate_left
  ·obtain rfl:B=true:=HBt.out (fun h=>h1 h.1)
   go_wp2
   go_meet
   case rel=>exact⟨rfl,rfl⟩
  by_cases h2:ge≤65535
  rotate_left
  ·obtain rfl:B=true:=HBt.out (fun h=>h2 h.2.1)
   go_wp2
   go_meet
   case rel=>exact⟨rfl,rfl⟩
  by_cases h3:0≤l
  rotate_left
  ·obtain rfl:B=true:=HBt.out (fun h=>h3 h.2.2.1)
   go_wp2
   go_meet
   case rel=>exact⟨rfl,rfl⟩
  by_cases h4:l≤255
  rotate_left
  ·obtain rfl:B=true:=HBt.out (fun h=>h4 h.2.2.2.1)
   go_wp2
   go_meet
   case rel=>exact⟨rfl,rfl⟩
  by_cases h5:0≤z
  rotate_left
  ·obtain rfl:B=true:=HBt.out (fun h=>h5 h.2.2.2.2.1)
   go_wp2
   go_meet
   case rel=>exact⟨rfl,rfl⟩
  by_cases h6:z≤2560
  rotate_left
  ·obtain rfl:B=true:=HBt.out (fun h=>h6 h.2.2.2.2.2)
   go_wp2
   go_meet
   case rel=>exact⟨rfl,rfl⟩
  obtain rfl:B=false:=HBf.out ⟨h1,h2,h3,h4,h5,h6⟩
  go_wp2
  go_meet
  case rel=>exact⟨congrArg Value.bool (by simp; omega),rfl⟩
  --]
 case rest=>
 obtain⟨rfl,rfl⟩:=hcut
 have H60:Hid ((¬(iN k l z p ge d0 d1 d2 d3 d4 d5 d6 d7 m).fits ⟨ga,gb,gc⟩)→c=60):=fun h=>by rw[←HCC.out,if_neg h]
 have H00:Hid ((iN k l z p ge d0 d1 d2 d3 d4 d5 d6 d7 m).fits ⟨ga,gb,gc⟩→c=0):=fun h=>by rw[←HCC.out,if_pos h]
 have HS:Hid ((iN k l z p ge d0 d1 d2 d3 d4 d5 d6 d7 m).fits ⟨ga,gb,gc⟩→B=false):=fun h=>HBf.out ⟨h.1,h.2.1,h.2.2.1,h.2.2.2.1,h.2.2.2.2.1,h.2.2.2.2.2.1⟩
 clear HCC
 by_cases hk0:k=0
 ·
  --[
  subst hk0
  have y5:=zc 5 HZ1.out
  have y6:=zc 6 HZ1.out
  have y7:=zc 7 HZ1.out
  have y8:=zc 8 HZ1.out
  have y9:=zc 9 HZ1.out
  have y10:=zc 10 HZ1.out
  have y11:=zc 11 HZ1.out
  have y12:=zc 12 HZ1.out
  have y13:=zc 13 HZ1.out
  have hne:=eq_inode l z p ge d0 d1 d2 d3 d4 d5 d6 d7 m
  unfold iA at hne
  obtain⟨E,hE⟩:=zx (decide (l=0∧z=0∧p=0∧(d0=0∧d1=0∧d2=0∧d3=0∧d4=0∧d5=0∧d6=0∧d7=0)∧m=0))
  rw[hE] at hne
  have HEq:Hid (E=true↔l=0∧z=0∧p=0∧(d0=0∧d1=0∧d2=0∧d3=0∧d4=0∧d5=0∧d6=0∧d7=0)∧m=0):=by
   show _↔_
   rw[←hE]
   exact decide_eq_true_iff
  clear hE
  cases B
  ·cases E
   ·obtain rfl:c=60:=H60.out (fun h=>by
     rcases h.2.2.2.2.2.2 with h | h | h
     ·obtain⟨_,h1,h2,h3,h4,h5⟩:=h
      have hd:∀b∈[d0,d1,d2,d3,d4,d5,d6,d7],b=0:=h4
      have:=HEq.out.2 ⟨h1,h2,h3,⟨hd d0 (by simp),hd d1 (by simp),hd d2 (by simp),hd d3 (by simp),hd d4 (by simp),hd d5 (by simp),hd d6 (by simp),hd d7 (by simp)⟩,h5⟩
      cases this
     ·exact absurd (show(0:Int)=1 from h.1) (by decide)
     ·exact absurd (show(0:Int)=2 from h.1) (by decide))
    go_wp2
    go_ret
    exact⟨rfl,HB1.out⟩
   ·obtain⟨h1,h2,h3,⟨a0,a1,a2,a3,a4,a5,a6,a7⟩,h5⟩:=HEq.out.1 rfl
    have hs:sizesOk l z ge:=Classical.byContradiction (fun h=>by cases HBt.out h)
    obtain rfl:c=0:=H00.out (by
     refine⟨hs.1,hs.2.1,hs.2.2.1,hs.2.2.2.1,hs.2.2.2.2.1,hs.2.2.2.2.2,Or.inl ⟨rfl,h1,h2,h3,?_,h5⟩⟩
     intro b hb
     simp only[iN,List.mem_cons,List.not_mem_nil,or_false] at hb
     omega)
    clear hs h1 h2 h3 a0 a1 a2 a3 a4 a5 a6 a7 h5
    go_wp2
    go_ret
    exact⟨rfl,HB1.out⟩
  ·obtain rfl:c=60:=H60.out (fun h=>by cases HS.out h)
   go_wp2
   go_ret
   exact⟨rfl,HB1.out⟩
  --]
 by_cases hk2:k=2
 ·subst hk2
  have f0:((2:Int) == 0)=false:=rfl
  clear hk0 y0 y1 y2 y3 y4
  have HZC:=HZ1
  have y0:=zc 0 HZC.out
  have y2:=zc 2 HZC.out
  have y3:=zc 3 HZC.out
  have y4:=zc 4 HZC.out
  have y5:=zc 5 HZC.out
  have y6:=zc 6 HZC.out
  have y7:=zc 7 HZC.out
  have y8:=zc 8 HZC.out
  have y9:=zc 9 HZC.out
  have y10:=zc 10 HZC.out
  have y11:=zc 11 HZC.out
  have y12:=zc 12 HZC.out
  have y13:=zc 13 HZC.out
  have v3:w1.frozen? ⟨w.heap.size+1,3,none⟩=false:=freeOf HZC.out
  cases B
  rotate_left
  ·obtain rfl:c=60:=H60.out (fun h=>by cases HS.out h)
   go_wp2_with fail
   go_quiet (fail)
   rename_i nq
   obtain⟨wq,hwq⟩:=zx (w1.drewN nq)
   have HBq:Hid (Below w1.heap.size w1 wq):=by rw[←hwq]; exact below_drewN (Below.refl _ _) nq
   rw[hwq]
   clear hwq
   clear y0 y2 y3 y4 y5 y6 y7 y8 y9 y10 y11 y12 y13 v3
   have HZC:=zh (setHeap_at (k:=3) (heapOld HBq.out HZ1.out) (.int .i64 0))
   change Hid ((wq.setCell ⟨w.heap.size+1,3,none⟩ (.int .i64 0)).heap[w.heap.size+1]? = some (.cells #[.int .i64 2,.int .i64 l,.int .i64 z,.int .i64 0,.int .i64 ge,.int .i64 d0,.int .i64 d1,.int .i64 d2,.int .i64 d3,.int .i64 d4,.int .i64 d5,.int .i64 d6,.int .i64 d7,.int .i64 m] 71 (0,0))) at HZC
   have HZ0:=zh ((setHeap_ne (k:=3) (.int .i64 0) (show w.heap.size≠w.heap.size+1 by omega)).trans (heapOld HBq.out HZ0.out))
   have HB1:Hid (Below w.heap.size w (wq.setCell ⟨w.heap.size+1,3,none⟩ (.int .i64 0))):=(blN HB1.out HBq.out).setCell (by simp) _
   have y3q:=zc 3 (heapOld HBq.out HZ1.out)
   have v3:wq.frozen? ⟨w.heap.size+1,3,none⟩=false:=freeOf (heapOld HBq.out HZ1.out)
   obtain⟨w1,hw1⟩:=zx (wq.setCell ⟨w.heap.size+1,3,none⟩ (.int .i64 0))
   rw[hw1] at HZC HZ0 HB1
   have y0:=zc 0 HZC.out
   have y3:=zc 3 HZC.out
   have y4:=zc 4 HZC.out
   have y5:=zc 5 HZC.out
   have y6:=zc 6 HZC.out
   have y7:=zc 7 HZC.out
   have y8:=zc 8 HZC.out
   have y9:=zc 9 HZC.out
   have y10:=zc 10 HZC.out
   have y11:=zc 11 HZC.out
   have y12:=zc 12 HZC.out
   have y13:=zc 13 HZC.out
   have hlt:w.heap.size+1<w1.heap.size:=(Array.getElem?_eq_some_iff.1 HZC.out).1
   go_wp2_with fail
   clear hw1
   go_quiet (fail)
   go_wp2
   go_ret
   exact⟨rfl,below_drewN (bl1 HB1.out _) _⟩
  have hs:sizesOk l z ge:=Classical.byContradiction (fun h=>by cases HBt.out h)
  have hz0:0≤z:=hs.2.2.2.2.1
  have hz1:z≤2560:=hs.2.2.2.2.2
  have et:z.tmod 64=z % 64:=Int.tmod_eq_emod_of_nonneg hz0
  have ew:IntKind.i64.wrap (z % 64)=z % 64:=IntWalk.i64_in _ (by omega)
  by_cases hz64:z % 64=0
  rotate_left
  ·obtain rfl:c=60:=H60.out (fun h=>by
    rcases h.2.2.2.2.2.2 with h | h | h
    ·exact absurd (show(2:Int)=0 from h.1) (by decide)
    ·exact absurd (show(2:Int)=1 from h.1) (by decide)
    ·exact hz64 h.2.1)
   have fz:(z % 64 == 0)=false:=beq_eq_false_iff_ne.2 hz64
   have fz2:(z % 64 != 0)=true:=by simp[hz64]
   clear hz64
   go_wp2_with fail
   go_quiet (fail)
   rename_i nq
   obtain⟨wq,hwq⟩:=zx (w1.drewN nq)
   have HBq:Hid (Below w1.heap.size w1 wq):=by rw[←hwq]; exact below_drewN (Below.refl _ _) nq
   rw[hwq]
   clear hwq
   clear y0 y2 y3 y4 y5 y6 y7 y8 y9 y10 y11 y12 y13 v3
   have HZC:=zh (setHeap_at (k:=3) (heapOld HBq.out HZ1.out) (.int .i64 0))
   change Hid ((wq.setCell ⟨w.heap.size+1,3,none⟩ (.int .i64 0)).heap[w.heap.size+1]? = some (.cells #[.int .i64 2,.int .i64 l,.int .i64 z,.int .i64 0,.int .i64 ge,.int .i64 d0,.int .i64 d1,.int .i64 d2,.int .i64 d3,.int .i64 d4,.int .i64 d5,.int .i64 d6,.int .i64 d7,.int .i64 m] 71 (0,0))) at HZC
   have HZ0:=zh ((setHeap_ne (k:=3) (.int .i64 0) (show w.heap.size≠w.heap.size+1 by omega)).trans (heapOld HBq.out HZ0.out))
   have HB1:Hid (Below w.heap.size w (wq.setCell ⟨w.heap.size+1,3,none⟩ (.int .i64 0))):=(blN HB1.out HBq.out).setCell (by simp) _
   have y3q:=zc 3 (heapOld HBq.out HZ1.out)
   have v3:wq.frozen? ⟨w.heap.size+1,3,none⟩=false:=freeOf (heapOld HBq.out HZ1.out)
   obtain⟨w1,hw1⟩:=zx (wq.setCell ⟨w.heap.size+1,3,none⟩ (.int .i64 0))
   rw[hw1] at HZC HZ0 HB1
   have y0:=zc 0 HZC.out
   have y3:=zc 3 HZC.out
   have y4:=zc 4 HZC.out
   have y5:=zc 5 HZC.out
   have y6:=zc 6 HZC.out
   have y7:=zc 7 HZC.out
   have y8:=zc 8 HZC.out
   have y9:=zc 9 HZC.out
   have y10:=zc 10 HZC.out
   have y11:=zc 11 HZC.out
   have y12:=zc 12 HZC.out
   have y13:=zc 13 HZC.out
   have hlt:w.heap.size+1<w1.heap.size:=(Array.getElem?_eq_some_iff.1 HZC.out).1
   go_wp2_with fail
   clear hw1
   go_quiet (fail)
   go_wp2
   go_ret
   exact⟨rfl,below_drewN (bl1 HB1.out _) _⟩
  have fz:(z % 64 == 0)=true:=beq_iff_eq.2 hz64
  have fz2:(z % 64 != 0)=false:=by simp[hz64]
  by_cases hp1:1≤p
  rotate_left
  ·obtain rfl:c=60:=H60.out (fun h=>by
    rcases h.2.2.2.2.2.2 with h | h | h
    ·exact absurd (show(2:Int)=0 from h.1) (by decide)
    ·exact absurd (show(2:Int)=1 from h.1) (by decide)
    ·exact hp1 h.2.2.1)
   have fp:p<1:=by omega
   clear hz64 hp1
   go_wp2_with fail
   go_quiet (fail)
   rename_i nq
   obtain⟨wq,hwq⟩:=zx (w1.drewN nq)
   have HBq:Hid (Below w1.heap.size w1 wq):=by rw[←hwq]; exact below_drewN (Below.refl _ _) nq
   rw[hwq]
   clear hwq
   clear y0 y2 y3 y4 y5 y6 y7 y8 y9 y10 y11 y12 y13 v3
   have HZC:=zh (setHeap_at (k:=3) (heapOld HBq.out HZ1.out) (.int .i64 0))
   change Hid ((wq.setCell ⟨w.heap.size+1,3,none⟩ (.int .i64 0)).heap[w.heap.size+1]? = some (.cells #[.int .i64 2,.int .i64 l,.int .i64 z,.int .i64 0,.int .i64 ge,.int .i64 d0,.int .i64 d1,.int .i64 d2,.int .i64 d3,.int .i64 d4,.int .i64 d5,.int .i64 d6,.int .i64 d7,.int .i64 m] 71 (0,0))) at HZC
   have HZ0:=zh ((setHeap_ne (k:=3) (.int .i64 0) (show w.heap.size≠w.heap.size+1 by omega)).trans (heapOld HBq.out HZ0.out))
   have HB1:Hid (Below w.heap.size w (wq.setCell ⟨w.heap.size+1,3,none⟩ (.int .i64 0))):=(blN HB1.out HBq.out).setCell (by simp) _
   have y3q:=zc 3 (heapOld HBq.out HZ1.out)
   have v3:wq.frozen? ⟨w.heap.size+1,3,none⟩=false:=freeOf (heapOld HBq.out HZ1.out)
   obtain⟨w1,hw1⟩:=zx (wq.setCell ⟨w.heap.size+1,3,none⟩ (.int .i64 0))
   rw[hw1] at HZC HZ0 HB1
   have y0:=zc 0 HZC.out
   have y3:=zc 3 HZC.out
   have y4:=zc 4 HZC.out
   have y5:=zc 5 HZC.out
   have y6:=zc 6 HZC.out
   have y7:=zc 7 HZC.out
   have y8:=zc 8 HZC.out
   have y9:=zc 9 HZC.out
   have y10:=zc 10 HZC.out
   have y11:=zc 11 HZC.out
   have y12:=zc 12 HZC.out
   have y13:=zc 13 HZC.out
   have hlt:w.heap.size+1<w1.heap.size:=(Array.getElem?_eq_some_iff.1 HZC.out).1
   go_wp2_with fail
   clear hw1
   go_quiet (fail)
   go_wp2
   go_ret
   exact⟨rfl,below_drewN (bl1 HB1.out _) _⟩
  have fp:¬p<1:=by omega
  have HQG:Hid (∀W,Below w1.heap.size w1 W→W.cell? ⟨w.heap.size,0,none⟩=some (.int .i64 ga)∧W.cell? ⟨w.heap.size,1,none⟩=some (.int .i64 gb)∧W.cell? ⟨w.heap.size,2,none⟩=some (.int .i64 gc)∧W.cell? ⟨w.heap.size+1,3,none⟩=some (.int .i64 p)∧W.cell? ⟨w.heap.size+1,2,none⟩=some (.int .i64 z)):=fun W hW=>⟨cellOf (heapOld hW HZ0.out) rfl,cellOf (heapOld hW HZ0.out) rfl,cellOf (heapOld hW HZ0.out) rfl,cellOf (heapOld hW HZ1.out) rfl,cellOf (heapOld hW HZ1.out) rfl⟩
  have fpd:decide (p<1)=false:=decide_eq_false fp
  by_cases hpq:p≤q
  rotate_left
  ·obtain rfl:c=60:=H60.out (fun h=>by
    rcases h.2.2.2.2.2.2 with h | h | h
    ·exact absurd (show(2:Int)=0 from h.1) (by decide)
    ·exact absurd (show(2:Int)=1 from h.1) (by decide)
    ·exact hpq (by rw[←HQ.out]; exact h.2.2.2.1))
   have fq:q<p:=by omega
   have fqd:decide (q<p)=true:=decide_eq_true fq
   clear hz64 hp1 hpq
   go_wp2_with fail
   go_region_held3 (fun W=>W.cell? ⟨w.heap.size,0,none⟩=some (.int .i64 ga)∧W.cell? ⟨w.heap.size,1,none⟩=some (.int .i64 gb)∧W.cell? ⟨w.heap.size,2,none⟩=some (.int .i64 gc)∧W.cell? ⟨w.heap.size+1,3,none⟩=some (.int .i64 p)∧W.cell? ⟨w.heap.size+1,2,none⟩=some (.int .i64 z))
    ((refine HQG.out _ ?_; repeat' first | with_reducible exact Below.refl _ _ | with_reducible exact HBq.out | with_reducible refine blD ?_))
    (first
      | (go_at_call 73
         refine(HMANY.out _).mono ?_
         rintro e wq ⟨rfl,hbq⟩
         have HBq:Hid (Below w1.heap.size w1 wq):=blN (by repeat' first | with_reducible exact Below.refl _ _ | with_reducible refine blD ?_) hbq
         clear hbq
         simp only))
   all_goals
    clear y0 y2 y3 y4 y5 y6 y7 y8 y9 y10 y11 y12 y13 v3
    have HZC:=zh (setHeap_at (k:=3) (heapOld HBq.out HZ1.out) (.int .i64 0))
    change Hid ((wq.setCell ⟨w.heap.size+1,3,none⟩ (.int .i64 0)).heap[w.heap.size+1]? = some (.cells #[.int .i64 2,.int .i64 l,.int .i64 z,.int .i64 0,.int .i64 ge,.int .i64 d0,.int .i64 d1,.int .i64 d2,.int .i64 d3,.int .i64 d4,.int .i64 d5,.int .i64 d6,.int .i64 d7,.int .i64 m] 71 (0,0))) at HZC
    have HZ0:=zh ((setHeap_ne (k:=3) (.int .i64 0) (show w.heap.size≠w.heap.size+1 by omega)).trans (heapOld HBq.out HZ0.out))
    have HB1:Hid (Below w.heap.size w (wq.setCell ⟨w.heap.size+1,3,none⟩ (.int .i64 0))):=(blN HB1.out HBq.out).setCell (by simp) _
    have y3q:=zc 3 (heapOld HBq.out HZ1.out)
    have v3:wq.frozen? ⟨w.heap.size+1,3,none⟩=false:=freeOf (heapOld HBq.out HZ1.out)
    obtain⟨w1,hw1⟩:=zx (wq.setCell ⟨w.heap.size+1,3,none⟩ (.int .i64 0))
    rw[hw1] at HZC HZ0 HB1
    have y0:=zc 0 HZC.out
    have y3:=zc 3 HZC.out
    have y4:=zc 4 HZC.out
    have y5:=zc 5 HZC.out
    have y6:=zc 6 HZC.out
    have y7:=zc 7 HZC.out
    have y8:=zc 8 HZC.out
    have y9:=zc 9 HZC.out
    have y10:=zc 10 HZC.out
    have y11:=zc 11 HZC.out
    have y12:=zc 12 HZC.out
    have y13:=zc 13 HZC.out
    have hlt:w.heap.size+1<w1.heap.size:=(Array.getElem?_eq_some_iff.1 HZC.out).1
    go_wp2_with fail
    clear hw1
    go_quiet (fail)
    go_wp2
    go_ret
    exact⟨rfl,below_drewN (bl1 HB1.out _) _⟩
  have HT60:Hid (¬((∀b∈[d0,d1,d2,d3,d4,d5,d6,d7],blockOk ⟨ga,gb,gc⟩ b)∧blockOk ⟨ga,gb,gc⟩ m)→c=60):=fun hn=>H60.out (fun h=>by
   rcases h.2.2.2.2.2.2 with h | h | h
   ·exact absurd (show(2:Int)=0 from h.1) (by decide)
   ·exact absurd (show(2:Int)=1 from h.1) (by decide)
   ·exact hn h.2.2.2.2)
  have HT00:Hid (((∀b∈[d0,d1,d2,d3,d4,d5,d6,d7],blockOk ⟨ga,gb,gc⟩ b)∧blockOk ⟨ga,gb,gc⟩ m)→c=0):=fun hy=>
   H00.out ⟨hs.1,hs.2.1,hs.2.2.1,hs.2.2.2.1,hs.2.2.2.2.1,hs.2.2.2.2.2,Or.inr (Or.inr ⟨rfl,hz64,hp1,by rw[HQ.out]; exact hpq,hy⟩)⟩
  have fq:¬q<p:=by omega
  have fqd:decide (q<p)=false:=decide_eq_false fq
  clear hz64 hp1 hpq hs
  go_wp2_with fail
  go_region_held3 (fun W=>W.cell? ⟨w.heap.size,0,none⟩=some (.int .i64 ga)∧W.cell? ⟨w.heap.size,1,none⟩=some (.int .i64 gb)∧W.cell? ⟨w.heap.size,2,none⟩=some (.int .i64 gc)∧W.cell? ⟨w.heap.size+1,3,none⟩=some (.int .i64 p)∧W.cell? ⟨w.heap.size+1,2,none⟩=some (.int .i64 z))
   ((refine HQG.out _ ?_; repeat' first | with_reducible exact Below.refl _ _ | with_reducible exact HBq.out | with_reducible refine blD ?_))
   (first
     | (go_at_call 73
        refine(HMANY.out _).mono ?_
        rintro e wq ⟨rfl,hbq⟩
        have HBq:Hid (Below w1.heap.size w1 wq):=blN (by repeat' first | with_reducible exact Below.refl _ _ | with_reducible refine blD ?_) hbq
        clear hbq
        simp only))
  all_goals
   clear y0 y2 y3 y4 y5 y6 y7 y8 y9 y10 y11 y12 y13 v3
   have HZC:=zh (setHeap_at (k:=3) (heapOld HBq.out HZ1.out) (.int .i64 0))
   change Hid ((wq.setCell ⟨w.heap.size+1,3,none⟩ (.int .i64 0)).heap[w.heap.size+1]? = some (.cells #[.int .i64 2,.int .i64 l,.int .i64 z,.int .i64 0,.int .i64 ge,.int .i64 d0,.int .i64 d1,.int .i64 d2,.int .i64 d3,.int .i64 d4,.int .i64 d5,.int .i64 d6,.int .i64 d7,.int .i64 m] 71 (0,0))) at HZC
   have HZ0:=zh ((setHeap_ne (k:=3) (.int .i64 0) (show w.heap.size≠w.heap.size+1 by omega)).trans (heapOld HBq.out HZ0.out))
   have HB1:Hid (Below w.heap.size w (wq.setCell ⟨w.heap.size+1,3,none⟩ (.int .i64 0))):=(blN HB1.out HBq.out).setCell (by simp) _
   have y3q:=zc 3 (heapOld HBq.out HZ1.out)
   have v3:wq.frozen? ⟨w.heap.size+1,3,none⟩=false:=freeOf (heapOld HBq.out HZ1.out)
   obtain⟨w1,hw1⟩:=zx (wq.setCell ⟨w.heap.size+1,3,none⟩ (.int .i64 0))
   rw[hw1] at HZC HZ0 HB1
   have y0:=zc 0 HZC.out
   have y3:=zc 3 HZC.out
   have y4:=zc 4 HZC.out
   have y5:=zc 5 HZC.out
   have y6:=zc 6 HZC.out
   have y7:=zc 7 HZC.out
   have y8:=zc 8 HZC.out
   have y9:=zc 9 HZC.out
   have y10:=zc 10 HZC.out
   have y11:=zc 11 HZC.out
   have y12:=zc 12 HZC.out
   have y13:=zc 13 HZC.out
   have hlt:w.heap.size+1<w1.heap.size:=(Array.getElem?_eq_some_iff.1 HZC.out).1
   obtain⟨i0,hi,hiz0,hiz1,hiz2⟩:=info_parts infoInt
   obtain⟨W2,hW2⟩:=zx (w1.alloc (.cells #[.int .i64 d0,.int .i64 d1,.int .i64 d2,.int .i64 d3,.int .i64 d4,.int .i64 d5,.int .i64 d6,.int .i64 d7] 69))
   have HB2:Hid (Below w.heap.size w W2):=by rw[←hW2]; exact bl1 HB1.out _
   have HB2b:Hid (Below w1.heap.size w1 W2):=by rw[←hW2]; exact bl2 _
   have hz2:W2.heap[w1.heap.size]? = some (.cells #[.int .i64 d0,.int .i64 d1,.int .i64 d2,.int .i64 d3,.int .i64 d4,.int .i64 d5,.int .i64 d6,.int .i64 d7] 69 (0,0)):=by rw[←hW2]; exact heapNew w1 _
   have HZ2:=zh hz2
   have HBL:∃R:Bool,(R=true↔((∀b∈[d0,d1,d2,d3,d4,d5,d6,d7],blockOk ⟨ga,gb,gc⟩ b)∧blockOk ⟨ga,gb,gc⟩ m))∧∀(W:World) (v:Value),Ints W v [d0,d1,d2,d3,d4,d5,d6,d7,m]→Calls Tryz.prog 124 #[.agg #[.int .i64 ga,.int .i64 gb,.int .i64 gc],v] W fun e w'=>e = .returned (.bool R)∧Below W.heap.size W w':=by
    refine⟨_,?_,fun W v hv=>HBLK.out W v _ hv⟩
    rw[decide_eq_true_iff]
    simp only[List.mem_cons,List.not_mem_nil,or_false,forall_eq_or_imp,forall_eq]
    constructor
    ·rintro⟨a,b,c,d,e,f,g,h,i⟩; exact⟨⟨a,b,c,d,e,f,g,h⟩,i⟩
    ·rintro⟨⟨a,b,c,d,e,f,g,h⟩,i⟩; exact⟨a,b,c,d,e,f,g,h,i⟩
   obtain⟨R,hR,hbl⟩:=HBL
   have HRI:=zh hR
   have HBLs:=zh hbl
   clear hR hbl hz2
   have hZ2:Hid (∀W,Below W2.heap.size W2 W→W.cell? ⟨w.heap.size,0,none⟩=some (.int .i64 ga)∧W.cell? ⟨w.heap.size,1,none⟩=some (.int .i64 gb)∧W.cell? ⟨w.heap.size,2,none⟩=some (.int .i64 gc)∧W.cell? ⟨w.heap.size+1,3,none⟩=some (.int .i64 0)∧W.cell? ⟨w.heap.size+1,13,none⟩=some (.int .i64 m)):=fun W hW=>by
    have a0:=heapOld hW (heapOld HB2b.out HZ0.out)
    have a1:=heapOld hW (heapOld HB2b.out HZC.out)
    exact⟨cellOf a0 rfl,cellOf a0 rfl,cellOf a0 rfl,cellOf a1 rfl,cellOf a1 rfl⟩
   go_wp2_with fail
   clear y0 y3 y4 y5 y6 y7 y8 y9 y10 y11 y12 y13 hlt
   obtain⟨q0,q1,q2,q3,q4⟩:=hZ2.out W2 (Below.refl _ _)
   have p0:=fun o=>(hZ2.out (W2.alloc o) (bl2 o)).1
   have p1:=fun o=>(hZ2.out (W2.alloc o) (bl2 o)).2.1
   have p2:=fun o=>(hZ2.out (W2.alloc o) (bl2 o)).2.2.1
   go_region_law (first
    | (refine step_grows_guard ?a1 (.tmp 87) (.tmp 90) 79 ?a2 3 i0 (.int .i64 0) 1 8 Tryz.underlying79 hi hiz0 hiz1 hiz2 ?a3 ?a4 ⟨w1.heap.size,0,none⟩ 8 8 [.int .i64 d0,.int .i64 d1,.int .i64 d2,.int .i64 d3,.int .i64 d4,.int .i64 d5,.int .i64 d6,.int .i64 d7] ?a5 ?a6 ?a7 ⟨W2.heap.size,0,none⟩ 1 1 [.int .i64 m] ?a8 ?a9 ?a10 ?a11 ?a12 ?a13 ?_
       case a1=>simp[Region.wanted,yielded]
       case a2=>rfl
       case a3=>rfl
       case a4=>decide
       case a5=>rfl
       case a6=>rfl
       case a7=>exact World.news_of_block (cs:=#[.int .i64 d0,.int .i64 d1,.int .i64 d2,.int .i64 d3,.int .i64 d4,.int .i64 d5,.int .i64 d6,.int .i64 d7]) (t:=69) (fr:=(0,0)) (heapOld (bl2 _) HZ2.out)
       case a8=>rfl
       case a9=>rfl
       case a10=>exact World.news_of_block (cs:=#[.int .i64 m]) (t:=3) (fr:=(0,0)) (heapNew W2 _)
       case a11=>omega
       case a12=>unfold maxLen; omega
       case a13=>omega
       intro v' w4 hown4 hgrow4
       have HB4:Hid (Below w.heap.size w w4):=Below.grown (blD (bl1 HB2.out _)) hgrow4 (bl1 HB2.out _).size (fun q hq=>by cases hq)
       have HI4:Hid (Ints w4 v' [d0,d1,d2,d3,d4,d5,d6,d7,m]):=ints_of_own hown4
       have hb4b:Below W2.heap.size W2 w4:=Below.grown (blD (bl2 _)) hgrow4 (bl2 (w:=W2) (.cells #[.int .i64 m] 3)).size (fun q hq=>by cases hq)
       have r0:=(hZ2.out w4 hb4b).1
       have r1:=(hZ2.out w4 hb4b).2.1
       have r2:=(hZ2.out w4 hb4b).2.2.1
       clear hown4 hgrow4 hb4b)
    | (go_simp
       go_at_call 124
       refine(HBLs.out _ _ HI4.out).mono ?_
       rintro e w6 ⟨rfl,hb6⟩
       have HB6:=zh (blN HB4.out hb6)
       clear hb6))
   all_goals
    clear q0 q1 q2 q3 q4 p0 p1 p2 r0 r1 r2
    cases R
    ·obtain rfl:c=60:=HT60.out (fun h=>absurd (HRI.out.2 h) (by decide))
     go_wp2
     go_ret
     exact⟨rfl,HB6.out⟩
    ·obtain rfl:c=0:=HT00.out (HRI.out.1 rfl)
     go_wp2
     go_ret
     exact⟨rfl,HB6.out⟩
 have f0:(k == 0)=false:=beq_eq_false_iff_ne.2 hk0
 have f2:(k == 2)=false:=beq_eq_false_iff_ne.2 hk2
 by_cases hk1:k=1
 rotate_left
 ·have f1:(k == 1)=false:=beq_eq_false_iff_ne.2 hk1
  obtain rfl:c=60:=H60.out (fun h=>by
   rcases h.2.2.2.2.2.2 with h | h | h
   ·exact hk0 h.1
   ·exact hk1 h.1
   ·exact hk2 h.1)
  clear hk0 hk1 hk2
  go_wp2
  go_ret
  exact⟨rfl,HB1.out⟩
 ·subst hk1
  clear hk0 hk2 f0 f2
  have HZC:=HZ1
  clear y0 y1 y2 y3 y4
  have y0:=zc 0 HZC.out
  have y3:=zc 3 HZC.out
  have y4:=zc 4 HZC.out
  have y5:=zc 5 HZC.out
  have y6:=zc 6 HZC.out
  have y7:=zc 7 HZC.out
  have y8:=zc 8 HZC.out
  have y9:=zc 9 HZC.out
  have y10:=zc 10 HZC.out
  have y11:=zc 11 HZC.out
  have y12:=zc 12 HZC.out
  have y13:=zc 13 HZC.out
  have hlt:w.heap.size+1<w1.heap.size:=(Array.getElem?_eq_some_iff.1 HZC.out).1
  cases B
  rotate_left
  ·obtain rfl:c=60:=H60.out (fun h=>by cases HS.out h)
   go_wp2_with fail
   go_quiet (fail)
   go_wp2
   go_ret
   exact⟨rfl,below_drewN (bl1 HB1.out _) _⟩
  by_cases hp0:p=0
  rotate_left
  ·have f3:(p == 0)=false:=beq_eq_false_iff_ne.2 hp0
   have f4:(p != 0)=true:=by simp[hp0]
   obtain rfl:c=60:=H60.out (fun h=>by
    rcases h.2.2.2.2.2.2 with h | h | h
    ·exact absurd (show(1:Int)=0 from h.1) (by decide)
    ·exact hp0 h.2.1
    ·exact absurd (show(1:Int)=2 from h.1) (by decide))
   clear hp0
   go_wp2_with fail
   go_quiet (fail)
   go_wp2
   go_ret
   exact⟨rfl,below_drewN (bl1 HB1.out _) _⟩
  subst hp0
  have HT60:Hid (¬((∀b∈[d0,d1,d2,d3,d4,d5,d6,d7],blockOk ⟨ga,gb,gc⟩ b)∧blockOk ⟨ga,gb,gc⟩ m)→c=60):=fun hn=>H60.out (fun h=>by
   rcases h.2.2.2.2.2.2 with h | h | h
   ·exact absurd (show(1:Int)=0 from h.1) (by decide)
   ·exact hn h.2.2
   ·exact absurd (show(1:Int)=2 from h.1) (by decide))
  have HT00:Hid (((∀b∈[d0,d1,d2,d3,d4,d5,d6,d7],blockOk ⟨ga,gb,gc⟩ b)∧blockOk ⟨ga,gb,gc⟩ m)→c=0):=fun hy=>by
   have hs:sizesOk l z ge:=Classical.byContradiction (fun h=>by cases HBt.out h)
   exact H00.out ⟨hs.1,hs.2.1,hs.2.2.1,hs.2.2.2.1,hs.2.2.2.2.1,hs.2.2.2.2.2,Or.inr (Or.inl ⟨rfl,rfl,hy⟩)⟩
  obtain⟨i0,hi,hiz0,hiz1,hiz2⟩:=info_parts infoInt
  obtain⟨W2,hW2⟩:=zx (w1.alloc (.cells #[.int .i64 d0,.int .i64 d1,.int .i64 d2,.int .i64 d3,.int .i64 d4,.int .i64 d5,.int .i64 d6,.int .i64 d7] 69))
  have HB2:Hid (Below w.heap.size w W2):=by rw[←hW2]; exact bl1 HB1.out _
  have HB2b:Hid (Below w1.heap.size w1 W2):=by rw[←hW2]; exact bl2 _
  have hz2:W2.heap[w1.heap.size]? = some (.cells #[.int .i64 d0,.int .i64 d1,.int .i64 d2,.int .i64 d3,.int .i64 d4,.int .i64 d5,.int .i64 d6,.int .i64 d7] 69 (0,0)):=by rw[←hW2]; exact heapNew w1 _
  have HZ2:=zh hz2
  have HBL:∃R:Bool,(R=true↔((∀b∈[d0,d1,d2,d3,d4,d5,d6,d7],blockOk ⟨ga,gb,gc⟩ b)∧blockOk ⟨ga,gb,gc⟩ m))∧∀(W:World) (v:Value),Ints W v [d0,d1,d2,d3,d4,d5,d6,d7,m]→Calls Tryz.prog 124 #[.agg #[.int .i64 ga,.int .i64 gb,.int .i64 gc],v] W fun e w'=>e = .returned (.bool R)∧Below W.heap.size W w':=by
   refine⟨_,?_,fun W v hv=>HBLK.out W v _ hv⟩
   rw[decide_eq_true_iff]
   simp only[List.mem_cons,List.not_mem_nil,or_false,forall_eq_or_imp,forall_eq]
   constructor
   ·rintro⟨a,b,c,d,e,f,g,h,i⟩; exact⟨⟨a,b,c,d,e,f,g,h⟩,i⟩
   ·rintro⟨⟨a,b,c,d,e,f,g,h⟩,i⟩; exact⟨a,b,c,d,e,f,g,h,i⟩
  obtain⟨R,hR,hbl⟩:=HBL
  have HRI:=zh hR
  have HBLs:=zh hbl
  clear hR hbl hz2
  have hZ2:Hid (∀W,Below W2.heap.size W2 W→W.cell? ⟨w.heap.size,0,none⟩=some (.int .i64 ga)∧W.cell? ⟨w.heap.size,1,none⟩=some (.int .i64 gb)∧W.cell? ⟨w.heap.size,2,none⟩=some (.int .i64 gc)∧W.cell? ⟨w.heap.size+1,3,none⟩=some (.int .i64 0)∧W.cell? ⟨w.heap.size+1,13,none⟩=some (.int .i64 m)):=fun W hW=>by
   have a0:=heapOld hW (heapOld HB2b.out HZ0.out)
   have a1:=heapOld hW (heapOld HB2b.out HZC.out)
   exact⟨cellOf a0 rfl,cellOf a0 rfl,cellOf a0 rfl,cellOf a1 rfl,cellOf a1 rfl⟩
  go_wp2_with fail
  clear y0 y3 y4 y5 y6 y7 y8 y9 y10 y11 y12 y13 hlt
  obtain⟨q0,q1,q2,q3,q4⟩:=hZ2.out W2 (Below.refl _ _)
  have p0:=fun o=>(hZ2.out (W2.alloc o) (bl2 o)).1
  have p1:=fun o=>(hZ2.out (W2.alloc o) (bl2 o)).2.1
  have p2:=fun o=>(hZ2.out (W2.alloc o) (bl2 o)).2.2.1
  go_region_law (first
   | (refine step_grows_guard ?a1 (.tmp 87) (.tmp 90) 79 ?a2 3 i0 (.int .i64 0) 1 8 Tryz.underlying79 hi hiz0 hiz1 hiz2 ?a3 ?a4 ⟨w1.heap.size,0,none⟩ 8 8 [.int .i64 d0,.int .i64 d1,.int .i64 d2,.int .i64 d3,.int .i64 d4,.int .i64 d5,.int .i64 d6,.int .i64 d7] ?a5 ?a6 ?a7 ⟨W2.heap.size,0,none⟩ 1 1 [.int .i64 m] ?a8 ?a9 ?a10 ?a11 ?a12 ?a13 ?_
      case a1=>simp[Region.wanted,yielded]
      case a2=>rfl
      case a3=>rfl
      case a4=>decide
      case a5=>rfl
      case a6=>rfl
      case a7=>exact World.news_of_block (cs:=#[.int .i64 d0,.int .i64 d1,.int .i64 d2,.int .i64 d3,.int .i64 d4,.int .i64 d5,.int .i64 d6,.int .i64 d7]) (t:=69) (fr:=(0,0)) (heapOld (bl2 _) HZ2.out)
      case a8=>rfl
      case a9=>rfl
      case a10=>exact World.news_of_block (cs:=#[.int .i64 m]) (t:=3) (fr:=(0,0)) (heapNew W2 _)
      case a11=>omega
      case a12=>unfold maxLen; omega
      case a13=>omega
      intro v' w4 hown4 hgrow4
      have HB4:Hid (Below w.heap.size w w4):=Below.grown (blD (bl1 HB2.out _)) hgrow4 (bl1 HB2.out _).size (fun q hq=>by cases hq)
      have HI4:Hid (Ints w4 v' [d0,d1,d2,d3,d4,d5,d6,d7,m]):=ints_of_own hown4
      have hb4b:Below W2.heap.size W2 w4:=Below.grown (blD (bl2 _)) hgrow4 (bl2 (w:=W2) (.cells #[.int .i64 m] 3)).size (fun q hq=>by cases hq)
      have r0:=(hZ2.out w4 hb4b).1
      have r1:=(hZ2.out w4 hb4b).2.1
      have r2:=(hZ2.out w4 hb4b).2.2.1
      clear hown4 hgrow4 hb4b)
   | (go_simp
      go_at_call 124
      refine(HBLs.out _ _ HI4.out).mono ?_
      rintro e w6 ⟨rfl,hb6⟩
      have HB6:=zh (blN HB4.out hb6)
      clear hb6))
  all_goals
   clear q0 q1 q2 q3 q4 p0 p1 p2 r0 r1 r2
   cases R
   ·obtain rfl:c=60:=HT60.out (fun h=>absurd (HRI.out.2 h) (by decide))
    go_wp2
    go_ret
    exact⟨rfl,HB6.out⟩
   ·obtain rfl:c=0:=HT00.out (HRI.out.1 rfl)
    go_wp2
    go_ret
    exact⟨rfl,HB6.out⟩
end
def numOk (off b n:Int):Prop:=0≤off∧((b=1∧off≤63∧0≤n∧n<256)∨(b=2∧off≤62∧0≤n∧n<65536))
theorem inum_ok (w:World) {off b n:Int} (h:numOk off b n):Calls Tryz.prog 77 #[.int .i64 off,.int .i64 b,.int .i64 n] w fun e w'=>e = .returned (.agg #[.int .i64 off,.string (putB b n)])∧Below w.heap.size w w':=by
 obtain⟨h0,h | h⟩:=h
 ·obtain⟨rfl,h1,h2,h3⟩:=h
  exact inum_any w off 1 n _ (fun W=>fput1_any W off n h0 h1 h2 h3)
 ·obtain⟨rfl,h1,h2,h3⟩:=h
  exact inum_any w off 2 n _ (fun W=>fput2_any W off n h0 h1 h2 h3)
def OwnPats (base:Nat) (w:World) (v:Value) (l:List (Int×ByteArray)):Prop:=w.ownsRow base 99 2 v l.length (l.flatMap patC)
theorem ownPats_pats {base:Nat} {w:World} {v:Value} {l:List (Int×ByteArray)} (h:OwnPats base w v l):Pats w v l:=by
 refine RowAt.own (e:=99) (base:=base) (fun x hx=>?_) ?_
 ·obtain⟨n,_,rfl⟩:=List.mem_map.1 hx
  rfl
 ·rw[List.length_map,←List.flatMap_def]
  exact h
theorem infoPatch:(Tryz.prog.info? 99).map (fun i=>(i.zero,i.size,i.bytes))=some (some (.agg #[.int .i64 0,.string ByteArray.empty]),2,24):=by kernel_rfl
theorem what_bd {g:Sp.Geom} {s:Int} (h:blockOk g s):0≤s∧s<65536:=by
 rcases h with rfl | ⟨h,_⟩
 ·omega
 ·unfold Sp.Geom.what at h
  split at h
  ·rename_i hw
   obtain⟨hg,h0,h1⟩:=within_bd hw
   have:=(Geom.size_bd hg).2
   omega
  ·rename_i hw
   exact absurd h hw
theorem fits_num {g:Sp.Geom} {n:Sp.Inode} (hg:g.ok) (h:n.fits g):0≤n.kind∧n.kind≤2∧0≤n.links∧n.links≤255∧0≤n.size∧n.size≤2560∧0≤n.parent∧n.parent≤128∧0≤n.gen∧n.gen≤65535∧(0≤n.more∧n.more<65536)∧∀d∈n.direct,0≤d∧d<65536:=by
 obtain⟨h1,h2,h3,h4,h5,h6,h⟩:=h
 have hm:=Geom.many_ok hg
 have hp:=Geom.prod hg
 rcases h with ⟨a,_,_,b,c,d⟩ | ⟨a,b,c,d⟩ | ⟨a,_,b,b2,c,d⟩
 ·refine⟨by omega,by omega,h3,h4,h5,h6,by omega,by omega,h1,h2,by omega,fun x hx=>?_⟩
  have:=c x hx
  omega
 ·exact⟨by omega,by omega,h3,h4,h5,h6,by omega,by omega,h1,h2,what_bd d,fun x hx=>what_bd (c x hx)⟩
 ·exact⟨by omega,by omega,h3,h4,h5,h6,by omega,by omega,h1,h2,what_bd d,fun x hx=>what_bd (c x hx)⟩
def IEnc (g:Sp.Geom) (n:Sp.Inode) (w:World) (e:Ending) (w':World):Prop:=
 e = .returned (.tuple #[.string (if n.check g=0 then inodeB n else⟨#[]⟩),.int .i64 (n.check g)])∧Below w.heap.size w w'
def inodeQ (k l z p ge d0 d1 d2 d3 d4 d5 d6 d7 m:Int) (j:Nat):List (Int×ByteArray):=
 [(0,putB 1 k),(1,putB 1 l),(2,putB 2 z),(4,putB 2 p),(6,putB 2 ge),(24,putB 2 m)] ++ (List.range j).map (fun i:Nat=>(((8:Int)+2*(i:Int),putB 2 ([d0,d1,d2,d3,d4,d5,d6,d7].getD i 0)):Int×ByteArray))
theorem inodeQ_snoc (k l z p ge d0 d1 d2 d3 d4 d5 d6 d7 m:Int) (j:Nat):inodeQ k l z p ge d0 d1 d2 d3 d4 d5 d6 d7 m (j+1)=inodeQ k l z p ge d0 d1 d2 d3 d4 d5 d6 d7 m j ++ [((8:Int)+2*(j:Int),putB 2 ([d0,d1,d2,d3,d4,d5,d6,d7].getD j 0))]:=by
 unfold inodeQ
 rw[List.range_succ,List.map_append,List.append_assoc]
 rfl
theorem inodeQ_length (k l z p ge d0 d1 d2 d3 d4 d5 d6 d7 m:Int) (j:Nat):(inodeQ k l z p ge d0 d1 d2 d3 d4 d5 d6 d7 m j).length=j+6:=by
 unfold inodeQ
 rw[List.length_append,List.length_map,List.length_range,Nat.add_comm]
 rfl
theorem inodeQ_all (k l z p ge d0 d1 d2 d3 d4 d5 d6 d7 m:Int):inodeQ k l z p ge d0 d1 d2 d3 d4 d5 d6 d7 m 8=inodeP (iN k l z p ge d0 d1 d2 d3 d4 d5 d6 d7 m):=rfl
theorem arr8_at (d0 d1 d2 d3 d4 d5 d6 d7:Int) (W:World):∀j:Nat,j<8→(Instr.index 69 (.agg #[.int .i64 d0,.int .i64 d1,.int .i64 d2,.int .i64 d3,.int .i64 d4,.int .i64 d5,.int .i64 d6,.int .i64 d7]) (.int .i64 (j:Int))).run Tryz.prog W = .ok (.int .i64 ([d0,d1,d2,d3,d4,d5,d6,d7].getD j 0)) W
 | 0,_=>by kernel_rfl
 | 1,_=>by kernel_rfl
 | 2,_=>by kernel_rfl
 | 3,_=>by kernel_rfl
 | 4,_=>by kernel_rfl
 | 5,_=>by kernel_rfl
 | 6,_=>by kernel_rfl
 | 7,_=>by kernel_rfl
theorem own_below {w w':World} {base k n:Nat} {e:TypeId} {v:Value} {xs:List Value} (h:w.ownsRow base e k v n xs) (hb:Below w.heap.size w w'):w'.ownsRow base e k v n xs:=by
 obtain⟨h1,h | ⟨g,cap,cur,rfl,h2,h3,h4⟩⟩:=h
 ·exact⟨h1,Or.inl h⟩
 ·exact⟨h1,Or.inr ⟨g,cap,cur,rfl,h2,heapOld hb h3,h4⟩⟩
section
theorem iencode_any (w:World) (g:Sp.Geom) (k l z p ge d0 d1 d2 d3 d4 d5 d6 d7 m:Int):Calls Tryz.prog 39 #[gV g,.agg (iA k l z p ge d0 d1 d2 d3 d4 d5 d6 d7 m)] w (IEnc g (iN k l z p ge d0 d1 d2 d3 d4 d5 d6 d7 m) w):=by
 have hc:=fun W:World=>icheck_any W g k l z p ge d0 d1 d2 d3 d4 d5 d6 d7 m
 have hno:∀c w',(iN k l z p ge d0 d1 d2 d3 d4 d5 d6 d7 m).check g=c→c≠0→Below w.heap.size w w'→IEnc g (iN k l z p ge d0 d1 d2 d3 d4 d5 d6 d7 m) w (.returned (.tuple #[.string ⟨#[]⟩,.int .i64 c])) w':=fun c w' h hc hb=>⟨by rw[h,if_neg hc],hb⟩
 have hyes:∀w',(iN k l z p ge d0 d1 d2 d3 d4 d5 d6 d7 m).check g=0→Below w.heap.size w w'→IEnc g (iN k l z p ge d0 d1 d2 d3 d4 d5 d6 d7 m) w (.returned (.tuple #[.string (inodeB (iN k l z p ge d0 d1 d2 d3 d4 d5 d6 d7 m)),.int .i64 0])) w':=fun w' h hb=>⟨by rw[h,if_pos rfl],hb⟩
 have hfit:(iN k l z p ge d0 d1 d2 d3 d4 d5 d6 d7 m).check g=0→g.ok∧(iN k l z p ge d0 d1 d2 d3 d4 d5 d6 d7 m).fits g:=fun h=>by
  unfold Inode.check at h
  split at h
  ·rename_i hg
   split at h
   ·rename_i hf; exact⟨hg,hf⟩
   ·cases h
  ·cases h
 have hnum:(iN k l z p ge d0 d1 d2 d3 d4 d5 d6 d7 m).check g=0→_:=fun h=>fits_num (hfit h).1 (hfit h).2
 obtain⟨c,hcc⟩:=zx ((iN k l z p ge d0 d1 d2 d3 d4 d5 d6 d7 m).check g)
 rw[hcc] at hc hnum
 have HNo:=zh (fun w'=>hno c w' hcc)
 obtain⟨T,hT⟩:=zx (inodeB (iN k l z p ge d0 d1 d2 d3 d4 d5 d6 d7 m))
 rw[hT] at hyes
 have HYes:Hid (c=0→∀w',Below w.heap.size w w'→IEnc g (iN k l z p ge d0 d1 d2 d3 d4 d5 d6 d7 m) w (.returned (.tuple #[.string T,.int .i64 0])) w'):=fun h w'=>hyes w' (hcc.trans h)
 obtain⟨Q,hQ⟩:=zx (IEnc g (iN k l z p ge d0 d1 d2 d3 d4 d5 d6 d7 m) w)
 rw[hQ] at HNo HYes ⊢
 have HT:=zh hT
 obtain⟨ga,gb,gc⟩:=g
 unfold gV iA at hc ⊢
 have HC:=zh hc
 clear hc
 clear hno hyes hfit hcc hT hQ
 by_cases hc0:c=0
 rotate_left
 ·have f1:(c == 0)=false:=beq_eq_false_iff_ne.2 hc0
  have f2:(c != 0)=true:=by simp[hc0]
  have HN:=zh (HNo.out · hc0)
  clear hc0 hnum HYes
  go_enter Tryz.func39,Tryz.ntmps39
  go_wp2_with fail
  refine(HC.out _).mono ?_
  rintro e w1 ⟨rfl,hb1⟩
  have HB1:=zh (blN (bl1 (bl2 _) _) hb1)
  clear hb1
  go_wp2
  first | exact HN.out _ HB1.out | (go_ret2; exact HN.out _ HB1.out)
 obtain⟨a0,a1,a2,a3,a4,a5,a6,a7,a8,a9,a10,hall⟩:=hnum hc0
 have HY:=zh (HYes.out hc0)
 subst hc0
 clear hnum HYes HNo
 simp only[iN] at a0 a1 a2 a3 a4 a5 a6 a7 a8 a9 a10
 have HD:Hid (∀j,j<8→0≤[d0,d1,d2,d3,d4,d5,d6,d7].getD j 0∧[d0,d1,d2,d3,d4,d5,d6,d7].getD j 0<65536):=fun j hj=>hall _ (by
  rw[List.getD_eq_getElem?_getD,List.getElem?_eq_getElem (show j < [d0,d1,d2,d3,d4,d5,d6,d7].length from hj)]
  exact List.getElem_mem _)
 have HNum:Hid (∀(W:World) (off b n:Int),numOk off b n→Calls Tryz.prog 77 #[.int .i64 off,.int .i64 b,.int .i64 n] W fun e w'=>e = .returned (.agg #[.int .i64 off,.string (putB b n)])∧Below W.heap.size W w'):=fun W off b n h=>inum_ok W h
 clear hall
 go_enter Tryz.func39,Tryz.ntmps39
 go_wp2_with fail
 refine(HC.out _).mono ?_
 rintro e w1 ⟨rfl,hb1⟩
 obtain⟨hbl,hz0,hz1⟩:=boxes2 hb1
 have HB1:=zh hbl
 have HZ1:=zh hz1
 have HZG:Hid (∀W,Below w1.heap.size w1 W→W.cell? ⟨w.heap.size+1,0,none⟩=some (.int .i64 k)∧W.cell? ⟨w.heap.size+1,1,none⟩=some (.int .i64 l)∧W.cell? ⟨w.heap.size+1,2,none⟩=some (.int .i64 z)∧W.cell? ⟨w.heap.size+1,3,none⟩=some (.int .i64 p)∧W.cell? ⟨w.heap.size+1,4,none⟩=some (.int .i64 ge)∧W.cell? ⟨w.heap.size+1,13,none⟩=some (.int .i64 m)):=fun W hW=>by
  have h:=heapOld hW hz1
  exact⟨cellOf h rfl,cellOf h rfl,cellOf h rfl,cellOf h rfl,cellOf h rfl,cellOf h rfl⟩
 have HBc:Hid (Below w1.heap.size w1 w1):=Below.refl _ _
 clear hb1 hbl hz0 hz1
 go_wp2_with fail
 go_region_held3 (fun W=>W.cell? ⟨w.heap.size+1,0,none⟩=some (.int .i64 k)∧W.cell? ⟨w.heap.size+1,1,none⟩=some (.int .i64 l)∧W.cell? ⟨w.heap.size+1,2,none⟩=some (.int .i64 z)∧W.cell? ⟨w.heap.size+1,3,none⟩=some (.int .i64 p)∧W.cell? ⟨w.heap.size+1,4,none⟩=some (.int .i64 ge)∧W.cell? ⟨w.heap.size+1,13,none⟩=some (.int .i64 m))
  ((refine HZG.out _ ?_; repeat' first | with_reducible exact HBc.out | with_reducible refine blD ?_ | with_reducible refine bl1 ?_ _))
  (first
    | (go_at_call 77
       refine(HNum.out _ _ _ _ (by unfold numOk; omega)).mono ?_
       rintro e wn ⟨rfl,hbn⟩
       replace HBc:Hid (Below w1.heap.size w1 wn):=blN (by repeat' first | with_reducible exact HBc.out | with_reducible refine blD ?_ | with_reducible refine bl1 ?_ _) hbn
       clear hbn
       simp only))
 all_goals
  obtain⟨Wl,hWl⟩:=zx (wn.alloc (.cells #[.int .i64 0,.string (putB 1 k),.int .i64 1,.string (putB 1 l),.int .i64 2,.string (putB 2 z),.int .i64 4,.string (putB 2 p),.int .i64 6,.string (putB 2 ge),.int .i64 24,.string (putB 2 m)] 99))
  have hbl:Below w1.heap.size w1 Wl:=by rw[←hWl]; exact bl1 HBc.out _
  have hzl:Wl.heap[wn.heap.size]? = some (.cells #[.int .i64 0,.string (putB 1 k),.int .i64 1,.string (putB 1 l),.int .i64 2,.string (putB 2 z),.int .i64 4,.string (putB 2 p),.int .i64 6,.string (putB 2 ge),.int .i64 24,.string (putB 2 m)] 99 (0,0)):=by rw[←hWl]; exact heapNew wn _
  have HBl:=zh (blN HB1.out hbl)
  have hown:Wl.ownsRow w.heap.size 99 2 (.slice (some ⟨wn.heap.size,0,none⟩) 6 6) 6 ((inodeQ k l z p ge d0 d1 d2 d3 d4 d5 d6 d7 m 0).flatMap patC):=
   ⟨rfl,Or.inr ⟨wn.heap.size,6,_,rfl,(blN HB1.out HBc.out).size,hzl,by omega,by unfold maxLen; omega,rfl,rfl⟩⟩
  have HOw:Hid (OwnPats w.heap.size Wl (.slice (some ⟨wn.heap.size,0,none⟩) 6 6) (inodeQ k l z p ge d0 d1 d2 d3 d4 d5 d6 d7 m 0)):=by
   show Wl.ownsRow _ _ _ _ _ _
   rw[inodeQ_length]
   exact hown
  have hz1:=heapOld hbl HZ1.out
  have y5:=zc 5 hz1
  have y6:=zc 6 hz1
  have y7:=zc 7 hz1
  have y8:=zc 8 hz1
  have y9:=zc 9 hz1
  have y10:=zc 10 hz1
  have y11:=zc 11 hz1
  have y12:=zc 12 hz1
  have HIX:Hid (∀(W:World) (j:Nat),j<8→(Instr.index 69 (.agg #[.int .i64 d0,.int .i64 d1,.int .i64 d2,.int .i64 d3,.int .i64 d4,.int .i64 d5,.int .i64 d6,.int .i64 d7]) (.int .i64 (j:Int))).run Tryz.prog W = .ok (.int .i64 ([d0,d1,d2,d3,d4,d5,d6,d7].getD j 0)) W):=fun W j hj=>arr8_at d0 d1 d2 d3 d4 d5 d6 d7 W j hj
  obtain⟨i0,hi,hiz0,hiz1,hiz2⟩:=info_parts infoPatch
  clear hbl hzl hown hz1
  go_wp2_with fail
  clear y5 y6 y7 y8 y9 y10 y11 y12
  go_loopw [7,37] (fun v i wr=>∃j:Nat,j≤8∧i = .int .i64 j∧Hid (OwnPats w.heap.size wr v (inodeQ k l z p ge d0 d1 d2 d3 d4 d5 d6 d7 m j))∧Hid (Below w.heap.size w wr)) (fun _ i _=>8-(intOf i).toNat)
  case atStart=>exact⟨0,Nat.zero_le _,rfl,HOw,HBl⟩
  case round=>
   obtain⟨j,hj,rfl,HO,HB⟩:=hrel
   clear HOw HBl hWl
   by_cases hlt:j<8
   ·have hix:=fun W=>HIX.out W j hlt
    obtain⟨e0,e1⟩:=HD.out j hlt
    obtain⟨dj,hdj⟩:=zx ([d0,d1,d2,d3,d4,d5,d6,d7].getD j 0)
    rw[hdj] at hix e0 e1
    have HDJ:=zh hdj
    have HNj:=zh (fun W:World=>HNum.out W (8+2*(j:Int)) 2 dj (by unfold numOk; omega))
    have hown:=HO.out
    unfold OwnPats at hown
    rw[inodeQ_length] at hown
    have HOwn:=zh hown
    clear hown hdj
    go_wp2_with fail
    refine(HNj.out _).mono ?_
    rintro e w2 ⟨rfl,hb2⟩
    have HOwn2:=zh (own_below HOwn.out hb2)
    have HB2:=zh (blN HB.out hb2)
    clear hb2
    go_wp2_with (at_builtin; refine wpList_append_lies _ rfl _ _ _ rfl w.heap.size 99 i0 _ 2 24 Tryz.underlying107 hi hiz0 hiz1 hiz2 rfl (by decide) _ _ _ rfl (HOwn2.out.alloc _) ⟨w2.heap.size,0,none⟩ 1 1 [.int .i64 (8+2*(j:Int)),.string (putB 2 dj)] rfl rfl (World.news_of_block (cs:=#[.int .i64 (8+2*(j:Int)),.string (putB 2 dj)]) (t:=99) (fr:=(0,0)) (heapNew w2 _)) (by simp[Value.oneCell']) (by omega) ?c1 ?c2 ?c3 (w2.heap.size+1) (by simp) ?_)
    case c1=>unfold maxLen; omega
    case c2=>omega
    case c3=>have:=HB2.out.size; simp; omega
    intro g4 cap4 w4 hown4 hgrow4 hat4 hlt4
    have HO4:Hid (OwnPats w.heap.size w4 (.slice (some ⟨g4,0,none⟩) (j+6+1) cap4) (inodeQ k l z p ge d0 d1 d2 d3 d4 d5 d6 d7 m (j+1))):=by
     show w4.ownsRow _ _ _ _ _ _
     rw[inodeQ_length,inodeQ_snoc,List.flatMap_append,HDJ.out,show j+1+6=j+6+1 by omega]
     exact hown4
    have HB4:Hid (Below w.heap.size w w4):=Below.grown (bl1 HB2.out _) hgrow4 (bl1 HB2.out _).size (fun q hq=>(HOwn2.out.lt q hq).1)
    clear hown4 hgrow4 hat4 hlt4
    go_wp2
    go_roundw
    case rel=>exact⟨j+1,by omega,by go_num,HO4,HB4⟩
    case measure=>simp[intOf]; omega
   ·obtain rfl:j=8:=by omega
    have hbk:=fun W:World=>fblank_any W
    have hpt:=fun(W:World) (hv:Pats W u7 (inodeQ k l z p ge d0 d1 d2 d3 d4 d5 d6 d7 m 8))=>fpatched_any W Sp.blank u7 _ hv (by unfold Sp.blank; rw[ofL_size,zeros_length]) (by rw[inodeQ_length]; omega) (inodeQ_all k l z p ge d0 d1 d2 d3 d4 d5 d6 d7 m ▸ inodeP_ok _)
    have he:ofL (patchedL Sp.blank.data.toList (inodeQ k l z p ge d0 d1 d2 d3 d4 d5 d6 d7 m 8))=T:=by
     rw[←HT.out,inodeQ_all,←inodeP_sector _ rfl]
     unfold Sp.blank
     rw[ofL_data]
    rw[he] at hpt
    have HBK:=zh hbk
    have HPT:=zh hpt
    clear hbk hpt
    clear he HIX HD HNum
    go_wp2_with fail
    refine(HBK.out _).mono ?_
    rintro e w2 ⟨rfl,hb2⟩
    have HP2:=zh ((ownPats_pats HO.out).below hb2)
    have HB2:=zh (blN HB.out hb2)
    clear hb2
    go_wp2_with fail
    refine(HPT.out _ HP2.out).mono ?_
    rintro e w3 ⟨rfl,hb3⟩
    have HB3:=zh (blN HB2.out hb3)
    clear hb3
    go_wp2
    first | exact HY.out _ HB3.out | (go_ret2; exact HY.out _ HB3.out)
end
