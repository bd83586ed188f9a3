import Derived.Test.YtgofmnhfajmbfaaGreatDoorCheckVisit
set_option maxHeartbeats 8000000
namespace Go.Proofs.YtgofmnhfajmbfaaGreatDoor
open Go Go.RowKit Txt Sp
theorem geo_part0 (w:World) (x y z:Int):(part 3 #[.int .i64 x,.int .i64 y,.int .i64 z] 0).run Tryz.prog w = .ok (.int .i64 x) w:=by kernel_rfl
theorem geo_part1 (w:World) (x y z:Int):(part 3 #[.int .i64 x,.int .i64 y,.int .i64 z] 1).run Tryz.prog w = .ok (.int .i64 y) w:=by kernel_rfl
theorem geo_part2 (w:World) (x y z:Int):(part 3 #[.int .i64 x,.int .i64 y,.int .i64 z] 2).run Tryz.prog w = .ok (.int .i64 z) w:=by kernel_rfl
theorem neq_geom (w:World) (a b c a' b' c':Int):(binOp .neq 23 (.agg #[.int .i64 a,.int .i64 b,.int .i64 c]) (.agg #[.int .i64 a',.int .i64 b',.int .i64 c'])).run Tryz.prog w = .ok (.bool (!decide (a=a'∧b=b'∧c=c'))) w:=by
 have hu:=Tryz.underlying23
 have hi:=Tryz.underlying3
 have h:∀n:Nat,(Op.equalIn (n+2) 23 (.agg #[.int .i64 a,.int .i64 b,.int .i64 c]) (.agg #[.int .i64 a',.int .i64 b',.int .i64 c'])).run Tryz.prog w = .ok (decide (a=a'∧b=b'∧c=c')) w:=fun n=>by
  have p0:=fun x y z=>geo_part0 w x y z
  have p1:=fun x y z=>geo_part1 w x y z
  have p2:=fun x y z=>geo_part2 w x y z
  by_cases h1:a=a'
  ·by_cases h2:b=b'
   ·by_cases h3:c=c'
    ·simp[Op.equalIn,run_underlying hu,run_underlying hi,Result.andThen,p0,p1,p2,h1,h2,h3]
    ·simp[Op.equalIn,run_underlying hu,run_underlying hi,Result.andThen,p0,p1,p2,h1,h2,h3]
   ·simp[Op.equalIn,run_underlying hu,run_underlying hi,Result.andThen,p0,p1,h1,h2]
  ·simp[Op.equalIn,run_underlying hu,run_underlying hi,Result.andThen,p0,h1]
 have h2:=h 9998
 rw[run_neq_struct,show(10000:Nat)=9998+2 from rfl,h2]
 rfl
section
variable {w w1 w':World} {base B N:Nat} {g:Sp.Geom} {vs:Value} {m:LookP} {t t':Sp.Look} {D D' K:Nat→Prop} {S:Int→ByteArray}
def lookP (b:Nat):LookP:=⟨b+1,b+1+1,b+1+1+1,b+1+1+1+1,b+1+1+1+1+1⟩
def lookD (b:Nat) (j:Nat):Prop:=b+1≤j∧j≤b+5
theorem LookAt.new {W:World} {b:Nat} (hb:base≤b) (h1:W.heap[b+1]? = some (.map #[] 0)) (h2:W.heap[b+1+1]? = some (.map #[] 0)) (h3:W.heap[b+1+1+1]? = some (.map #[] 0)) (h4:W.heap[b+1+1+1+1]? = some (.map #[] 0)) (h5:W.heap[b+1+1+1+1+1]? = some (.map #[] 0))
 (h6:W.heap[b+1+1+1+1+1+1]? = some (lookO g vs (lookP b))):LookAt W base (b+1+1+1+1+1+1) g vs (lookP b) ⟨[],[],[],[],[]⟩ (lookD b):=by
 have hz:=(Array.getElem?_eq_some_iff.1 h6).1
 refine⟨h6,⟨_,h1,IM.IsMap.new⟩,⟨_,h2,IM.IsMap.new⟩,⟨[],rfl,⟨_,h3,IM.IsMap.new⟩,fun e he=>(by cases he),List.Pairwise.nil⟩,⟨_,h4,IM.IsMap.new⟩,⟨_,h5,q153z.new⟩,?_,?_,⟨by omega,fun j hj=>?_⟩,?_⟩
 ·unfold lookD lookP; simp only; omega
 ·unfold lookD; omega
 ·unfold lookD at hj; omega
 ·unfold lookP; simp
theorem LookAt.rooted (h:LookAt w base B g vs m t D) (hn:t.names=[]) {W:World} {b:Nat} (hb:Below w.heap.size w W) (hz:W.heap[b]? = some (.cells #[.int .i64 1] 3 (0,0))) (hlt:w.heap.size≤b) :
 ∃w',(Instr.mapUpdate 139 (.map (some m.names)) (.int .i64 1) (.slice (some ⟨b,0,none⟩) 1 1)).run Tryz.prog W = .ok () w'∧q8z w base B g vs m t.rooted D w' (fun j=>D j∨j=b):=by
 obtain⟨v,_,_,_,hgo⟩:=h.naming 1 1
 have e:t.namesOf 1=[]:=by unfold Look.namesOf; rw[hn]; rfl
 have e2:t.name 1 1=t.rooted:=by unfold Look.name Look.rooted; rw[e]; rfl
 rw[e,e2] at hgo
 have hsub:∀k,(Value.slice (some ⟨b,0,none⟩) 1 1).ownBlock=some k↔k=b:=fun k=>by
  simp[Value.ownBlock]
  exact eq_comm
 obtain⟨w',h1,h2,h3,h4⟩:=hgo w W (.slice (some ⟨b,0,none⟩) 1 1) (Below.refl _ _) ⟨hb.os,hb.tape,hb.output,hb.size,fun k hk _=>hb.block k hk⟩ (OwnR.block (l:=[1]) hz rfl rfl (by have:=h.le; omega) (by unfold maxLen; simp)) (fun k hk=>by
  rw[(hsub k).1 hk]
  exact⟨Or.inr hlt,(Array.getElem?_eq_some_iff.1 hz).1⟩)
 refine⟨w',h1,?_⟩
 have e3:(fun j=>D j∨(Value.slice (some ⟨b,0,none⟩) 1 1).ownBlock=some j)=(fun j=>D j∨j=b):=by
  funext j
  exact propext (or_congr Iff.rfl (hsub j))
 rw[e3] at h2 h3
 exact⟨h2,h3,h4⟩
theorem q145z {w0 W:World} {o:Obj} {k:Nat} (hk:w0.heap.size=k) (hb:Below (w0.alloc o).heap.size (w0.alloc o) W):W.heap[k]? = some o:=by
 subst hk
 exact q1z hb (q5z w0 o)
def NodeCut (w:World) (vs:List Value) (c:Int) (s v:Value) (wx:World):Prop:=v = .int .i64 c∧∃q,s = .pointer (some ⟨q,0,none⟩)∧wx.heap[q]? = some (.cells vs.toArray 69 (0,0))∧Below w.heap.size w wx
theorem node_new {w wx:World} {vs:List Value} {c:Int} (hb:Below w.heap.size w wx):NodeCut w vs c (.pointer (some ⟨wx.heap.size,0,none⟩)) (.int .i64 c) (wx.alloc (.cells vs.toArray 69)):=⟨rfl,_,rfl,q5z wx _,bl1 hb _⟩
theorem node_sets {w wx:World} {vs:List Value} {c:Int} {q:Nat} {cs:Array Value} (hb:Below w.heap.size w wx) (hq:w.heap.size≤q) (hz:wx.heap[q]? = some (.cells cs 69 (0,0))) (hl:vs.length=cs.size):NodeCut w vs c (.pointer (some ⟨q,0,none⟩)) (.int .i64 c) (sets wx q 0 vs):=
 ⟨rfl,q,rfl,q62z hz hl,q28z hq vs 0 wx hb⟩
def ThruPost (w:World) (N:Nat) (g:Sp.Geom) (vs:Value) (S:Int→ByteArray) (e:Ending) (w':World):Prop:=
 ∃B m D,e = .returned (pt B)∧LookS w' w.heap.size B N g vs m S (Look.through g S) D∧Below w.heap.size w w'
def ThruRel (w:World) (base B N:Nat) (g:Sp.Geom) (vs:Value) (S:Int→ByteArray) (k:Nat) (wr:World):Prop:=
 LookS wr base B N g vs (lookP base) S (Look.reads g S k (Look.start g S)) (lookD base)∧Below base w wr
set_option maxRecDepth 20000 in
theorem cthrough_any (w:World) (hg:g.ok) (hs:q45z w vs N S (fun _=>False)) (hN:(N:Int)=g.size) (hm:MaxOk w):Calls Tryz.prog 73 #[gV g,vs] w (ThruPost w N g vs S):=by
 have hz:=Geom.size_bd hg
 have hN0:0<N:=by omega
 obtain⟨bv,o,cap,rfl,hN6,hcell⟩:=hs.facts hN0
 have hsd:=fun W:World=>sdecode_any W (S 0)
 obtain⟨ga,gb,gc⟩:=g
 have hmm:=@run_makeMap Tryz.prog
 have hn0:(0:Int)<(N:Int):=by omega
 unfold gV q101z at *
 dsimp only at *
 have HG:=zh hg
 have HS0:=zh hs
 have HM0:=zh hm
 have HN:=zh hN
 have hcell0:w.cell? ⟨bv,o,none⟩=some (.string (S 0)):=hcell
 have hbv:bv<w.heap.size:=by
  obtain⟨_,_,_,e,hb,_⟩:=hs
  cases e
  exact hb
 obtain⟨s0,hs0⟩:=zx (S 0)
 rw[hs0] at hsd hcell0
 have HHs0:=zh hs0
 obtain⟨W6,hW6⟩:=zx (((((((w.alloc (.cells #[.int .i64 ga,.int .i64 gb,.int .i64 gc] 23)).alloc (.map #[] 0)).alloc (.map #[] 0)).alloc (.map #[] 0)).alloc (.map #[] 0)).alloc (.map #[] 0)))
 obtain⟨W7,hW7⟩:=zx (W6.alloc (.cells #[.int .i64 ga,.int .i64 gb,.int .i64 gc,.slice (some ⟨bv,o,none⟩) N cap,.map (some (w.heap.size+1)),.map (some (w.heap.size+1+1)),.map (some (w.heap.size+1+1+1)),.map (some (w.heap.size+1+1+1+1)),.map (some (w.heap.size+1+1+1+1+1))] 141))
 have hs6:W6.heap.size=w.heap.size+1+1+1+1+1+1:=by rw[←hW6]; simp
 have hb6:Below w.heap.size w W6:=by rw[←hW6]; exact bl1 (bl1 (bl1 (bl1 (bl1 (bl2 _) _) _) _) _) _
 have hb7:Below w.heap.size w W7:=by rw[←hW7]; exact bl1 hb6 _
 have hz0:W7.heap[w.heap.size]? = some (.cells #[.int .i64 ga,.int .i64 gb,.int .i64 gc] 23 (0,0)):=by
  rw[←hW7,←hW6]
  exact q1z (bl1 (bl1 (bl1 (bl1 (bl1 (bl2 _) _) _) _) _) _) (q5z w _)
 have hl7:LookAt W7 w.heap.size (w.heap.size+1+1+1+1+1+1) ⟨ga,gb,gc⟩ (.slice (some ⟨bv,o,none⟩) N cap) (lookP w.heap.size) ⟨[],[],[],[],[]⟩ (lookD w.heap.size):=by
  rw[←hW7,←hW6]
  exact LookAt.new (Nat.le_refl _) (q145z (by simp) (bl1 (bl1 (bl1 (bl1 (bl2 _) _) _) _) _)) (q145z (by simp) (bl1 (bl1 (bl1 (bl2 _) _) _) _)) (q145z (by simp) (bl1 (bl1 (bl2 _) _) _)) (q145z (by simp) (bl1 (bl2 _) _)) (q145z (by simp) (bl2 _)) (q145z (by simp) (Below.refl _ _))
 have hc7:W7.cell? ⟨bv,o,none⟩=some (.string s0):=(hb7.cell (p:=⟨bv,o,none⟩) hbv).trans hcell0
 have HB7:=zh hb7
 rw[←hs6] at hl7
 have HL7:=zh hl7
 have HZ0:=zh hz0
 have hLS:LookS W7 w.heap.size W6.heap.size N ⟨ga,gb,gc⟩ (.slice (some ⟨bv,o,none⟩) N cap) (lookP w.heap.size) S ⟨[],[],[],[],[]⟩ (lookD w.heap.size):=by
  refine⟨hl7,?_,hm.below hb7,?_,hN,hg⟩
  ·obtain⟨b',o',cap',e,hb,hd,hn,hc⟩:=hs.below hb7
   cases e
   exact⟨bv,o,cap,rfl,hb,fun h=>by unfold lookD at h; omega,hn,hc⟩
  ·obtain⟨x,hx⟩:=hm
   exact World.block_lt_of_cell? _ _ hx
 have HLS:=zh hLS
 obtain⟨cc,hcc⟩:=zx (q124z s0)
 obtain⟨a1,ha1⟩:=zx ((q77z s0).groups)
 obtain⟨b1,hb1⟩:=zx ((q77z s0).inodes)
 obtain⟨c1,hc1⟩:=zx ((q77z s0).blocks)
 unfold gV at hsd
 rw[ha1,hb1,hc1,hcc] at hsd
 have hst:Look.start ⟨ga,gb,gc⟩ S=if cc=0∧a1=ga∧b1=gb∧c1=gc then⟨[],[],[],[],[]⟩ else⟨[],[],[],[],[(1,0)]⟩:=by
  unfold Look.start
  rw[hs0,ha1,hb1,hc1,hcc]
 have HSt:=zh hst
 have hneq:=fun W:World=>neq_geom W a1 b1 c1 ga gb gc
 have HSD:=zh hsd
 clear hsd
 clear hg hs hm hN hz hcell hs0 hs6 hb6 hb7 hl7 hz0 hcell0 hbv hLS hcc ha1 hb1 hc1 hst
 go_enter Tryz.func73,Tryz.ntmps73
 go_wp2_with fail
 refine(HSD.out _).mono ?_
 rintro e w8 ⟨rfl,hb8⟩
 obtain⟨W9,hW9⟩:=zg w8 a1 b1 c1
 have HB9:Hid (Below W7.heap.size W7 W9):=blN hb8 (by rw[←hW9]; exact bl2 _)
 have HZ9:Hid (W9.heap[w8.heap.size]? = some (.cells #[.int .i64 a1,.int .i64 b1,.int .i64 c1] 23 (0,0))):=by rw[←hW9]; exact q5z w8 _
 have HZ09:=zh (q1z HB9.out HZ0.out)
 have x0:=zc 0 HZ9.out
 have x1:=zc 1 HZ9.out
 have x2:=zc 2 HZ9.out
 have y0:=zc 0 HZ09.out
 have y1:=zc 1 HZ09.out
 have y2:=zc 2 HZ09.out
 have HRR:Hid (∀(W:World) (u:Look),q8z W9 w.heap.size W6.heap.size ⟨ga,gb,gc⟩ (.slice (some ⟨bv,o,none⟩) N cap) (lookP w.heap.size) u (lookD w.heap.size) W (lookD w.heap.size)→Look.start ⟨ga,gb,gc⟩ S=u→ThruRel w w.heap.size W6.heap.size N ⟨ga,gb,gc⟩ (.slice (some ⟨bv,o,none⟩) N cap) S 0 W∧W.heap[w.heap.size]? = some (.cells #[.int .i64 ga,.int .i64 gb,.int .i64 gc] 23 (0,0))):=fun W u hto e=>by
  refine⟨⟨?_,?_⟩,hto.heap HZ09.out (fun h=>by unfold lookD at h; omega)⟩
  ·show LookS _ _ _ _ _ _ _ _ (Look.start _ _) _
   rw[e]
   exact(HLS.out.below HB9.out).to hto
  ·have hb9:=blN HB7.out HB9.out
   exact hb9.trans (hto.2.2.below (fun j hj=>by unfold lookD at hj; omega) hb9.size)
 have htl:=q73z (HLS.out.below HB9.out).look 1 0
 unfold pt at htl
 have HTL:=zh htl
 clear htl
 clear hb8
 obtain⟨bad,hbad⟩:∃b:Bool,(!decide (cc=0∧a1=ga∧b1=gb∧c1=gc))=b:=⟨_,rfl⟩
 have HBad:=zh hbad
 clear hbad
 go_upto_region 3 with fail
 go_cut [34] (fun v wx=>v = .bool bad∧W9=wx)
 case first=>
  by_cases hc0:cc=0
  ·have q0:(cc == 0)=true:=by rw[hc0]; rfl
   have q1:(cc != 0)=false:=by rw[hc0]; rfl
   obtain⟨b2,hb2⟩:=zx ((!decide (a1=ga∧b1=gb∧c1=gc)))
   have HE:Hid (b2=bad):=by
    show _=_
    rw[←hb2,←HBad.out]
    congr 2
    exact propext ⟨fun h=>⟨hc0,h⟩,fun h=>h.2⟩
   simp only[hb2] at hneq
   clear hc0 hb2
   go_wp2
   go_meet
   case rel=>exact⟨by rw[HE.out],rfl⟩
  ·have q0:(cc == 0)=false:=beq_eq_false_iff_ne.2 hc0
   have q1:(cc != 0)=true:=by simpa using hc0
   have HE:Hid (true=bad):=by
    show _=_
    rw[←HBad.out,decide_eq_false (fun h=>hc0 h.1)]
    rfl
   clear hc0
   go_wp2
   go_meet
   case rel=>exact⟨by rw[←HE.out],rfl⟩
 case rest=>
  obtain⟨rfl,rfl⟩:=hcut
  clear x0 x1 x2 y0 y1 y2 hneq
  go_upto_if 34 with fail
  go_cut [] (fun wx=>Hid (ThruRel w w.heap.size W6.heap.size N ⟨ga,gb,gc⟩ (.slice (some ⟨bv,o,none⟩) N cap) S 0 wx∧wx.heap[w.heap.size]? = some (.cells #[.int .i64 ga,.int .i64 gb,.int .i64 gc] 23 (0,0))))
  case first=>
   cases bad
   ·have HR:=zh (HRR.out W9 ⟨[],[],[],[],[]⟩ (q8z.none (HLS.out.below HB9.out).look (Below.refl _ _)) (by rw[HSt.out,if_pos (by simpa using HBad.out)]))
    go_wp2
    go_meet
    case rel=>exact HR
   ·have HBd:Hid (Look.start ⟨ga,gb,gc⟩ S=(⟨[],[],[],[],[]⟩:Look).tell 1 0):=by
     show _=_
     rw[HSt.out,if_neg (fun h=>by have h2:=HBad.out; rw[decide_eq_true h] at h2; cases h2)]
     rfl
    go_wp2_with fail
    refine HTL.out.mono ?_
    rintro e w10 ⟨rfl,hto10⟩
    have HR:=zh (HRR.out w10 _ hto10 HBd.out)
    clear hto10
    go_wp2
    go_meet
    case rel=>exact HR
  case rest=>
   have HZw:=zh hcut.out.2
   have HR0:=zh hcut.out.1
   clear hcut
   have hm0:=Geom.many_ok HG.out
   have hm1:=Geom.prod HG.out
   have hmn:=fun W:World=>q98z W ⟨ga,gb,gc⟩
   obtain⟨M,hM⟩:∃M:Nat,Geom.many ⟨ga,gb,gc⟩=(M:Int):=⟨(Geom.many ⟨ga,gb,gc⟩).toNat,by omega⟩
   have hM1:1≤M∧M≤128:=by omega
   rw[hM] at hmn
   unfold gV at hmn
   dsimp only at hmn
   have HM:=zh hM
   have HMN:=zh hmn
   clear hmn
   clear hm0 hm1 hM
   go_wp2
   go_loopw [8] (fun i8 wr=>∃k:Nat,k≤M∧i8 = .int .i64 ((k:Int)+1)∧Hid (ThruRel w w.heap.size W6.heap.size N ⟨ga,gb,gc⟩ (.slice (some ⟨bv,o,none⟩) N cap) S k wr∧wr.heap[w.heap.size]? = some (.cells #[.int .i64 ga,.int .i64 gb,.int .i64 gc] 23 (0,0)))) (fun i8 _=>M+1-(intOf i8).toNat)
   case atStart=>exact⟨0,Nat.zero_le _,rfl,HR0.out,HZw.out⟩
   case round=>
    obtain⟨k,hk,rfl,HRel⟩:=hrel
    have HRk:=zh HRel.out.1
    have HZk:=zh HRel.out.2
    have z0:=zc 0 HZk.out
    have z1:=zc 1 HZk.out
    have z2:=zc 2 HZk.out
    clear HRel
    go_wp2_with fail
    clear z0 z1 z2
    refine(HMN.out _).mono ?_
    rintro e w11 ⟨rfl,hb11⟩
    have HB11:=zh hb11
    have HZ11:=zh (q1z hb11 HZk.out)
    clear hb11
    by_cases hlt:k<M
    ·have hmany:=Geom.many_ok HG.out
     have hMM:=HM.out
     have hsec:=inodeSec_in HG.out (i:=(k:Int)+1) (by omega) (by rw[←hmany,hMM]; omega)
     have hia:=(inodeAt_in HG.out (i:=(k:Int)+1) (by omega) (by rw[←hmany,hMM]; omega)).1
     rw[←hia,←HRk.out.1.size] at hsec
     obtain⟨a,ha⟩:∃a:Nat,(q23z ⟨ga,gb,gc⟩ ((k:Int)+1)).1=(a:Int):=⟨(q23z ⟨ga,gb,gc⟩ ((k:Int)+1)).1.toNat,by omega⟩
     rw[ha] at hsec
     have haN:a<N:=by omega
     have HLK:=zh (HRk.out.1.below HB11.out)
     have hat:=fun(W:World) (hW:Below w11.heap.size w11 W)=>cat_any (HLK.out.look.below hW) ((k:Int)+1)
     rw[ha] at hat
     obtain⟨s,hs⟩:=zx (S a)
     have hdec:=fun W:World=>idecode_any W ⟨ga,gb,gc⟩ s
     have hread:Look.reads ⟨ga,gb,gc⟩ S (k+1) (Look.start ⟨ga,gb,gc⟩ S)=(if q13z ⟨ga,gb,gc⟩ s then { Look.reads ⟨ga,gb,gc⟩ S k (Look.start ⟨ga,gb,gc⟩ S) with nodes:=IM.setM (Look.reads ⟨ga,gb,gc⟩ S k (Look.start ⟨ga,gb,gc⟩ S)).nodes ((k:Int)+1) (q6z s) } else(Look.reads ⟨ga,gb,gc⟩ S k (Look.start ⟨ga,gb,gc⟩ S)).tell 1 a):=by
      show Look.read _ _ _ _=_
      unfold Look.read
      rw[ha,hs]
     have HRead:=zh hread
     have hk:∀W,Below w11.heap.size w11 W→W.cell? ⟨w.heap.size,0,none⟩=some (.int .i64 ga)∧W.cell? ⟨w.heap.size,1,none⟩=some (.int .i64 gb)∧W.cell? ⟨w.heap.size,2,none⟩=some (.int .i64 gc)∧W.cell? ⟨bv,o+a,none⟩=some (.string s):=fun W hW=>by
      obtain⟨b',o',cap',e',-,hc'⟩:=(HLK.out.below hW).secs.facts haN
      cases e'
      rw[hs] at hc'
      have hz:=q1z hW HZ11.out
      exact⟨cellOf hz rfl,cellOf hz rfl,cellOf hz rfl,hc'⟩
     have HK:=zh hk
     unfold IDec at hdec
     obtain⟨nn,hnn⟩:=zx ((if Geom.ok ⟨ga,gb,gc⟩∧q13z ⟨ga,gb,gc⟩ s then q6z s else zeroN))
     obtain⟨c,hc⟩:∃c:Int,(if Geom.ok ⟨ga,gb,gc⟩ then(if q13z ⟨ga,gb,gc⟩ s then 0 else 60) else 4)=c:=⟨_,rfl⟩
     rw[hnn,hc] at hdec
     have HNN:Hid ((q13z ⟨ga,gb,gc⟩ s∧nn=q6z s∧c=0)∨(¬q13z ⟨ga,gb,gc⟩ s∧c=60)):=by
      by_cases hi:q13z ⟨ga,gb,gc⟩ s
      ·exact Or.inl ⟨hi,by rw[←hnn,if_pos ⟨HG.out,hi⟩],by rw[←hc,if_pos HG.out,if_pos hi]⟩
      ·exact Or.inr ⟨hi,by rw[←hc,if_pos HG.out,if_neg hi]⟩
     unfold nA iA at hdec
     obtain⟨x0,h0⟩:=zx (nn.kind)
     obtain⟨x1,h1⟩:=zx (nn.links)
     obtain⟨x2,h2⟩:=zx (nn.size)
     obtain⟨x3,h3⟩:=zx (nn.parent)
     obtain⟨x4,h4⟩:=zx (nn.gen)
     obtain⟨d0,h5⟩:=zx (nn.direct.getD 0 0)
     obtain⟨d1,h6⟩:=zx (nn.direct.getD 1 0)
     obtain⟨d2,h7⟩:=zx (nn.direct.getD 2 0)
     obtain⟨d3,h8⟩:=zx (nn.direct.getD 3 0)
     obtain⟨d4,h9⟩:=zx (nn.direct.getD 4 0)
     obtain⟨d5,h10⟩:=zx (nn.direct.getD 5 0)
     obtain⟨d6,h11⟩:=zx (nn.direct.getD 6 0)
     obtain⟨d7,h12⟩:=zx (nn.direct.getD 7 0)
     obtain⟨x6,h13⟩:=zx (nn.more)
     have HNA:Hid (nA nn=#[.int .i64 x0,.int .i64 x1,.int .i64 x2,.int .i64 x3,.int .i64 x4,.int .i64 d0,.int .i64 d1,.int .i64 d2,.int .i64 d3,.int .i64 d4,.int .i64 d5,.int .i64 d6,.int .i64 d7,.int .i64 x6]):=by
      show _=_
      unfold nA iA
      rw[h0,h1,h2,h3,h4,h5,h6,h7,h8,h9,h10,h11,h12,h13]
     simp only[h0,h1,h2,h3,h4,h5,h6,h7,h8,h9,h10,h11,h12,h13] at hdec
     unfold gV at hdec
     unfold pt at hat
     dsimp only at hdec
     have HAT:=zh hat
     have HDEC:=zh hdec
     clear hat hdec
     have hqk:(k:Int)+1≤(M:Int):=by omega
     have hqd:decide ((k:Int)+1≤(M:Int))=true:=decide_eq_true hqk
     have ha0:(0:Int)≤(a:Int):=by omega
     have ha1:(a:Int)<(N:Int):=by omega
     clear hmany hMM hsec hia ha hs hread hk hnn hc h0 h1 h2 h3 h4 h5 h6 h7 h8 h9 h10 h11 h12 h13
     go_upto_region 8 with fail
     obtain⟨z0,z1,z2,z3⟩:=HK.out w11 (Below.refl _ _)
     go_cut [9,10] (fun s9 s10 wx=>NodeCut w11 [.int .i64 x0,.int .i64 x1,.int .i64 x2,.int .i64 x3,.int .i64 x4,.int .i64 d0,.int .i64 d1,.int .i64 d2,.int .i64 d3,.int .i64 d4,.int .i64 d5,.int .i64 d6,.int .i64 d7,.int .i64 x6] c s9 s10 wx)
     case first=>
      go_region_held3 (fun W=>W.cell? ⟨w.heap.size,0,none⟩=some (.int .i64 ga)∧W.cell? ⟨w.heap.size,1,none⟩=some (.int .i64 gb)∧W.cell? ⟨w.heap.size,2,none⟩=some (.int .i64 gc)∧W.cell? ⟨bv,o+a,none⟩=some (.string s))
       ((refine HK.out _ ?_; repeat' first | with_reducible exact Below.refl _ _ | with_reducible exact HB5.out | with_reducible exact HB6.out | with_reducible refine sets14 HM6.out ?_ | with_reducible refine blD ?_ | with_reducible refine bl1 ?_ _))
       (first
         | (go_at_call 149
            refine(HAT.out _ ?a1).mono ?_
            case a1=>repeat' first | with_reducible exact Below.refl _ _ | with_reducible refine blD ?_ | with_reducible refine bl1 ?_ _
            rintro e w5 ⟨rfl,hb5⟩
            have HB5:Hid (Below w11.heap.size w11 w5):=blN (by repeat' first | with_reducible exact Below.refl _ _ | with_reducible refine blD ?_ | with_reducible refine bl1 ?_ _) hb5
            try (with_reducible have hz5:=first_zeroI hb5; have HZ5:=zh hz5; clear hz5)
            clear hb5
            simp only)
         | (go_at_call 148
            refine(HDEC.out _).mono ?_
            rintro e w6 ⟨rfl,hb6⟩
            have HB6:Hid (Below w11.heap.size w11 w6):=blN (by repeat' first | with_reducible exact HB5.out | with_reducible refine blD ?_ | with_reducible refine bl1 ?_ _) hb6
            try (with_reducible have hz6:=next_zeroI hb6; have HZ6:=zh hz6; have HM6:=zh HB5.out.size; obtain⟨y0,y1⟩:=ino_cells hz6; clear hz6)
            try (with_reducible have hz6:=q1z hb6 HZ5.out; have HZ6:=zh hz6; have HM6:=zh (Nat.le_refl w11.heap.size); obtain⟨y0,y1⟩:=ino_cells hz6; clear hz6)
            clear hb6
            simp only))
      all_goals
       go_wp2_with fail
       go_meet
       case rel=>
        first
         | with_reducible exact node_new HB6.out
         | exact node_sets HB6.out HM6.out HZ6.out rfl
     case rest=>
      obtain⟨rfl,q,rfl,hz,hbc⟩:=hcut
      have hz:wc.heap[q]? = some (.cells #[.int .i64 x0,.int .i64 x1,.int .i64 x2,.int .i64 x3,.int .i64 x4,.int .i64 d0,.int .i64 d1,.int .i64 d2,.int .i64 d3,.int .i64 d4,.int .i64 d5,.int .i64 d6,.int .i64 d7,.int .i64 x6] 69 (0,0)):=hz
      have HZc:=zh hz
      have HBc:=zh (blN HB11.out hbc)
      have HBc2:=zh hbc
      have HLc:=zh (HLK.out.below hbc)
      have HZ0c:=zh (q1z hbc HZ11.out)
      have HNext:Hid (∀(W:World) (u:Look),q8z wc w.heap.size W6.heap.size ⟨ga,gb,gc⟩ (.slice (some ⟨bv,o,none⟩) N cap) (lookP w.heap.size) u (lookD w.heap.size) W (lookD w.heap.size)→Look.reads ⟨ga,gb,gc⟩ S (k+1) (Look.start ⟨ga,gb,gc⟩ S)=u→Hid (ThruRel w w.heap.size W6.heap.size N ⟨ga,gb,gc⟩ (.slice (some ⟨bv,o,none⟩) N cap) S (k+1) W∧W.heap[w.heap.size]? = some (.cells #[.int .i64 ga,.int .i64 gb,.int .i64 gc] 23 (0,0)))):=fun W u hto e=>by
       refine⟨⟨?_,?_⟩,hto.heap HZ0c.out (fun h=>by unfold lookD at h; omega)⟩
       ·rw[e]
        exact HLc.out.to hto
       ·have hb9:=HRk.out.2.trans (HBc.out.mono HRk.out.2.size)
        exact hb9.trans (hto.2.2.below (fun j hj=>by unfold lookD at hj; omega) hb9.size)
      clear hz hbc z0 z1 z2 z3
      rcases HNN.out with ⟨hi,hn,hc0⟩ | ⟨hi,hc0⟩
      ·have hrd:=HRead.out
       rw[if_pos hi,←hn] at hrd
       have HRd:=zh hrd
       have q0:(c == 0)=true:=by rw[hc0]; rfl
       have q1:(c != 0)=false:=by rw[hc0]; rfl
       obtain⟨W12,hrun,hl12,hT12⟩:=(HLc.out.look.below (blD (Below.refl wc.heap.size wc))).node ((k:Int)+1) nn
       rw[HNA.out] at hrun
       have hto12:q8z wc w.heap.size W6.heap.size ⟨ga,gb,gc⟩ (.slice (some ⟨bv,o,none⟩) N cap) (lookP w.heap.size) _ (lookD w.heap.size) W12 (lookD w.heap.size):=q8z.ahead (blD (Below.refl _ _)) ⟨hl12,fun _ h=>Or.inl h,hT12.mono (fun j _ hj=>by rw[show j=(lookP w.heap.size).nodes from hj]; exact HLc.out.look.own.1)⟩
       have HR1:=HNext.out W12 _ hto12 HRd.out
       obtain⟨-,-,c4,-⟩:=HLc.out.look.cells
       obtain⟨y,-⟩:=blk_cells HZc.out
       clear hi hn hc0 hrd hl12 hT12 hto12
       go_wp2_with fail
       go_still_tail 6,(by kernel_rfl)
       go_wp2
       go_roundw
       case rel=>exact⟨k+1,by omega,by go_num,HR1.out⟩
       case measure=>simp[intOf]; omega
      ·have hrd:=HRead.out
       rw[if_neg hi] at hrd
       have HRd:=zh hrd
       have q0:(c == 0)=false:=by rw[hc0]; rfl
       have q1:(c != 0)=true:=by rw[hc0]; rfl
       have hat2:=HAT.out wc HBc2.out
       have HAT2:=zh hat2
       clear hat2
       clear hi hc0 hrd
       go_wp2_with fail
       refine HAT2.out.mono ?_
       rintro e w13 ⟨rfl,hb13⟩
       have HB13:=zh hb13
       have htl:=q73z (HLc.out.look.below hb13) 1 (a:Int)
       unfold pt at htl
       have HTL:=zh htl
       clear htl
       clear hb13
       go_wp2_with fail
       refine HTL.out.mono ?_
       rintro e w14 ⟨rfl,hto14⟩
       have HR1:=HNext.out w14 _ (q8z.ahead HB13.out hto14) HRd.out
       clear hto14
       go_wp2
       go_roundw
       case rel=>exact⟨k+1,by omega,by go_num,HR1.out⟩
       case measure=>simp[intOf]; omega
    ·have hkM:k=M:=by omega
     subst hkM
     have hqk:¬(k:Int)+1≤(k:Int):=by omega
     have hqd:decide ((k:Int)+1≤(k:Int))=false:=decide_eq_false hqk
     have hMt:(Geom.many ⟨ga,gb,gc⟩).toNat=k:=by rw[HM.out]; rfl
     obtain⟨T,hT⟩:=zx (Look.reads ⟨ga,gb,gc⟩ S k (Look.start ⟨ga,gb,gc⟩ S))
     have hthru:Look.through ⟨ga,gb,gc⟩ S=if(T.node 1).kind=2 then Look.visit ⟨ga,gb,gc⟩ S (k+1) T.rooted 1 else T.tell 1 (q23z ⟨ga,gb,gc⟩ 1).1:=by
      unfold Look.through
      rw[hMt,hT]
     have hroot:=Look.rooted_all (S:=S) HG.out
     have hnames:=(Look.reads_all (g:=⟨ga,gb,gc⟩) (S:=S) rfl k).2.2.1
     rw[hMt,hT] at hroot
     rw[hT] at hnames
     have hLT:=HRk.out.1.below HB11.out
     rw[hT] at hLT
     have HLT:=zh hLT
     have HThru:=zh hthru
     have HRoot:=zh hroot
     have HNm:=zh hnames
     have HBw:=zh (HRk.out.2.trans (HB11.out.mono HRk.out.2.size))
     have hnode:=hLT.look.run_node 1
     obtain⟨nn,hnn⟩:=zx (T.node 1)
     rw[hnn] at hnode
     unfold nA iA at hnode
     obtain⟨x0,h0⟩:=zx (nn.kind)
     have HKd:Hid ((T.node 1).kind=x0):=by show _=_; rw[hnn]; exact h0
     obtain⟨x1,h1⟩:=zx (nn.links)
     obtain⟨x2,h2⟩:=zx (nn.size)
     obtain⟨x3,h3⟩:=zx (nn.parent)
     obtain⟨x4,h4⟩:=zx (nn.gen)
     obtain⟨d0,h5⟩:=zx (nn.direct.getD 0 0)
     obtain⟨d1,h6⟩:=zx (nn.direct.getD 1 0)
     obtain⟨d2,h7⟩:=zx (nn.direct.getD 2 0)
     obtain⟨d3,h8⟩:=zx (nn.direct.getD 3 0)
     obtain⟨d4,h9⟩:=zx (nn.direct.getD 4 0)
     obtain⟨d5,h10⟩:=zx (nn.direct.getD 5 0)
     obtain⟨d6,h11⟩:=zx (nn.direct.getD 6 0)
     obtain⟨d7,h12⟩:=zx (nn.direct.getD 7 0)
     obtain⟨x6,h13⟩:=zx (nn.more)
     simp only[h0,h1,h2,h3,h4,h5,h6,h7,h8,h9,h10,h11,h12,h13] at hnode
     obtain⟨-,-,c4,-⟩:=hLT.look.cells
     obtain⟨W12,hW12⟩:=zx (w11.alloc (.cells #[.int .i64 x0,.int .i64 x1,.int .i64 x2,.int .i64 x3,.int .i64 x4,.int .i64 d0,.int .i64 d1,.int .i64 d2,.int .i64 d3,.int .i64 d4,.int .i64 d5,.int .i64 d6,.int .i64 d7,.int .i64 x6] 69))
     have HB12:Hid (Below w11.heap.size w11 W12):=by rw[←hW12]; exact bl2 _
     have HZ12:Hid (W12.heap[w11.heap.size]? = some (.cells #[.int .i64 x0,.int .i64 x1,.int .i64 x2,.int .i64 x3,.int .i64 x4,.int .i64 d0,.int .i64 d1,.int .i64 d2,.int .i64 d3,.int .i64 d4,.int .i64 d5,.int .i64 d6,.int .i64 d7,.int .i64 x6] 69 (0,0))):=by rw[←hW12]; exact q5z w11 _
     have y0:=zc 0 HZ12.out
     have HL12:=zh (HLT.out.below HB12.out)
     have HEnd:Hid (∀(W:World) (u:Look) (D':Nat→Prop),q8z W12 w.heap.size W6.heap.size ⟨ga,gb,gc⟩ (.slice (some ⟨bv,o,none⟩) N cap) (lookP w.heap.size) u (lookD w.heap.size) W D'→Look.through ⟨ga,gb,gc⟩ S=u→ThruPost w N ⟨ga,gb,gc⟩ (.slice (some ⟨bv,o,none⟩) N cap) S (.returned (.pointer (some ⟨W6.heap.size,0,none⟩))) W):=fun W u D' hto e=>by
      have hb9:=HBw.out.trans (HB12.out.mono HBw.out.size)
      refine⟨W6.heap.size,lookP w.heap.size,D',rfl,?_,hb9.trans (hto.2.2.below (fun j hj=>by unfold lookD at hj; omega) hb9.size)⟩
      rw[e]
      exact HL12.out.to hto
     clear hk hlt hqk hMt hT hthru hroot hnames hLT hnn h0 h1 h2 h3 h4 h5 h6 h7 h8 h9 h10 h11 h12 h13 hM1
     by_cases hk2:x0=2
     ·have q0:(x0 == 2)=true:=by rw[hk2]; rfl
      have q1:(x0 != 2)=false:=by rw[hk2]; rfl
      have HU:Hid (Look.through ⟨ga,gb,gc⟩ S=Look.visit ⟨ga,gb,gc⟩ S (k+1) T.rooted 1):=by
       show _=_
       rw[HThru.out,if_pos (HKd.out.trans hk2)]
      have hrt:=HRoot.out (HKd.out.trans hk2)
      obtain⟨r1,r2,r3,r4⟩:=hrt
      obtain⟨W13,hW13⟩:=zx (W12.alloc (.cells #[.int .i64 1] 3))
      have hb13:Below W12.heap.size W12 W13:=by rw[←hW13]; exact bl2 _
      have hz13:W13.heap[W12.heap.size]? = some (.cells #[.int .i64 1] 3 (0,0)):=by rw[←hW13]; exact q5z W12 _
      obtain⟨W14,hrun14,hto14⟩:=HL12.out.look.rooted HNm.out hb13 hz13 (Nat.le_refl _)
      have hvis:=cvisit_any (k+1) (HL12.out.to hto14) r1 r2 1 r3 r4
      unfold q141z pt at hvis
      have HTo14:=zh hto14
      obtain⟨-,-,-,-,c6,-⟩:=HL12.out.look.cells
      have HVIS:=zh hvis
      clear hvis
      clear r1 r2 r3 r4 hb13 hz13 hto14 hk2
      go_wp2_with fail
      refine HVIS.out.mono ?_
      rintro e w15 ⟨D5,rfl,hto15⟩
      have HE:=zh (HEnd.out w15 _ D5 (HTo14.out.trans hto15) HU.out)
      clear hto15 hrun14 c6 c4 y0 hnode
      go_wp2
      go_ret
      exact HE.out
     ·have q0:(x0 == 2)=false:=beq_eq_false_iff_ne.2 hk2
      have q1:(x0 != 2)=true:=by simpa using hk2
      have HU:Hid (Look.through ⟨ga,gb,gc⟩ S=T.tell 1 (q23z ⟨ga,gb,gc⟩ 1).1):=by
       show _=_
       rw[HThru.out,if_neg (fun h=>hk2 (HKd.out.symm.trans h))]
      have hat2:=cat_any HL12.out.look 1
      unfold pt at hat2
      obtain⟨a,ha⟩:=zx ((q23z ⟨ga,gb,gc⟩ 1).1)
      have HA:=zh ha
      rw[ha] at hat2
      have HAT2:=zh hat2
      clear hat2
      clear hk2 ha
      go_wp2_with fail
      refine HAT2.out.mono ?_
      rintro e w13 ⟨rfl,hb13⟩
      have HB13:=zh hb13
      have htl:=q73z (HL12.out.look.below hb13) 1 a
      unfold pt at htl
      have HTL:=zh htl
      clear htl
      clear hb13 c4 y0 hnode
      go_wp2_with fail
      refine HTL.out.mono ?_
      rintro e w14 ⟨rfl,hto14⟩
      have HE:=zh (HEnd.out w14 _ _ (q8z.ahead HB13.out hto14) (by rw[HU.out,HA.out]))
      clear hto14
      go_wp2
      go_ret
      exact HE.out
end
