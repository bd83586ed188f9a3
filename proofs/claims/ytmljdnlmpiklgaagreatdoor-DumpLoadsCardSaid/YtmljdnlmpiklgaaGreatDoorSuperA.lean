import Derived.Test.YtmljdnlmpiklgaaGreatDoorShelf
import Derived.Test.YtmljdnlmpiklgaaGreatDoorGeomA
import Derived.Handy
set_option maxRecDepth 20000
set_option maxHeartbeats 4000000
namespace Go.Proofs.YtmljdnlmpiklgaaGreatDoor
open Go Go.RowKit Txt Sp
theorem repeat_zero:∀n,Lib.repeatL [0] n=zeros n
 | 0=>rfl
 | n+1=>by
   have:=repeat_zero n
   unfold zeros at this ⊢
   rw[List.replicate_succ,←this]
   rfl
theorem repeat_zeros (n:Nat):(⟨(Lib.repeatL (⟨#[0]⟩:ByteArray).data.toList n).toArray⟩:ByteArray)=ofL (zeros n):=by
 show ofL (Lib.repeatL [0] n)=_
 rw[repeat_zero]
theorem pad_append (s:ByteArray):s ++ ofL (zeros (64-s.size))=ofL (padL s.data.toList):=by
 apply Txt.ext
 rw[ofL_data]
 unfold padL
 have h:s.data.toList.length=s.size:=Array.length_toList
 rw[h]
 simp[ofL]
theorem ret_s {a b:ByteArray} (h:a=b):Ending.returned (.string a) = .returned (.string b):=by rw[h]
theorem byteB_nat {n:Int} (h0:0≤n) (h1:n≤255):((byteB n).toNat:Int)=n:=by
 unfold byteB
 rw[UInt8.toNat_ofNat']
 omega
theorem bytes_text {w:World} {src dst e:TypeId} (hs:Tryz.prog.underlying src=some (.slice e)) (he:Tryz.prog.underlying e=some (.int .u8)) (hd:Tryz.prog.underlying dst=some .string) {n:Nat} {cs:Array Value} {t:TypeId} {fr:Nat×Nat} {l:List UInt8} (h:w.heap[n]? = some (.cells cs t fr)) (hc:∀j (hj:j<l.length),cs[j]? = some (.int .u8 (l[j].toNat:Int))) (cap:Nat) :
 (convert src dst (.slice (some ⟨n,0,none⟩) l.length cap)).run Tryz.prog w = .ok (.string (ofL l)) w:=
 run_convert_bytes_back w src dst e ⟨n,0,none⟩ cap l hs he hd (fun j hj=>by
  have hadd:(⟨n,0,none⟩:Addr).add j=⟨n,j,none⟩:=by unfold Addr.add; split <;> simp_all
  rw[hadd]
  exact cellOf h (hc j hj))
theorem three_bytes {w:World} {a b c:Int} (ha:0≤a∧a≤255) (hb:0≤b∧b≤255) (hc:0≤c∧c≤255) :
 (convert 36 9 (.slice (some ⟨w.heap.size,0,none⟩) 3 3)).run Tryz.prog (w.alloc (.cells #[.int .u8 a,.int .u8 b,.int .u8 c] 5)) = .ok (.string (ofL [byteB a,byteB b,byteB c])) (w.alloc (.cells #[.int .u8 a,.int .u8 b,.int .u8 c] 5)):=
 bytes_text (l:=[byteB a,byteB b,byteB c]) Tryz.underlying36 Tryz.underlying5 Tryz.underlying9 (heapNew w _) (fun j hj=>by
  match j,hj with
  | 0,_=>show some (Value.int .u8 a)=some (.int .u8 ((byteB a).toNat:Int)); rw[byteB_nat ha.1 ha.2]
  | 1,_=>show some (Value.int .u8 b)=some (.int .u8 ((byteB b).toNat:Int)); rw[byteB_nat hb.1 hb.2]
  | 2,_=>show some (Value.int .u8 c)=some (.int .u8 ((byteB c).toNat:Int)); rw[byteB_nat hc.1 hc.2]) 3
theorem text_cat (a b:List UInt8):(ofL a) ++ (ofL b)=ofL (a ++ b):=by
 apply Txt.ext
 rw[ofL_data]
 simp[ofL]
section
theorem fblank_any (w:World):Calls Tryz.prog 31 #[] w fun e w'=>e = .returned (.string Sp.blank)∧Below w.heap.size w w':=by
 have h:=Tryz.strings_Repeat ⟨#[0]⟩ 64 w (by decide) (by decide)
 rw[repeat_zeros] at h
 have HR:=zh h
 clear h
 go_enter Tryz.func31,Tryz.ntmps31
 go_wp2_with fail
 refine HR.out.mono ?_
 rintro e w1 ⟨rfl,hb⟩
 have HB:=zh hb
 clear hb
 go_wp2
 go_ret
 exact⟨rfl,HB.out⟩
theorem spadded_any (w:World) (s:ByteArray) (hs:s.size≤64):Calls Tryz.prog 67 #[.string s] w fun e w'=>e = .returned (.string (ofL (padL s.data.toList)))∧Below w.heap.size w w':=by
 have h:=Tryz.strings_Repeat ⟨#[0]⟩ (64-s.size) w (by omega) (by show 1*(64-s.size)≤_; omega)
 rw[repeat_zeros] at h
 have e1:((64-s.size:Nat):Int)=64-(s.size:Int):=by omega
 rw[e1] at h
 have hp:=pad_append s
 have hz:(ofL (zeros (64-s.size))).size≤64:=by
  show(zeros (64-s.size)).toArray.size≤64
  rw[List.size_toArray,zeros_length]
  omega
 obtain⟨Z,hZ⟩:=zx (ofL (zeros (64-s.size)))
 rw[hZ] at h hp hz
 have HR:=zh h
 have HP:=zh hp
 clear h e1 hp hZ
 go_enter Tryz.func67,Tryz.ntmps67
 go_wp2_with fail
 refine HR.out.mono ?_
 rintro e w1 ⟨rfl,hb⟩
 have HB:=zh hb
 clear hb
 go_wp2
 go_ret
 exact⟨ret_s HP.out,HB.out⟩
theorem sencode_any (w:World) (g:Sp.Geom):Calls Tryz.prog 32 #[gV g] w fun e w'=>e = .returned (.tuple #[.string (if g.ok then superB g else ofL []),.int .i64 g.check])∧Below w.heap.size w w':=by
 have hc:=fun W:World=>gcheck_any W g
 by_cases hg:g.ok
 ·rw[if_pos hg,Geom.check_ok hg]
  rw[Geom.check_ok hg] at hc
  have hp:=fun(W:World)=>spadded_any W (ofL ([67,85,84,87] ++ [byteB g.groups,byteB g.inodes,byteB g.blocks])) (by show(7:Nat)≤64; decide)
  have hg1:1≤g.groups∧g.groups≤4:=⟨hg.1,hg.2.1⟩
  have hg2:1≤g.inodes∧g.inodes≤32:=⟨hg.2.2.1,hg.2.2.2.1⟩
  have hg3:1≤g.blocks∧g.blocks≤64:=⟨hg.2.2.2.2.1,hg.2.2.2.2.2⟩
  obtain⟨ga,gb,gc⟩:=g
  unfold gV at hc ⊢
  simp only at hg1 hg2 hg3 hp
  have hcv:=fun W:World=>three_bytes (w:=W) (a:=ga) (b:=gb) (c:=gc) ⟨by omega,by omega⟩ ⟨by omega,by omega⟩ ⟨by omega,by omega⟩
  have hcat:=text_cat [67,85,84,87] [byteB ga,byteB gb,byteB gc]
  have hS:superB ⟨ga,gb,gc⟩=ofL (padL (ofL ([67,85,84,87] ++ [byteB ga,byteB gb,byteB gc])).data.toList):=by rw[ofL_data]; rfl
  have hsz:(ofL [byteB ga,byteB gb,byteB gc]).size≤3:=Nat.le_refl 3
  obtain⟨B,hB⟩:=zx (ofL [byteB ga,byteB gb,byteB gc])
  obtain⟨T,hT⟩:=zx (ofL ([67,85,84,87] ++ [byteB ga,byteB gb,byteB gc]))
  rw[hB] at hcv hcat hsz
  rw[hT] at hcat hS hp
  change (⟨#[67,85,84,87]⟩:ByteArray) ++ B=T at hcat
  rw[hS]
  have HC:=zh hc
  have HP:=zh hp
  clear hc hp hg hB hT hS
  go_enter Tryz.func32,Tryz.ntmps32
  go_wp2_with fail
  refine(HC.out _).mono ?_
  rintro e w1 ⟨rfl,hb⟩
  obtain⟨z0,z1,z2⟩:=g_cells hb
  have HB:=zh (blN (bl2 _) hb)
  clear hb
  go_wp2_with fail
  refine(HP.out _).mono ?_
  rintro e w2 ⟨rfl,hb2⟩
  have HB2:=zh (blN (bl1 HB.out _) hb2)
  clear hb2
  go_wp2
  go_ret2
  exact⟨rfl,HB2.out⟩
 ·rw[if_neg hg,Geom.check_no hg]
  rw[Geom.check_no hg] at hc
  obtain⟨ga,gb,gc⟩:=g
  unfold gV at hc ⊢
  have HC:=zh hc
  clear hg hc
  go_enter Tryz.func32,Tryz.ntmps32
  go_wp2_with fail
  refine(HC.out _).mono ?_
  rintro e w1 ⟨rfl,hb⟩
  have HB:=zh (blN (bl2 _) hb)
  clear hb
  go_wp2
  go_ret2
  exact⟨rfl,HB.out⟩
end
theorem text_lit (w:World) {s:ByteArray} {n:Nat} (h:n<s.size):(Instr.index 9 (.string s) (.int .i64 (n:Int))).run Tryz.prog w = .ok (.int .u8 (s[n].toNat:Int)) w:=by
 rw[run_index_string w _ s _ _ Tryz.underlying9,dif_pos ⟨by omega,by omega⟩]
 rfl
theorem byteAt_get {s:ByteArray} {n:Nat} (h:n<s.size):byteAt s n=(s[n].toNat:Int):=by
 unfold byteAt
 have hl:n<s.data.toList.length:=by rw[Array.length_toList]; exact h
 rw[List.getD_eq_getElem?_getD,List.getElem?_eq_getElem hl]
 rfl
theorem superB_size (g:Sp.Geom):(superB g).size=64:=by
 unfold superB padL
 show(List.toArray _).size=64
 rw[List.size_toArray,List.length_append,zeros_length]
 rfl
theorem list_eq (a b:ByteArray):(a.toList == b.toList)=decide (a=b):=by
 rw[Bool.eq_iff_iff,beq_iff_eq,decide_eq_true_iff,Lib.toList_data,Lib.toList_data]
 exact⟨fun h=>Txt.ext h,fun h=>by rw[h]⟩
def superG (s:ByteArray):Sp.Geom:=if isSuper s then superOf s else⟨0,0,0⟩
def superC (s:ByteArray):Int:=if isSuper s then 0 else 40
def DecodedG (s:ByteArray) (w:World) (e:Ending) (w':World):Prop:=e = .returned (.tuple #[gV (superG s),.int .i64 (superC s)])∧Below w.heap.size w w'
theorem decoded_no {s:ByteArray} {w w':World} (h:¬isSuper s) (hb:Below w.heap.size w w'):DecodedG s w (.returned (.tuple #[.agg #[.int .i64 0,.int .i64 0,.int .i64 0],.int .i64 40])) w':=by
 refine⟨?_,hb⟩
 unfold superG superC
 rw[if_neg h,if_neg h]
 rfl
def DecCut (w:World) (a b c:Int) (v:Value) (wx:World):Prop:=v = .pointer (some ⟨w.heap.size+1,0,none⟩)∧wx=((w.alloc (.cells #[.int .i64 0,.int .i64 0,.int .i64 0] 23)).alloc (.cells #[.int .i64 a,.int .i64 b,.int .i64 c] 23)).drew
theorem two_boxes {w W:World} {z x:Obj} (h:((w.alloc z).alloc x).drew=W):Below w.heap.size w W∧W.heap[w.heap.size]? = some z∧W.heap[w.heap.size+1]? = some x:=by
 subst h
 have h0:Below w.heap.size w ((w.alloc z).alloc x):=bl1 (bl2 z) x
 have hs:(w.alloc z).heap.size=w.heap.size+1:=by simp
 have h2:=heapNew (w.alloc z) x
 rw[hs] at h2
 exact⟨below_drewN h0 1,heapOld (bl2 (w:=w.alloc z) x) (heapNew w z),h2⟩
theorem freeOf {w:World} {b k:Nat} {cs:Array Value} {e:TypeId} (h:w.heap[b]? = some (.cells cs e (0,0))):w.frozen? ⟨b,k,none⟩=false:=by
 simp[World.frozen?,h]
theorem below_three {m n:Nat} {w w':World} (h:Below m w w') (hn:m≤n) (a b c:Value):Below m w (((w'.setCell ⟨n,0,none⟩ a).setCell ⟨n,1,none⟩ b).setCell ⟨n,2,none⟩ c):=
 ((h.setCell hn a).setCell hn b).setCell hn c
theorem decoded_yes {s:ByteArray} {a b c:Int} {w w':World} (h:isSuper s) (hg:superOf s=⟨a,b,c⟩) (hb:Below w.heap.size w w'):DecodedG s w (.returned (.tuple #[.agg #[.int .i64 a,.int .i64 b,.int .i64 c],.int .i64 0])) w':=by
 refine⟨?_,hb⟩
 unfold superG superC
 rw[if_pos h,if_pos h,hg]
 rfl
section
theorem sdecode_any (w:World) (s:ByteArray):Calls Tryz.prog 90 #[.string s] w (DecodedG s w):=by
 by_cases hlen:s.size<7
 ·have HNo:Hid (¬isSuper s):=fun h=>by have:=h.1; omega
  go_enter Tryz.func90,Tryz.ntmps90
  go_wp2
  refine bodyPost_ret (v:=.tuple #[.agg #[.int .i64 0,.int .i64 0,.int .i64 0],.int .i64 40]) (by simp[results,Tryz.results90,go_sem]) rfl ?_
  exact decoded_no HNo.out (bl2 _)
 have h4:4<s.size:=by omega
 have h5:5<s.size:=by omega
 have h6:6<s.size:=by omega
 have hx4:∀W:World,(Instr.index 9 (.string s) (.int .i64 4)).run Tryz.prog W = .ok (.int .u8 (s[4].toNat:Int)) W:=fun W=>text_lit W h4
 have hx5:∀W:World,(Instr.index 9 (.string s) (.int .i64 5)).run Tryz.prog W = .ok (.int .u8 (s[5].toNat:Int)) W:=fun W=>text_lit W h5
 have hx6:∀W:World,(Instr.index 9 (.string s) (.int .i64 6)).run Tryz.prog W = .ok (.int .u8 (s[6].toNat:Int)) W:=fun W=>text_lit W h6
 have b4:(s[4].toNat:Int)<256:=by have:=UInt8.toNat_lt s[4]; omega
 have b5:(s[5].toNat:Int)<256:=by have:=UInt8.toNat_lt s[5]; omega
 have b6:(s[6].toNat:Int)<256:=by have:=UInt8.toNat_lt s[6]; omega
 have c4:0≤(s[4].toNat:Int):=by omega
 have c5:0≤(s[5].toNat:Int):=by omega
 have c6:0≤(s[6].toNat:Int):=by omega
 have hg:superOf s=⟨(s[4].toNat:Int),(s[5].toNat:Int),(s[6].toNat:Int)⟩:=by
  unfold superOf
  rw[byteAt_get h4,byteAt_get h5,byteAt_get h6]
 obtain⟨x4,y4⟩:=zx ((s[4].toNat:Int))
 obtain⟨x5,y5⟩:=zx ((s[5].toNat:Int))
 obtain⟨x6,y6⟩:=zx ((s[6].toNat:Int))
 rw[y4] at hx4 b4 c4 hg
 rw[y5] at hx5 b5 c5 hg
 rw[y6] at hx6 b6 c6 hg
 clear y4 y5 y6 h4 h5 h6
 have e4:IntKind.i64.wrap x4=x4:=IntWalk.i64_in _ (by omega)
 have e5:IntKind.i64.wrap x5=x5:=IntWalk.i64_in _ (by omega)
 have e6:IntKind.i64.wrap x6=x6:=IntWalk.i64_in _ (by omega)
 have HG:=zh hg
 have HEn:Hid (∀W:World,Calls Tryz.prog 32 #[.agg #[.int .i64 x4,.int .i64 x5,.int .i64 x6]] W fun e w'=>e = .returned (.tuple #[.string (if(superOf s).ok then superB (superOf s) else ofL []),.int .i64 (superOf s).check])∧Below W.heap.size W w'):=fun W=>by
  have h:=sencode_any W (superOf s)
  rw[hg] at h ⊢
  exact h
 clear hg
 go_enter Tryz.func90,Tryz.ntmps90
 go_upto_region 3 with fail
 go_cut [4] (fun v wx=>DecCut w x4 x5 x6 v wx)
 case first=>
  go_region
  all_goals
   go_wp2
   go_meet
   case rel=>exact⟨rfl,rfl⟩
 case rest=>
 obtain⟨rfl,hwc⟩:=hcut
 obtain⟨hb0,hz0,hz1⟩:=two_boxes hwc.symm
 have HB0:=zh hb0
 have HZ0:=zh hz0
 have HZ1:=zh hz1
 have k0:=zc 0 hz1
 have k1:=zc 1 hz1
 have k2:=zc 2 hz1
 clear hwc hb0 hz0 hz1 hx4 hx5 hx6
 obtain⟨T,cc,HT,HCase⟩:∃(T:ByteArray) (cc:Int),Hid (∀W:World,Calls Tryz.prog 32 #[.agg #[.int .i64 x4,.int .i64 x5,.int .i64 x6]] W fun e w'=>e = .returned (.tuple #[.string T,.int .i64 cc])∧Below W.heap.size W w')∧Hid ((cc=0∧T=s∧isSuper s)∨(cc=0∧T≠s∧¬isSuper s)∨(cc≠0∧¬isSuper s)):=by
  refine⟨_,_,HEn,?_⟩
  show _∨_
  by_cases hok:(superOf s).ok
  ·rw[if_pos hok,Geom.check_ok hok]
   by_cases hT:superB (superOf s)=s
   ·exact Or.inl ⟨rfl,hT,by rw[←hT]; exact superB_size _,hok,hT⟩
   ·exact Or.inr (Or.inl ⟨rfl,hT,fun h=>hT h.2.2⟩)
  ·rw[Geom.check_no hok]
   exact Or.inr (Or.inr ⟨by decide,fun h=>hok h.2.1⟩)
 clear HEn
 go_wp2_with fail
 clear k0 k1 k2
 refine(HT.out _).mono ?_
 rintro e w1 ⟨rfl,hb1⟩
 have HB1:=zh (blN HB0.out hb1)
 have hz0:=heapOld hb1 HZ0.out
 have hz1:=heapOld hb1 HZ1.out
 have k0:=zc 0 hz1
 have k1:=zc 1 hz1
 have k2:=zc 2 hz1
 have y0:=zc 0 hz0
 have y1:=zc 1 hz0
 have y2:=zc 2 hz0
 have v0:w1.frozen? ⟨w.heap.size,0,none⟩=false:=freeOf hz0
 have v1:w1.frozen? ⟨w.heap.size,1,none⟩=false:=freeOf hz0
 have v2:w1.frozen? ⟨w.heap.size,2,none⟩=false:=freeOf hz0
 clear hz0 hz1 hb1
 have q:=list_eq T s
 rcases HCase.out with ⟨hc,hT,hs⟩ | ⟨hc,hT,hs⟩ | ⟨hc,hs⟩
 ·have HY:=zh hs
  have f:(T.toList == s.toList)=true:=q.trans (decide_eq_true hT)
  subst hc
  clear hT hs q HCase
  go_wp2
  refine bodyPost_ret (v:=.tuple #[.agg #[.int .i64 x4,.int .i64 x5,.int .i64 x6],.int .i64 0]) (by simp[results,Tryz.results90,go_sem,y0,y1,y2]) rfl ?_
  exact decoded_yes HY.out HG.out (below_three HB1.out (Nat.le_refl _) _ _ _)
 ·have HNo:=zh hs
  have f:(T.toList == s.toList)=false:=q.trans (decide_eq_false hT)
  subst hc
  clear hT hs q HCase
  go_wp2
  refine bodyPost_ret (v:=.tuple #[.agg #[.int .i64 0,.int .i64 0,.int .i64 0],.int .i64 40]) (by simp[results,Tryz.results90,go_sem,y0,y1,y2]) rfl ?_
  exact decoded_no HNo.out (below_three HB1.out (Nat.le_refl _) _ _ _)
 ·have HNo:=zh hs
  have f:(cc == 0)=false:=beq_eq_false_iff_ne.2 hc
  have f2:(cc != 0)=true:=by simp[hc]
  clear hc hs q HCase
  go_wp2
  refine bodyPost_ret (v:=.tuple #[.agg #[.int .i64 0,.int .i64 0,.int .i64 0],.int .i64 40]) (by simp[results,Tryz.results90,go_sem,y0,y1,y2]) rfl ?_
  exact decoded_no HNo.out (below_three HB1.out (Nat.le_refl _) _ _ _)
end
theorem of_mod (m:Nat):((UInt8.ofNat (m % 256)).toNat:Int)=((m % 256:Nat):Int):=by
 rw[UInt8.toNat_ofNat']
 omega
theorem put_cells1 {n:Int} (h0:0≤n) (h1:n<256):∀j (hj:j<(textL 1 n.toNat).length),(#[.int .u8 n]:Array Value)[j]? = some (.int .u8 ((textL 1 n.toNat)[j].toNat:Int)):=by
 intro j hj
 rw[textL_length] at hj
 match j,hj with
 | 0,_=>
   show some (Value.int .u8 (n))=some (.int .u8 ((UInt8.ofNat (n.toNat % 256)).toNat:Int))
   rw[of_mod,show(((n.toNat % 256:Nat):Int))=n by omega]
section
theorem fput1_any (w:World) (off n:Int) (h0:0≤off) (h1:off≤63) (hn:0≤n) (hn4:n<256):Calls Tryz.prog 120 #[.int .i64 off,.int .i64 1,.int .i64 n] w fun e w'=>e = .returned (.tuple #[.agg #[.int .i64 off,.string (putB 1 n)],.int .i64 0])∧Below w.heap.size w w':=by
 have HW:=fun W:World=>fwide_any W 1
 have HI:=fun W:World=>finside_any W off 1
 rw[decide_eq_true (by decide)] at HW
 rw[decide_eq_true (show inside off 1 from⟨h0,by decide,by decide,by omega⟩)] at HI
 have HW2:=zh HW
 have HI2:=zh HI
 have hcv:(convert 36 9 (.slice (some ⟨w.heap.size+1,0,none⟩) 1 1)).run Tryz.prog ((w.alloc (.cells #[.int .i64 0,.string ⟨#[]⟩] 99)).alloc (.cells #[.int .u8 n] 5)) = .ok (.string (putB 1 n)) ((w.alloc (.cells #[.int .i64 0,.string ⟨#[]⟩] 99)).alloc (.cells #[.int .u8 n] 5)):=by
  have h:=bytes_text (l:=textL 1 n.toNat) Tryz.underlying36 Tryz.underlying5 Tryz.underlying9 (heapNew (w.alloc (.cells #[.int .i64 0,.string ⟨#[]⟩] 99)) (.cells #[.int .u8 n] 5)) (put_cells1 hn hn4) 1
  rw[textL_length] at h
  have hs:(w.alloc (.cells #[.int .i64 0,.string ⟨#[]⟩] 99)).heap.size=w.heap.size+1:=by simp
  rw[hs] at h
  exact h
 obtain⟨S,hS⟩:=zx (putB 1 n)
 rw[hS] at hcv ⊢
 clear HW HI hS
 have hmk:∀W:World,(Instr.makeSlice 36 (.int .i64 1) (.int .i64 1)).run Tryz.prog W = .ok (.slice (some ⟨W.heap.size,0,none⟩) 1 1) (W.alloc (.cells #[.int .u8 0] 5)):=fun W=>by kernel_rfl
 go_enter Tryz.func120,Tryz.ntmps120
 go_wp2_with fail
 refine(HW2.out _).mono ?_
 rintro e w1 ⟨rfl,rfl⟩
 go_wp2_with fail
 refine(HI2.out _).mono ?_
 rintro e w1 ⟨rfl,rfl⟩
 go_wp2
 go_rounds 2
 refine bodyPost_ret (v:=.tuple #[.agg #[.int .i64 off,.string S],.int .i64 0]) (by simp[results,Tryz.results120,go_sem]) rfl ⟨rfl,?_⟩
 first | exact bl1 (bl2 _) _ | exact((bl1 (bl2 _) _).setCell (by simp) _).setCell (by simp) _
end
theorem put_cells2 {n:Int} (h0:0≤n) (h1:n<65536):∀j (hj:j<(textL 2 n.toNat).length),(#[.int .u8 (n % 256),.int .u8 (n / 256)]:Array Value)[j]? = some (.int .u8 ((textL 2 n.toNat)[j].toNat:Int)):=by
 intro j hj
 rw[textL_length] at hj
 match j,hj with
 | 0,_=>
   show some (Value.int .u8 (n % 256))=some (.int .u8 ((UInt8.ofNat (n.toNat % 256)).toNat:Int))
   rw[of_mod,show(((n.toNat % 256:Nat):Int))=n % 256 by omega]
 | 1,_=>
   show some (Value.int .u8 (n / 256))=some (.int .u8 ((UInt8.ofNat (n.toNat / 256 % 256)).toNat:Int))
   rw[of_mod,show(((n.toNat / 256 % 256:Nat):Int))=n / 256 by omega]
section
theorem fput2_any (w:World) (off n:Int) (h0:0≤off) (h1:off≤62) (hn:0≤n) (hn4:n<65536):Calls Tryz.prog 120 #[.int .i64 off,.int .i64 2,.int .i64 n] w fun e w'=>e = .returned (.tuple #[.agg #[.int .i64 off,.string (putB 2 n)],.int .i64 0])∧Below w.heap.size w w':=by
 have HW:=fun W:World=>fwide_any W 2
 have HI:=fun W:World=>finside_any W off 2
 rw[decide_eq_true (by decide)] at HW
 rw[decide_eq_true (show inside off 2 from⟨h0,by decide,by decide,by omega⟩)] at HI
 have HW2:=zh HW
 have HI2:=zh HI
 have hcv:(convert 36 9 (.slice (some ⟨w.heap.size+1,0,none⟩) 2 2)).run Tryz.prog ((w.alloc (.cells #[.int .i64 0,.string ⟨#[]⟩] 99)).alloc (.cells #[.int .u8 (n % 256),.int .u8 (n / 256)] 5)) = .ok (.string (putB 2 n)) ((w.alloc (.cells #[.int .i64 0,.string ⟨#[]⟩] 99)).alloc (.cells #[.int .u8 (n % 256),.int .u8 (n / 256)] 5)):=by
  have h:=bytes_text (l:=textL 2 n.toNat) Tryz.underlying36 Tryz.underlying5 Tryz.underlying9 (heapNew (w.alloc (.cells #[.int .i64 0,.string ⟨#[]⟩] 99)) (.cells #[.int .u8 (n % 256),.int .u8 (n / 256)] 5)) (put_cells2 hn hn4) 2
  rw[textL_length] at h
  have hs:(w.alloc (.cells #[.int .i64 0,.string ⟨#[]⟩] 99)).heap.size=w.heap.size+1:=by simp
  rw[hs] at h
  exact h
 obtain⟨S,hS⟩:=zx (putB 2 n)
 rw[hS] at hcv ⊢
 clear HW HI hS
 have hmk:∀W:World,(Instr.makeSlice 36 (.int .i64 2) (.int .i64 2)).run Tryz.prog W = .ok (.slice (some ⟨W.heap.size,0,none⟩) 2 2) (W.alloc (.cells #[.int .u8 0,.int .u8 0] 5)):=fun W=>by kernel_rfl
 go_enter Tryz.func120,Tryz.ntmps120
 go_wp2_with fail
 refine(HW2.out _).mono ?_
 rintro e w1 ⟨rfl,rfl⟩
 go_wp2_with fail
 refine(HI2.out _).mono ?_
 rintro e w1 ⟨rfl,rfl⟩
 go_wp2
 go_rounds 3
 refine bodyPost_ret (v:=.tuple #[.agg #[.int .i64 off,.string S],.int .i64 0]) (by simp[results,Tryz.results120,go_sem]) rfl ⟨rfl,?_⟩
 first | exact bl1 (bl2 _) _ | exact((bl1 (bl2 _) _).setCell (by simp) _).setCell (by simp) _
end
theorem put_cells4 {n:Int} (h0:0≤n) (h1:n<4294967296):∀j (hj:j<(textL 4 n.toNat).length),(#[.int .u8 (n % 256),.int .u8 (n / 256 % 256),.int .u8 (n / 65536 % 256),.int .u8 (n / 16777216)]:Array Value)[j]? = some (.int .u8 ((textL 4 n.toNat)[j].toNat:Int)):=by
 intro j hj
 rw[textL_length] at hj
 match j,hj with
 | 0,_=>
   show some (Value.int .u8 (n % 256))=some (.int .u8 ((UInt8.ofNat (n.toNat % 256)).toNat:Int))
   rw[of_mod,show(((n.toNat % 256:Nat):Int))=n % 256 by omega]
 | 1,_=>
   show some (Value.int .u8 (n / 256 % 256))=some (.int .u8 ((UInt8.ofNat (n.toNat / 256 % 256)).toNat:Int))
   rw[of_mod,show(((n.toNat / 256 % 256:Nat):Int))=n / 256 % 256 by omega]
 | 2,_=>
   show some (Value.int .u8 (n / 65536 % 256))=some (.int .u8 ((UInt8.ofNat (n.toNat / 256 / 256 % 256)).toNat:Int))
   rw[of_mod,show(((n.toNat / 256 / 256 % 256:Nat):Int))=n / 65536 % 256 by omega]
 | 3,_=>
   show some (Value.int .u8 (n / 16777216))=some (.int .u8 ((UInt8.ofNat (n.toNat / 256 / 256 / 256 % 256)).toNat:Int))
   rw[of_mod,show(((n.toNat / 256 / 256 / 256 % 256:Nat):Int))=n / 16777216 by omega]
section
theorem fput4_any (w:World) (off n:Int) (h0:0≤off) (h1:off≤60) (hn:0≤n) (hn4:n<4294967296):Calls Tryz.prog 120 #[.int .i64 off,.int .i64 4,.int .i64 n] w fun e w'=>e = .returned (.tuple #[.agg #[.int .i64 off,.string (putB 4 n)],.int .i64 0])∧Below w.heap.size w w':=by
 have HW:=fun W:World=>fwide_any W 4
 have HI:=fun W:World=>finside_any W off 4
 rw[decide_eq_true (by decide)] at HW
 rw[decide_eq_true (show inside off 4 from⟨h0,by decide,by decide,by omega⟩)] at HI
 have HW2:=zh HW
 have HI2:=zh HI
 have hcv:(convert 36 9 (.slice (some ⟨w.heap.size+1,0,none⟩) 4 4)).run Tryz.prog ((w.alloc (.cells #[.int .i64 0,.string ⟨#[]⟩] 99)).alloc (.cells #[.int .u8 (n % 256),.int .u8 (n / 256 % 256),.int .u8 (n / 65536 % 256),.int .u8 (n / 16777216)] 5)) = .ok (.string (putB 4 n)) ((w.alloc (.cells #[.int .i64 0,.string ⟨#[]⟩] 99)).alloc (.cells #[.int .u8 (n % 256),.int .u8 (n / 256 % 256),.int .u8 (n / 65536 % 256),.int .u8 (n / 16777216)] 5)):=by
  have h:=bytes_text (l:=textL 4 n.toNat) Tryz.underlying36 Tryz.underlying5 Tryz.underlying9 (heapNew (w.alloc (.cells #[.int .i64 0,.string ⟨#[]⟩] 99)) (.cells #[.int .u8 (n % 256),.int .u8 (n / 256 % 256),.int .u8 (n / 65536 % 256),.int .u8 (n / 16777216)] 5)) (put_cells4 hn hn4) 4
  rw[textL_length] at h
  have hs:(w.alloc (.cells #[.int .i64 0,.string ⟨#[]⟩] 99)).heap.size=w.heap.size+1:=by simp
  rw[hs] at h
  exact h
 obtain⟨S,hS⟩:=zx (putB 4 n)
 rw[hS] at hcv ⊢
 clear HW HI hS
 have hmk:∀W:World,(Instr.makeSlice 36 (.int .i64 4) (.int .i64 4)).run Tryz.prog W = .ok (.slice (some ⟨W.heap.size,0,none⟩) 4 4) (W.alloc (.cells #[.int .u8 0,.int .u8 0,.int .u8 0,.int .u8 0] 5)):=fun W=>by kernel_rfl
 go_enter Tryz.func120,Tryz.ntmps120
 go_wp2_with fail
 refine(HW2.out _).mono ?_
 rintro e w1 ⟨rfl,rfl⟩
 go_wp2_with fail
 refine(HI2.out _).mono ?_
 rintro e w1 ⟨rfl,rfl⟩
 go_wp2
 go_rounds 5
 refine bodyPost_ret (v:=.tuple #[.agg #[.int .i64 off,.string S],.int .i64 0]) (by simp[results,Tryz.results120,go_sem]) rfl ⟨rfl,?_⟩
 first | exact bl1 (bl2 _) _ | exact((bl1 (bl2 _) _).setCell (by simp) _).setCell (by simp) _
end
theorem putB_size (k:Nat) (n:Int):(putB (k:Int) n).size=k:=by
 unfold putB
 show(List.toArray _).size=k
 rw[List.size_toArray,textL_length]
 rfl
section
theorem swall_any (w:World) (a b:Nat) (ha:a<4294967296) (hb:b<4294967296):Calls Tryz.prog 69 #[.agg #[.int .i64 a,.int .i64 b]] w fun e w'=>e = .returned (.string (wallB a b))∧Below w.heap.size w w':=by
 have h1:=fun W:World=>fput4_any W 0 (a:Int) (by decide) (by decide) (by omega) (by omega)
 have h2:=fun W:World=>fput4_any W 0 (b:Int) (by decide) (by decide) (by omega) (by omega)
 have hc1:=text_cat [70,69,78,67] (textL 4 a)
 have hc2:=text_cat ([70,69,78,67] ++ textL 4 a) (textL 4 b)
 have hz1:(putB 4 (a:Int)).size≤4:=Nat.le_of_eq (putB_size 4 a)
 have hz2:(putB 4 (b:Int)).size≤4:=Nat.le_of_eq (putB_size 4 b)
 have hl:∀l:List UInt8,(ofL l).size=l.length:=fun l=>by show(List.toArray l).size=_; rw[List.size_toArray]
 have hz3:(ofL ([70,69,78,67] ++ textL 4 a)).size≤8:=by rw[hl,List.length_append,textL_length]; decide
 have hz4:(ofL ([70,69,78,67] ++ textL 4 a ++ textL 4 b)).size≤64:=by rw[hl,List.length_append,List.length_append,textL_length,textL_length]; decide
 have hp:=fun W:World=>spadded_any W (ofL ([70,69,78,67] ++ textL 4 a ++ textL 4 b)) hz4
 rw[ofL_data] at hp
 change ∀W:World,Calls Tryz.prog 67 #[.string (ofL ([70,69,78,67] ++ textL 4 a ++ textL 4 b))] W fun e w'=>e = .returned (.string (wallB a b))∧Below W.heap.size W w' at hp
 have e1:ofL (textL 4 a)=putB 4 (a:Int):=rfl
 have e2:ofL (textL 4 b)=putB 4 (b:Int):=rfl
 rw[e1] at hc1
 rw[e2] at hc2
 obtain⟨S1,hS1⟩:=zx (putB 4 (a:Int))
 obtain⟨S2,hS2⟩:=zx (putB 4 (b:Int))
 obtain⟨T1,hT1⟩:=zx (ofL ([70,69,78,67] ++ textL 4 a))
 obtain⟨T2,hT2⟩:=zx (ofL ([70,69,78,67] ++ textL 4 a ++ textL 4 b))
 obtain⟨R,hR⟩:=zx (wallB a b)
 rw[hS1] at h1 hc1 hz1
 rw[hS2] at h2 hc2 hz2
 rw[hT1] at hc1 hc2 hz3
 rw[hT2] at hc2 hp
 rw[hR] at hp ⊢
 change (⟨#[70,69,78,67]⟩:ByteArray) ++ S1=T1 at hc1
 have H1:=zh h1
 have H2:=zh h2
 have HP:=zh hp
 clear h1 h2 hp hl hz4 e1 e2 hS1 hS2 hT1 hT2 hR
 have i0:∀W:World,(Instr.index 35 (.agg #[.int .i64 (a:Int),.int .i64 (b:Int)]) (.int .i64 0)).run Tryz.prog W = .ok (.int .i64 (a:Int)) W:=fun _=>by kernel_rfl
 have i1:∀W:World,(Instr.index 35 (.agg #[.int .i64 (a:Int),.int .i64 (b:Int)]) (.int .i64 1)).run Tryz.prog W = .ok (.int .i64 (b:Int)) W:=fun _=>by kernel_rfl
 go_enter Tryz.func69,Tryz.ntmps69
 go_wp2
 refine wp_loop_rounds 3 ?_
 rw[rounds_succ]
 go_wp2_with fail
 refine(H1.out _).mono ?_
 rintro e w1 ⟨rfl,hb1⟩
 have HB1:=zh (blN (bl2 _) hb1)
 clear hb1
 go_wp2
 rw[rounds_succ]
 go_wp2_with fail
 refine(H2.out _).mono ?_
 rintro e w2 ⟨rfl,hb2⟩
 have HB2:=zh (blN (bl1 HB1.out _) hb2)
 clear hb2
 go_wp2
 rw[rounds_succ]
 go_wp2_with fail
 refine(HP.out _).mono ?_
 rintro e w3 ⟨rfl,hb3⟩
 have HB3:=zh (blN (bl1 HB2.out _) hb3)
 clear hb3
 go_wp2
 go_ret
 exact⟨rfl,HB3.out⟩
end
theorem numAt_lt (s:ByteArray) (off:Nat):numAt s off 4<4294967296:=by
 unfold numAt
 have h:=numL_lt ((s.data.toList.drop off).take 4)
 have hl:((s.data.toList.drop off).take 4).length≤4:=List.length_take_le _ _
 have h2:256 ^ ((s.data.toList.drop off).take 4).length≤256 ^ 4:=Nat.pow_le_pow_right (by decide) hl
 omega
def EpochsPost (s:ByteArray) (w:World) (e:Ending) (w':World):Prop:=
 e = .returned (.tuple #[.agg #[.int .i64 (if isFence s then(numAt s 4 4:Int) else 0),.int .i64 (if isFence s then(numAt s 8 4:Int) else 0)],.int .i64 (if isFence s then 0 else 40)])∧Below w.heap.size w w'
theorem epochs_no {s:ByteArray} {w w':World} (h:¬isFence s) (hb:Below w.heap.size w w'):EpochsPost s w (.returned (.tuple #[.agg #[.int .i64 0,.int .i64 0],.int .i64 40])) w':=by
 refine⟨?_,hb⟩
 rw[if_neg h,if_neg h,if_neg h]
theorem epochs_yes {s:ByteArray} {a b:Nat} {w w':World} (h:isFence s) (ha:numAt s 4 4=a) (hb2:numAt s 8 4=b) (hb:Below w.heap.size w w'):EpochsPost s w (.returned (.tuple #[.agg #[.int .i64 (a:Int),.int .i64 (b:Int)],.int .i64 0])) w':=by
 refine⟨?_,hb⟩
 rw[if_pos h,if_pos h,if_pos h,ha,hb2]
theorem setHeap_at {w:World} {b k:Nat} {cs:Array Value} {e:TypeId} {fr:Nat×Nat} (h:w.heap[b]? = some (.cells cs e fr)) (v:Value):(w.setCell ⟨b,k,none⟩ v).heap[b]? = some (.cells (cs.setIfInBounds k v) e fr):=by
 simp[World.setCell,Array.getElem?_modify,h]
theorem setHeap_ne {w:World} {b k j:Nat} (v:Value) (h:j≠b):(w.setCell ⟨b,k,none⟩ v).heap[j]? = w.heap[j]?:=Below.heap_setCell _ _ _ _ h
theorem ep_world {w W:World} {x y z z':Value} {t:TypeId} {q1 q2:Nat} (h:((((((w.alloc (.cells #[z,z'] t)).alloc (.cells #[z,z'] t)).drewN q1).setCell ⟨w.heap.size+1,0,none⟩ x).drewN q2).setCell ⟨w.heap.size+1,1,none⟩ y)=W) :
 Below w.heap.size w W∧W.heap[w.heap.size]? = some (.cells #[z,z'] t (0,0))∧W.heap[w.heap.size+1]? = some (.cells #[x,y] t (0,0)):=by
 subst h
 obtain⟨W1,hW1⟩:=zx (((w.alloc (.cells #[z,z'] t)).alloc (.cells #[z,z'] t)).drewN q1)
 have hb0:Below w.heap.size w ((w.alloc (.cells #[z,z'] t)).alloc (.cells #[z,z'] t)):=bl1 (bl2 _) _
 have hs:(w.alloc (.cells #[z,z'] t)).heap.size=w.heap.size+1:=by simp
 have h2:=heapNew (w.alloc (.cells #[z,z'] t)) (.cells #[z,z'] t)
 rw[hs] at h2
 have h1:=heapOld (bl2 (w:=w.alloc (.cells #[z,z'] t)) (.cells #[z,z'] t)) (heapNew w (.cells #[z,z'] t))
 have g1:W1.heap[w.heap.size]? = some (.cells #[z,z'] t (0,0)):=by rw[←hW1]; exact h1
 have g2:W1.heap[w.heap.size+1]? = some (.cells #[z,z'] t (0,0)):=by rw[←hW1]; exact h2
 have hb1:Below w.heap.size w W1:=by rw[←hW1]; exact below_drewN hb0 q1
 rw[hW1]
 have s1:=setHeap_at (k:=0) g2 x
 have s2:((W1.setCell ⟨w.heap.size+1,0,none⟩ x).drewN q2).heap[w.heap.size+1]? = some (.cells #[x,z'] t (0,0)):=s1
 have s3:=setHeap_at (k:=1) s2 y
 refine⟨(below_drewN (hb1.setCell (by simp) _) q2).setCell (by simp) _,?_,s3⟩
 rw[setHeap_ne _ (by simp)]
 show(W1.setCell ⟨w.heap.size+1,0,none⟩ x).heap[w.heap.size]? = _
 rw[setHeap_ne _ (by simp)]
 exact g1
section
theorem sepochs_any (w:World) (s:ByteArray):Calls Tryz.prog 92 #[.string s] w (EpochsPost s w):=by
 by_cases hs:s.size=64
 rotate_left
 ·have HNo:Hid (¬isFence s):=fun h=>hs h.1
  have f:((s.size:Int) == 64)=false:=beq_eq_false_iff_ne.2 (by omega)
  clear hs
  go_enter Tryz.func92,Tryz.ntmps92
  go_wp2
  refine bodyPost_ret (v:=.tuple #[.agg #[.int .i64 0,.int .i64 0],.int .i64 40]) (by simp[results,Tryz.results92,go_sem]) rfl ?_
  exact epochs_no HNo.out (bl2 _)
 have h1:=fun W:World=>fget_draws W s 4 4
 have h2:=fun W:World=>fget_draws W s 8 4
 have c1:getC s 4 4=0:=by
  unfold getC
  rw[if_neg (by simp[hs]),if_pos (by decide)]
 have c2:getC s 8 4=0:=by
  unfold getC
  rw[if_neg (by simp[hs]),if_pos (by decide)]
 have n1:getN s 4 4=(numAt s 4 4:Int):=if_pos c1
 have n2:getN s 8 4=(numAt s 8 4:Int):=if_pos c2
 rw[c1,n1] at h1
 rw[c2,n2] at h2
 have hw:=fun W:World=>swall_any W (numAt s 4 4) (numAt s 8 4) (numAt_lt s 4) (numAt_lt s 8)
 have hf:isFence s↔wallB (numAt s 4 4) (numAt s 8 4)=s:=⟨fun h=>h.2,fun h=>⟨hs,h⟩⟩
 obtain⟨a,ha⟩:=zx (numAt s 4 4)
 obtain⟨b,hb⟩:=zx (numAt s 8 4)
 rw[ha,hb] at hw hf
 rw[ha] at h1
 rw[hb] at h2
 obtain⟨R,hR⟩:=zx (wallB a b)
 rw[hR] at hw hf
 have H1:=zh h1
 have H2:=zh h2
 have HW:=zh hw
 have HF:=zh hf
 have HA:=zh ha
 have HBb:=zh hb
 clear h1 h2 c1 c2 n1 n2 hw hf ha hb hR
 go_enter Tryz.func92,Tryz.ntmps92
 go_wp2
 refine wp_loop_rounds 3 ?_
 rw[rounds_succ]
 go_wp2_with fail
 refine(H1.out _).mono ?_
 rintro e w1 ⟨rfl,q1,rfl⟩
 go_wp2
 rw[rounds_succ]
 go_wp2_with fail
 refine(H2.out _).mono ?_
 rintro e w2 ⟨rfl,q2,rfl⟩
 go_wp2
 rw[rounds_succ]
 go_wp2_with fail
 obtain⟨W5,hW5⟩:=zx (((((((w.alloc (.cells #[.int .i64 0,.int .i64 0] 35)).alloc (.cells #[.int .i64 0,.int .i64 0] 35)).drewN q1).setCell ⟨w.heap.size+1,0,none⟩ (.int .i64 (a:Int))).drewN q2).setCell ⟨w.heap.size+1,1,none⟩ (.int .i64 (b:Int))))
 obtain⟨hb5,hz0,hz1⟩:=ep_world hW5
 rw[hW5]
 have HB5:=zh hb5
 have HZ0:=zh hz0
 have HZ1:=zh hz1
 clear hb5 hz0 hz1 hW5
 refine(HW.out _).mono ?_
 rintro e w6 ⟨rfl,hb6⟩
 have HB6:=zh (blN HB5.out hb6)
 have hz0:=heapOld hb6 HZ0.out
 have hz1:=heapOld hb6 HZ1.out
 have k0:=zc 0 hz1
 have k1:=zc 1 hz1
 have y0:=zc 0 hz0
 have y1:=zc 1 hz0
 have v0:w6.frozen? ⟨w.heap.size,0,none⟩=false:=freeOf hz0
 have v1:w6.frozen? ⟨w.heap.size,1,none⟩=false:=freeOf hz0
 clear hz0 hz1 hb6
 have q:=list_eq R s
 by_cases hR:R=s
 ·have HY:=zh (HF.out.2 hR)
  have f:(R.toList == s.toList)=true:=q.trans (decide_eq_true hR)
  clear q hR
  go_wp2
  refine bodyPost_ret (v:=.tuple #[.agg #[.int .i64 (a:Int),.int .i64 (b:Int)],.int .i64 0]) (by simp[results,Tryz.results92,go_sem,y0,y1]) rfl ?_
  exact epochs_yes HY.out HA.out HBb.out ((HB6.out.setCell (Nat.le_refl _) _).setCell (Nat.le_refl _) _)
 ·have HNo:=zh (fun h=>hR (HF.out.1 h):¬isFence s)
  have f:(R.toList == s.toList)=false:=q.trans (decide_eq_false hR)
  clear q hR
  go_wp2
  refine bodyPost_ret (v:=.tuple #[.agg #[.int .i64 0,.int .i64 0],.int .i64 40]) (by simp[results,Tryz.results92,go_sem,y0,y1]) rfl ?_
  exact epochs_no HNo.out ((HB6.out.setCell (Nat.le_refl _) _).setCell (Nat.le_refl _) _)
end
