/-
 Walks of layer 17: grown.
-/
import Derived.Test.YtaphcmcimoloiaaGreatDoorDirAsk
set_option maxRecDepth 20000
set_option maxHeartbeats 4000000
namespace Go.Proofs.YtaphcmcimoloiaaGreatDoor
open Go Go.RowKit Txt Sp
def GrownPost (w:World) (base B Bd:Nat) (D:Nat→Prop) (q:Nat) (c:Int) (t':BSt) (b:Int) (e:Ending) (w':World):Prop:=
 (40≤q∧e = .returned (.tuple #[.slice none 0 0,.int .i64 0,.int .i64 109])∧Turn D w w') ∨
 (q<40∧c≠0∧e = .returned (.tuple #[.slice none 0 0,.int .i64 0,.int .i64 c])∧Turn D w w') ∨
 (q<40∧c=0∧∃v,e = .returned (.tuple #[v,.int .i64 b,.int .i64 0])∧Ints w' v t'.made∧q15z w base B Bd t'.S D w'∧q124z w base B Bd D t' v w')
theorem q124z.move {w W w3 w':World} {base B Bd:Nat} {D:Nat→Prop} {t':BSt} {v:Value} (h:q124z W base B Bd D t' v w3) (h1:Below w.heap.size w W) (h2:Below w3.heap.size w3 w'):q124z w base B Bd D t' v w':=by
 obtain⟨ho,D',hs,hb,ha⟩:=h
 have e1:=h1.size
 have e2:=h2.size
 exact⟨(ho.below h2).mono e1,D',hs.below h2,fun j hj=>(hb j hj).imp_right (fun h=>⟨by omega,by omega⟩),ha⟩
section
theorem dgrown_any {w:World} {base B Bd Bo:Nat} {S:Sp.Side} {D:Nat→Prop} (h:SideAt w base B Bd S D) (hD:∀j,D j→j<w.heap.size) {g:Sp.Geom} {i:Int} {F:File} (hs:Stands S g i F) (hlast:S.deps.last≤900000000) (hkind:F.kind≠0) (hnn:∀b∈F.blocks,0≤b)
 (vk:Value) (ks:List Int) (hv:∀W,Turn D w W→Ints W vk ks) (hks:∀k∈ks,0≤k∧k<g.groups) {cs:Array Value} (q:Nat) (hq:q≤40) (ho:w.heap[Bo]? = some (.cells cs 281 (0,0))) (hcs:cs[2]? = some (.int .i64 ((64*q:Nat):Int))) (hoD:¬D Bo)
 (c:Int) (t':BSt) (hc:((⟨S,F,[]⟩:BSt).writeC g i ks 1 (64*q) Sp.blank.data.toList)=c) (ht:((⟨S,F,[]⟩:BSt).write g i ks 1 (64*q) Sp.blank.data.toList)=t')
 (b:Int) (hst:q<40→c=0→Stands t'.S g i t'.F∧t'.F.blocks[q]? = some b) :
 Calls Tryz.prog 112 #[pt B,gV g,.int .i64 i,pt Bo,vk] w (GrownPost w base B Bd D q c t' b):=by
 obtain⟨W0,hW0⟩:∃W,w.alloc (.cells #[.int .i64 g.groups,.int .i64 g.inodes,.int .i64 g.blocks] 27)=W:=⟨_,rfl⟩
 have HB0:Hid (Below w.heap.size w W0):=by rw[←hW0]; exact bl2 _
 have HZ0:Hid (W0.heap[w.heap.size]? = some (.cells #[.int .i64 g.groups,.int .i64 g.inodes,.int .i64 g.blocks] 27 (0,0))):=by rw[←hW0]; exact q2z w _
 have HO0:Hid (W0.heap[Bo]? = some (.cells cs 281 (0,0))):=q1z HB0.out ho
 obtain⟨z,hz⟩:∃z:Int,((64*q:Nat):Int)=z:=⟨_,rfl⟩
 rw[hz] at hcs
 have x2:=cellOf (k:=2) HO0.out hcs
 obtain⟨Q,hQ⟩:∃Q,GrownPost w base B Bd D q c t' b=Q:=⟨_,rfl⟩
 by_cases hq4:40≤q
 ·have HF:Hid (∀W,Below w.heap.size w W→Q (.returned (.tuple #[.slice none 0 0,.int .i64 0,.int .i64 109])) W):=fun W hW=>by rw[←hQ]; exact Or.inl ⟨hq4,rfl,Turn.of_below hW⟩
  rw[hQ]
  have hz2:2560≤z:=by omega
  have hzd:decide (2560≤z)=true:=decide_eq_true hz2
  have HF0:=Lib.hid (HF.out W0 HB0.out)
  obtain⟨ga,gb,gc⟩:=g
  unfold gV pt
  dsimp only at hW0 ⊢
  clear h hD hs hv hks hst hc ht hQ HZ0 hq4 hz
  go_enter Tryz.func112,Tryz.ntmps112
  go_wp2
  first | exact HF0.out | (go_ret2; exact HF0.out)
 ·have hq39:q<40:=by omega
  have hzd:decide (2560≤z)=false:=decide_eq_false (by omega)
  have hz3:z<2560:=by omega
  have HS0:Hid (∀W,Below W0.heap.size W0 W→(W.cell? ⟨w.heap.size,0,none⟩=some (.int .i64 g.groups)∧W.cell? ⟨w.heap.size,1,none⟩=some (.int .i64 g.inodes)∧W.cell? ⟨w.heap.size,2,none⟩=some (.int .i64 g.blocks)∧W.cell? ⟨Bo,2,none⟩=some (.int .i64 z))):=fun W hW=>by
   have h1:=q1z hW HZ0.out
   exact⟨cellOf (k:=0) h1 rfl,cellOf (k:=1) h1 rfl,cellOf (k:=2) h1 rfl,cellOf (k:=2) (q1z hW HO0.out) hcs⟩
  have hwr:∀W,Below w.heap.size w W→Calls Tryz.prog 28 #[pt B,gV g,.int .i64 i,.int .i64 z,.string Sp.blank,vk] W (q146z W base B Bd D c t'):=fun W hW=>by
   have hl:Sp.blank.data.toList.length=64:=by decide +kernel
   have:=bwriteF_any (h.below hW) (fun j hj=>by have:=hD j hj; have:=hW.size; omega) hs hlast hkind hnn vk ks (fun W' hT=>hv W' ((Turn.of_below (K:=D) hW).trans hT (fun _ _ h=>h) (fun _ _ h=>h))) hks (64*q) Sp.blank (by decide +kernel) (by rw[hl]; omega) 1 (by rw[hl]; omega) (by omega)
   rw[hc,ht,hz] at this
   exact this
  have hbk:=fun W=>q92z W
  by_cases hc0:c=0
  ·have HF:Hid (∀v W W',Below w.heap.size w W→Ints W' v t'.made→q15z W base B Bd t'.S D W'→q124z w base B Bd D t' v W'→Q (.returned (.tuple #[v,.int .i64 b,.int .i64 0])) W'):=fun v W W' hW h1 h2 h3=>by rw[←hQ]; exact Or.inr (Or.inr ⟨hq39,hc0,v,rfl,h1,h2.ahead hW,h3⟩)
   have hw2:∀W,Below w.heap.size w W→Calls Tryz.prog 28 #[pt B,gV g,.int .i64 i,.int .i64 z,.string Sp.blank,vk] W fun e w'=>∃v,e = .returned (.tuple #[v,.int .i64 0])∧(Ints w' v t'.made∧q15z W base B Bd t'.S D w')∧q124z W base B Bd D t' v w':=fun W hW=>(hwr W hW).mono (fun e w' hp=>by
    rcases hp with ⟨_,h1⟩ | ⟨h0,_⟩
    ·exact h1
    ·exact absurd hc0 h0)
   obtain⟨hst1,hst2⟩:=hst hq39 hc0
   have hlo:=fun(W:World) (D':Nat→Prop) (hW:SideAt W base B Bd t'.S D')=>bLoad_any hW hst1
   have hbl:=fun(W:World) (D':Nat→Prop) (hW:SideAt W base B Bd t'.S D')=>bBlocks_any hW hst1
   have hlen:=hst1.file.len
   have HFile:Hid (t'.F.blocks.length=40∧t'.F.blocks[q]? = some b):=⟨hlen,hst2⟩
   obtain⟨bs,hbs⟩:∃bs,t'.F.blocks=bs:=⟨_,rfl⟩
   rw[hbs] at HFile hbl
   obtain⟨nd,hnd⟩:∃nd,t'.F.node=nd:=⟨_,rfl⟩
   rw[hnd] at hlo hbl
   rw[hQ]
   obtain⟨ga,gb,gc⟩:=g
   unfold nA iA at hlo hbl
   obtain⟨n0,k0⟩:∃x,nd.kind=x:=⟨_,rfl⟩
   obtain⟨n1,k1⟩:∃x,nd.links=x:=⟨_,rfl⟩
   obtain⟨n2,k2⟩:∃x,nd.size=x:=⟨_,rfl⟩
   obtain⟨n3,k3⟩:∃x,nd.parent=x:=⟨_,rfl⟩
   obtain⟨n4,k4⟩:∃x,nd.gen=x:=⟨_,rfl⟩
   obtain⟨d0,k5⟩:∃x,nd.direct.getD 0 0=x:=⟨_,rfl⟩
   obtain⟨d1,k6⟩:∃x,nd.direct.getD 1 0=x:=⟨_,rfl⟩
   obtain⟨d2,k7⟩:∃x,nd.direct.getD 2 0=x:=⟨_,rfl⟩
   obtain⟨d3,k8⟩:∃x,nd.direct.getD 3 0=x:=⟨_,rfl⟩
   obtain⟨d4,k9⟩:∃x,nd.direct.getD 4 0=x:=⟨_,rfl⟩
   obtain⟨d5,k10⟩:∃x,nd.direct.getD 5 0=x:=⟨_,rfl⟩
   obtain⟨d6,k11⟩:∃x,nd.direct.getD 6 0=x:=⟨_,rfl⟩
   obtain⟨d7,k12⟩:∃x,nd.direct.getD 7 0=x:=⟨_,rfl⟩
   obtain⟨n5,k13⟩:∃x,nd.more=x:=⟨_,rfl⟩
   simp only[k0,k1,k2,k3,k4,k5,k6,k7,k8,k9,k10,k11,k12,k13] at hlo hbl
   unfold gV pt at *
   dsimp only at hW0 HS0 hw2 HZ0 hlo hbl ⊢
   have hDO:Hid (∀W W' K,Below w.heap.size w W→(∀j,K j→D j)→Turn K W W'→W.heap[w.heap.size]? = some (.cells #[.int .i64 ga,.int .i64 gb,.int .i64 gc] 27 (0,0))→W.heap[Bo]? = some (.cells cs 281 (0,0))→W'.heap[w.heap.size]? = some (.cells #[.int .i64 ga,.int .i64 gb,.int .i64 gc] 27 (0,0))∧W'.heap[Bo]? = some (.cells cs 281 (0,0))):=fun W W' K _ hK hT h1 h2=>
    ⟨hT.heap h1 (fun hk=>by have:=hD _ (hK _ hk); omega),hT.heap h2 (fun hk=>hoD (hK _ hk))⟩
   have hdiv:z.tdiv 64=(q:Int):=by rw[Int.tdiv_eq_ediv_of_nonneg (by omega)]; omega
   have hdiv2:z / 64=(q:Int):=by omega
   have HW2:=Lib.hid hw2
   have HBK:=Lib.hid hbk
   have HLO:=Lib.hid hlo
   have HBL:=Lib.hid hbl
   clear hw2 hbk hlo hbl
   clear h hD hs hv hks hst hc ht hQ hq4 hz hwr hlast hkind hnn hoD hst1 hst2 hlen hbs hnd k0 k1 k2 k3 k4 k5 k6 k7 k8 k9 k10 k11 k12 k13
   go_enter Tryz.func112,Tryz.ntmps112
   go_wp2
   clear x2 hW0
   have hS0:=HS0.out W0.drew (blD (Below.refl _ _))
   refine q47z (fun W=>W.cell? ⟨w.heap.size,0,none⟩=some (.int .i64 ga)∧W.cell? ⟨w.heap.size,1,none⟩=some (.int .i64 gb)∧W.cell? ⟨w.heap.size,2,none⟩=some (.int .i64 gc)∧W.cell? ⟨Bo,2,none⟩=some (.int .i64 z)) 10 (by kernel_rfl) (by first | trivial | assumption) (fun hHeld hX0=>?_)
   refine tkU 0 ?_; clear hX0; intro hX0; simp only[Act.put,ps0]
   refine tkU 1 ?_; clear hX0; intro hX0; simp only[Act.put,ps0]
   refine tkU 2 ?_; clear hX0; intro hX0; simp only[Act.put,ps0]
   refine tkU 3 ?_; clear hX0; intro hX0; simp only[Act.put,ps0]
   refine tkU 4 ?_; clear hX0; intro hX0; simp only[Act.put,ps0]
   refine tkU 5 ?_; clear hX0; intro hX0; simp only[Act.put,ps0]
   refine tkU 6 ?_; clear hX0; intro hX0; simp only[Act.put,ps0]
   refine tkU 7 ?_; clear hX0; intro hX0; simp only[Act.put,ps0]
   refine tkU 9 ?_; clear hX0; intro hX0; simp only[Act.put,ps0]
   refine AnyU.each (is:=[8]) (by kernel_rfl) (by simp) (EachU.cons hX0 (by kernel_rfl) rfl (fun K hK=>?_) EachU.nil)
   try simp only[gg0]
   go_simp
   refine(HBK.out _).mono ?_
   rintro e w2 ⟨rfl,hb2⟩
   have HB2:Hid (Below W0.heap.size W0 w2):=blN (blD (Below.refl _ _)) hb2
   have HBW2:=Lib.hid (blN HB0.out HB2.out)
   clear hb2
   try simp only
   refine hK.out _ _ (fun _=>?hkS) (fun hHeld2 hX1=>?_)
   case hkS=>
    exact HS0.out _ HB2.out
   clear hHeld; have hHeld:=hHeld2 (by decide)
   clear hK K hHeld2 hX0; have hX0:=hX1; clear hX1
   try simp only[Act.put,ps0]
   refine AnyU.each (is:=[10]) (by kernel_rfl) (by simp) (EachU.cons hX0 (by kernel_rfl) rfl (fun K hK=>?_) EachU.nil)
   try simp only[gg0]
   go_simp
   refine(HW2.out _ HBW2.out).mono ?_
   rintro e w3 ⟨v,rfl,⟨hi3,hs3⟩,hf3⟩
   try simp only
   refine hK.out _ _ (fun h=>absurd h (by decide)) (fun _ hX1=>?_)
   clear hK K hX0; have hX0:=hX1; clear hX1
   try simp only[Act.put,ps0]
   refine pkU 11 ?_; clear hX0; intro hX0; simp only[Act.put,ps0]
   refine pkU 12 ?_; clear hX0; intro hX0; simp only[Act.put,ps0]
   refine pkU 13 ?_; clear hX0; intro hX0; simp only[Act.put,ps0]
   refine pkU 14 ?_; clear hX0; intro hX0; simp only[Act.put,ps0]
   refine pkU 15 ?_; clear hX0; intro hX0; simp only[Act.put,ps0]
   refine AnyU.done (by kernel_rfl) ?_ _
   have HS3:=Lib.hid hs3
   have HI3:=Lib.hid hi3
   have HF3:=Lib.hid hf3
   obtain⟨hsd3,K,hK,hT3⟩:=hs3
   obtain⟨hg3,ho3⟩:=hDO.out _ _ K HBW2.out hK hT3 (q1z HB2.out HZ0.out) (q1z HB2.out HO0.out)
   have HSD3:=Lib.hid hsd3
   have HG3:=Lib.hid hg3
   have HO3:=Lib.hid ho3
   have z0:=cellOf (k:=0) HG3.out rfl
   have z1:=cellOf (k:=1) HG3.out rfl
   have z2:=cellOf (k:=2) HG3.out rfl
   clear hHeld hX0 hS0 hsd3 hg3 ho3 hi3 hT3 hf3
   go_wp2_with fail
   clear z0 z1 z2
   refine(HLO.out w3 _ HSD3.out).mono ?_
   rintro e w4 ⟨rfl,hb4⟩
   obtain⟨W5,hW5⟩:∃W,w4.alloc (.cells #[.int .i64 n0,.int .i64 n1,.int .i64 n2,.int .i64 n3,.int .i64 n4,.int .i64 d0,.int .i64 d1,.int .i64 d2,.int .i64 d3,.int .i64 d4,.int .i64 d5,.int .i64 d6,.int .i64 d7,.int .i64 n5] 56)=W:=⟨_,rfl⟩
   have HB5:Hid (Below w3.heap.size w3 W5):=blN hb4 (by rw[←hW5]; exact bl2 _)
   have HZ5:Hid (W5.heap[w4.heap.size]? = some (.cells #[.int .i64 n0,.int .i64 n1,.int .i64 n2,.int .i64 n3,.int .i64 n4,.int .i64 d0,.int .i64 d1,.int .i64 d2,.int .i64 d3,.int .i64 d4,.int .i64 d5,.int .i64 d6,.int .i64 d7,.int .i64 n5] 56 (0,0))):=by rw[←hW5]; exact q2z w4 _
   have HG5:=Lib.hid (q1z HB5.out HG3.out)
   have z0:=cellOf (k:=0) HG5.out rfl
   have z1:=cellOf (k:=1) HG5.out rfl
   have z2:=cellOf (k:=2) HG5.out rfl
   have y0:=cellOf (k:=0) HZ5.out rfl
   have y1:=cellOf (k:=1) HZ5.out rfl
   have y2:=cellOf (k:=2) HZ5.out rfl
   have y3:=cellOf (k:=3) HZ5.out rfl
   have y4:=cellOf (k:=4) HZ5.out rfl
   have y5:=cellOf (k:=5) HZ5.out rfl
   have y6:=cellOf (k:=6) HZ5.out rfl
   have y7:=cellOf (k:=7) HZ5.out rfl
   have y8:=cellOf (k:=8) HZ5.out rfl
   have y9:=cellOf (k:=9) HZ5.out rfl
   have y10:=cellOf (k:=10) HZ5.out rfl
   have y11:=cellOf (k:=11) HZ5.out rfl
   have y12:=cellOf (k:=12) HZ5.out rfl
   have y13:=cellOf (k:=13) HZ5.out rfl
   clear hb4
   go_wp2_with fail
   clear z0 z1 z2 y0 y1 y2 y3 y4 y5 y6 y7 y8 y9 y10 y11 y12 y13 hW5
   refine(HBL.out W5 _ (HSD3.out.below HB5.out)).mono ?_
   rintro e w6 ⟨v6,rfl,ho6,hb6⟩
   have HB6:Hid (Below w3.heap.size w3 w6):=blN HB5.out hb6
   have hrow:=OwnR.row (f:=intC) (size:=1) (fun _ _=>rfl) ho6
   obtain⟨ad,m,cap,rfl,HM,hm2,HFC⟩:=RowAt.facts hrow
   have hm40:m=40:=HM.out.trans HFile.out.1
   subst hm40
   obtain⟨bb,oo,x,rfl,hblt,hx,hcx⟩:=HFC.out q hq39
   rw[HFile.out.2] at hx
   cases hx
   have hcx2:=hcx 0 _ rfl
   rw[Nat.mul_one,Nat.add_zero] at hcx2
   have HX2:Hid (w6.cell? ⟨bb,oo+q,none⟩=some (.int .i64 b)):=hcx2
   have hcap:40≤cap∧cap≤9223372036854775807:=by
    obtain⟨_,cap',e',h1,h2,_⟩:=hrow
    injection e' with _ _ e3
    subst e3
    rw[List.length_map,HFile.out.1] at h1
    unfold maxLen at h2
    omega
   have HFin:=Lib.hid (HF.out v w2 w6.drew HBW2.out (HI3.out.below (blD HB6.out)) (HS3.out.behind (blD HB6.out)) (HF3.out.move HBW2.out (blD HB6.out)))
   have hS7:w6.drew.cell? ⟨Bo,2,none⟩=some (.int .i64 z)∧w6.drew.cell? ⟨bb,oo+q,none⟩=some (.int .i64 b):=⟨cellOf (k:=2) (q1z (blD HB6.out) HO3.out) hcs,HX2.out⟩
   clear hb6 ho6 hrow hcx hcx2 hblt HFC
   go_wp2
   have hwq:IntKind.i64.wrap (q:Int)=(q:Int):=by simp[IntKind.wrap,IntKind.bits,IntKind.signed]; omega
   have hqi:(q:Int)<40:=by omega
   refine wp_region_held_drew (S:=(fun W=>W.cell? ⟨Bo,2,none⟩=some (.int .i64 z)∧W.cell? ⟨bb,oo+q,none⟩=some (.int .i64 b))) (by kernel_rfl) (by first | trivial | assumption) (fun hHeld=>?_)
   refine tkH 0 ?_; simp only[Act.put,ps0]
   refine tkH 1 ?_; simp only[Act.put,ps0]
   refine tkH 2 ?_; simp only[Act.put,ps0]
   refine tkH 3 ?_; simp only[Act.put,ps0]
   refine tkH 4 ?_; simp only[Act.put,ps0]
   refine tkH 5 ?_; simp only[Act.put,ps0]
   refine tkH 6 ?_; simp only[Act.put,ps0]
   refine tkH 7 ?_; simp only[Act.put,ps0]
   refine tkH 8 ?_; simp only[Act.put,ps0]
   refine tkH 9 ?_; simp only[Act.put,ps0]
   refine tkH 10 ?_; simp only[Act.put,ps0]
   refine tkH 11 ?_; simp only[Act.put,ps0]
   refine tkH 12 ?_; simp only[Act.put,ps0]
   refine wpAnyH_done (by kernel_rfl) ?_ _
   go_wp2
   first | exact HFin.out | (go_ret2; exact HFin.out)
  ·have HF:Hid (∀W,Turn D w W→Q (.returned (.tuple #[.slice none 0 0,.int .i64 0,.int .i64 c])) W):=fun W hW=>by rw[←hQ]; exact Or.inr (Or.inl ⟨hq39,hc0,rfl,hW⟩)
   have hw2:∀W,Below w.heap.size w W→Calls Tryz.prog 28 #[pt B,gV g,.int .i64 i,.int .i64 z,.string Sp.blank,vk] W fun e w'=>e = .returned (.tuple #[.slice none 0 0,.int .i64 c])∧Turn D w w':=fun W hW=>(hwr W hW).mono (fun e w' hp=>by
    rcases hp with ⟨h0,_⟩ | ⟨_,he,hT⟩
    ·exact absurd h0 hc0
    ·exact⟨he,(Turn.of_below (K:=D) hW).trans hT (fun _ _ h=>h) (fun _ _ h=>h)⟩)
   rw[hQ]
   obtain⟨ga,gb,gc⟩:=g
   unfold gV pt at *
   dsimp only at hW0 HS0 hw2 ⊢
   have HW2:=Lib.hid hw2
   have HBK:=Lib.hid hbk
   clear hw2 hbk
   clear h hD hs hv hks hst hc ht hQ HZ0 hq4 hz hwr hlast hkind hnn hoD
   go_enter Tryz.func112,Tryz.ntmps112
   go_wp2
   clear x2 hW0
   have hS0:=HS0.out W0.drew (blD (Below.refl _ _))
   refine q47z (fun W=>W.cell? ⟨w.heap.size,0,none⟩=some (.int .i64 ga)∧W.cell? ⟨w.heap.size,1,none⟩=some (.int .i64 gb)∧W.cell? ⟨w.heap.size,2,none⟩=some (.int .i64 gc)∧W.cell? ⟨Bo,2,none⟩=some (.int .i64 z)) 10 (by kernel_rfl) (by first | trivial | assumption) (fun hHeld hX0=>?_)
   refine tkU 0 ?_; clear hX0; intro hX0; simp only[Act.put,ps0]
   refine tkU 1 ?_; clear hX0; intro hX0; simp only[Act.put,ps0]
   refine tkU 2 ?_; clear hX0; intro hX0; simp only[Act.put,ps0]
   refine tkU 3 ?_; clear hX0; intro hX0; simp only[Act.put,ps0]
   refine tkU 4 ?_; clear hX0; intro hX0; simp only[Act.put,ps0]
   refine tkU 5 ?_; clear hX0; intro hX0; simp only[Act.put,ps0]
   refine tkU 6 ?_; clear hX0; intro hX0; simp only[Act.put,ps0]
   refine tkU 7 ?_; clear hX0; intro hX0; simp only[Act.put,ps0]
   refine tkU 9 ?_; clear hX0; intro hX0; simp only[Act.put,ps0]
   refine AnyU.each (is:=[8]) (by kernel_rfl) (by simp) (EachU.cons hX0 (by kernel_rfl) rfl (fun K hK=>?_) EachU.nil)
   try simp only[gg0]
   go_simp
   refine(HBK.out _).mono ?_
   rintro e w2 ⟨rfl,hb2⟩
   have HB2:Hid (Below W0.heap.size W0 w2):=blN (blD (Below.refl _ _)) hb2
   clear hb2
   try simp only
   refine hK.out _ _ (fun _=>?hkS) (fun hHeld2 hX1=>?_)
   case hkS=>
    exact HS0.out _ HB2.out
   clear hHeld; have hHeld:=hHeld2 (by decide)
   clear hK K hHeld2 hX0; have hX0:=hX1; clear hX1
   try simp only[Act.put,ps0]
   refine AnyU.each (is:=[10]) (by kernel_rfl) (by simp) (EachU.cons hX0 (by kernel_rfl) rfl (fun K hK=>?_) EachU.nil)
   try simp only[gg0]
   go_simp
   refine(HW2.out _ (blN HB0.out HB2.out)).mono ?_
   rintro e w3 ⟨rfl,hT3⟩
   try simp only
   refine hK.out _ _ (fun h=>absurd h (by decide)) (fun _ hX1=>?_)
   clear hK K hX0; have hX0:=hX1; clear hX1
   try simp only[Act.put,ps0]
   refine pkU 11 ?_; clear hX0; intro hX0; simp only[Act.put,ps0]
   refine pkU 12 ?_; clear hX0; intro hX0; simp only[Act.put,ps0]
   refine pkU 13 ?_; clear hX0; intro hX0; simp only[Act.put,ps0]
   refine pkU 14 ?_; clear hX0; intro hX0; simp only[Act.put,ps0]
   refine pkU 15 ?_; clear hX0; intro hX0; simp only[Act.put,ps0]
   refine AnyU.done (by kernel_rfl) ?_ _
   have HF3:=Lib.hid (HF.out w3 hT3)
   have hc1:(c != 0)=true:=by simp[hc0]
   have hc2:(c == 0)=false:=by simp[hc0]
   clear hT3 hHeld hX0 hS0
   go_wp2
   first | exact HF3.out | (go_ret2; exact HF3.out)
end
def RemovePost (w:World) (base B Bd:Nat) (S:Sp.Side) (D:Nat→Prop) (es:List Ent) (name:ByteArray) (ahead:List Int) (e:Ending) (w':World):Prop:=
 (findC es name≠0∧e = .returned (.tuple #[.int .i64 0,.int .i64 (findC es name)])∧Below w.heap.size w w') ∨
 ∃x,findC es name=0∧findR es name=some x∧q95z w base B Bd S D x.sec x.slot ⟨0,⟨#[]⟩⟩ ahead e w'
theorem ents_slot {V:Int→ByteArray} {l:List Int} {x:Ent} (h:x∈l.flatMap (entsB V)):x.slot<4:=by
 obtain⟨b,_,hb⟩:=List.mem_flatMap.1 h
 unfold entsB entOf at hb
 simp only[List.mem_cons,List.not_mem_nil,or_false] at hb
 rcases hb with rfl | rfl | rfl | rfl <;> simp
theorem findR_mem {es:List Ent} {name:ByteArray} {x:Ent} (h:findR es name=some x):x∈es∧x.name=name:=by
 unfold findR findE at h
 split at h
 ·exact⟨List.mem_of_find?_eq_some h,by simpa using List.find?_some h⟩
 ·cases h
theorem findC_some {es:List Ent} {name:ByteArray} (h:findC es name=0):∃x,findR es name=some x:=by
 unfold findC at h
 unfold findR
 split at h
 ·rename_i hn
  rw[if_pos hn]
  split at h
  ·rename_i hs
   exact Option.isSome_iff_exists.1 hs
  ·cases h
 ·cases h
section
theorem dirRemove_any {w:World} {base Bs Bd:Nat} {S:Sp.Side} {D:Nat→Prop} (h:SideAt w base Bs Bd S D) {g:Sp.Geom} {i:Int} {F:File} (hs:Stands S g i F) (hd:DirOk S.read F) (hb:∀b∈F.blocks,0≤b) (hh:∀b∈q19z F,S.disk.has b) (hm:MaxOk w) (name:ByteArray) (hnm:name.size≤9223372036854775807)
 (hlast:S.deps.last<1000000000) (v:Value) (ahead:List Int) (hv:Ints w v ahead) (hal:ahead.length≤100000) :
 Calls Tryz.prog 35 #[pt Bs,gV g,.int .i64 i,.string name,v] w (RemovePost w base Bs Bd S D (ents S.read F) name ahead):=by
 have hfi:=fun(W:World) (hW:Below w.heap.size w W)=>dirFind_any (h.below hW) hs hd hb hh (hm.below hW) name hnm
 have hx0:(⟨0,⟨#[]⟩⟩:Sp.Entry).may:=Or.inl ⟨rfl,rfl⟩
 have hpu:=fun(W:World) (hW:Below w.heap.size w W) (a:Int) (k:Nat) (hk:k<4)=>dput_any (h.below hW) hs.ok hlast (hm.below hW) a k hk ⟨0,⟨#[]⟩⟩ hx0 v ahead (hv.below hW) hal
 obtain⟨es,hes⟩:∃es,ents S.read F=es:=⟨_,rfl⟩
 have hsl:∀x∈es,x.slot<4:=fun x hx=>by rw[←hes] at hx; exact ents_slot hx
 rw[hes] at hfi ⊢
 obtain⟨c,hc⟩:∃c,findC es name=c:=⟨_,rfl⟩
 obtain⟨r,hr⟩:∃r,findR es name=r:=⟨_,rfl⟩
 have hsome:c=0→∃x,r=some x∧x.slot<4:=fun h0=>by
  obtain⟨x,hx⟩:=findC_some (hc.trans h0)
  exact⟨x,hr.symm.trans hx,hsl x (findR_mem hx).1⟩
 unfold FindPost at hfi
 rw[hc,hr] at hfi
 obtain⟨Q,hQ⟩:∃Q,RemovePost w base Bs Bd S D es name ahead=Q:=⟨_,rfl⟩
 have HF1:Hid (c≠0→∀W,Below w.heap.size w W→Q (.returned (.tuple #[.int .i64 0,.int .i64 c])) W):=fun h0 W hW=>by rw[←hQ]; exact Or.inl ⟨by rw[hc]; exact h0,by rw[hc],hW⟩
 have HF2:Hid (∀x W e W',c=0→r=some x→Below w.heap.size w W→q95z W base Bs Bd S D x.sec x.slot ⟨0,⟨#[]⟩⟩ ahead e W'→Q e W'):=fun x W e W' h0 h1 hW hp=>by rw[←hQ]; exact Or.inr ⟨x,hc.trans h0,hr.trans h1,hp.1,hp.2.ahead hW⟩
 rw[hQ]
 obtain⟨ga,gb,gc⟩:=g
 unfold gV pt at *
 unfold eV at hpu
 dsimp only at hfi hpu ⊢
 obtain⟨W0,hW0⟩:∃W,w.alloc (.cells #[.int .i64 ga,.int .i64 gb,.int .i64 gc] 27)=W:=⟨_,rfl⟩
 have HB0:Hid (Below w.heap.size w W0):=by rw[←hW0]; exact bl2 _
 have hg0:W0.heap[w.heap.size]? = some (.cells #[.int .i64 ga,.int .i64 gb,.int .i64 gc] 27 (0,0)):=by rw[←hW0]; exact q2z w _
 have z0:=cellOf (k:=0) hg0 rfl
 have z1:=cellOf (k:=1) hg0 rfl
 have z2:=cellOf (k:=2) hg0 rfl
 have HFI:=Lib.hid hfi
 have HPU:=Lib.hid hpu
 clear hfi hpu
 clear h hs hd hb hh hm hnm hlast hv hal hx0 hes hsl hc hr hQ hg0
 by_cases hc0:c=0
 ·obtain⟨x,rfl,hk⟩:=hsome hc0
  subst hc0
  clear hsome
  unfold q52z at HFI
  dsimp only at HFI
  go_enter Tryz.func35,Tryz.ntmps35
  go_wp2_with fail
  clear z0 z1 z2 hW0
  refine(HFI.out W0 HB0.out).mono ?_
  rintro e w1 ⟨rfl,hb1⟩
  obtain⟨W2,hW2⟩:∃W,w1.alloc (.cells #[.int .i64 x.inode,.int .i64 x.sec,.int .i64 (x.slot:Int)] 72)=W:=⟨_,rfl⟩
  have HB2:Hid (Below w.heap.size w W2):=blN HB0.out (blN hb1 (by rw[←hW2]; exact bl2 _))
  have HZ2:Hid (W2.heap[w1.heap.size]? = some (.cells #[.int .i64 x.inode,.int .i64 x.sec,.int .i64 (x.slot:Int)] 72 (0,0))):=by rw[←hW2]; exact q2z w1 _
  have y0:=cellOf (k:=0) HZ2.out rfl
  have y1:=cellOf (k:=1) HZ2.out rfl
  have y2:=cellOf (k:=2) HZ2.out rfl
  clear hb1
  go_wp2_with fail
  clear y0 y1 y2 hW2
  refine(HPU.out W2 HB2.out x.sec x.slot hk).mono ?_
  rintro e w3 hA
  have HF:=Lib.hid (HF2.out x _ _ _ (by first | trivial | rfl) (by first | trivial | rfl) HB2.out hA)
  obtain⟨he,-⟩:=hA
  subst he
  go_wp2
  first | exact HF.out | (go_ret2; exact HF.out)
 ·have hc1:(c != 0)=true:=by simp[hc0]
  have hc2:(c == 0)=false:=by simp[hc0]
  clear hsome
  have hpl:∃a0 a1 a2,q52z r = .agg #[.int .i64 a0,.int .i64 a1,.int .i64 a2]:=by cases r <;> exact⟨_,_,_,rfl⟩
  obtain⟨a0,a1,a2,ha⟩:=hpl
  rw[ha] at HFI
  go_enter Tryz.func35,Tryz.ntmps35
  go_wp2_with fail
  clear z0 z1 z2 hW0
  refine(HFI.out W0 HB0.out).mono ?_
  rintro e w1 ⟨rfl,hb1⟩
  have HF:=Lib.hid (HF1.out hc0 (w1.alloc (.cells #[.int .i64 a0,.int .i64 a1,.int .i64 a2] 72)) (blN HB0.out (blN hb1 (bl2 _))))
  clear hb1
  go_wp2
  first | exact HF.out | (go_ret2; exact HF.out)
end
def SetPost (w:World) (base B Bd:Nat) (S:Sp.Side) (D:Nat→Prop) (es:List Ent) (name:ByteArray) (n:Int) (ahead:List Int) (e:Ending) (w':World):Prop:=
 ∃x,findR es name=some x∧q95z w base B Bd S D x.sec x.slot ⟨n,name⟩ ahead e w'
section
theorem dirSet_any {w:World} {base Bs Bd:Nat} {S:Sp.Side} {D:Nat→Prop} (h:SideAt w base Bs Bd S D) {g:Sp.Geom} {i:Int} {F:File} (hs:Stands S g i F) (hd:DirOk S.read F) (hb:∀b∈F.blocks,0≤b) (hh:∀b∈q19z F,S.disk.has b) (hm:MaxOk w) (name:ByteArray) (hnm:name.size≤9223372036854775807)
 (hlast:S.deps.last<1000000000) (v:Value) (ahead:List Int) (hv:Ints w v ahead) (hal:ahead.length≤100000) (n:Int) (hn1:1≤n) (hn2:n≤65535) (hc00:findC (ents S.read F) name=0) :
 Calls Tryz.prog 50 #[pt Bs,gV g,.int .i64 i,.string name,.int .i64 n,v] w (SetPost w base Bs Bd S D (ents S.read F) name n ahead):=by
 have hfi:=fun(W:World) (hW:Below w.heap.size w W)=>dirFind_any (h.below hW) hs hd hb hh (hm.below hW) name hnm
 have hx0:(⟨n,name⟩:Sp.Entry).may:=by
  have hnb:nameB name=true:=by
   unfold findC at hc00
   split at hc00
   ·assumption
   ·cases hc00
  exact Or.inr ⟨hn1,hn2,hnb⟩
 have hpu:=fun(W:World) (hW:Below w.heap.size w W) (a:Int) (k:Nat) (hk:k<4)=>dput_any (h.below hW) hs.ok hlast (hm.below hW) a k hk ⟨n,name⟩ hx0 v ahead (hv.below hW) hal
 obtain⟨es,hes⟩:∃es,ents S.read F=es:=⟨_,rfl⟩
 have hsl:∀x∈es,x.slot<4:=fun x hx=>by rw[←hes] at hx; exact ents_slot hx
 rw[hes] at hfi hc00 ⊢
 obtain⟨c,hc⟩:∃c,findC es name=c:=⟨_,rfl⟩
 obtain⟨r,hr⟩:∃r,findR es name=r:=⟨_,rfl⟩
 have hsome:c=0→∃x,r=some x∧x.slot<4:=fun h0=>by
  obtain⟨x,hx⟩:=findC_some (hc.trans h0)
  exact⟨x,hr.symm.trans hx,hsl x (findR_mem hx).1⟩
 have hc0:c=0:=hc.symm.trans hc00
 unfold FindPost at hfi
 rw[hc,hr] at hfi
 obtain⟨Q,hQ⟩:∃Q,SetPost w base Bs Bd S D es name n ahead=Q:=⟨_,rfl⟩
 have HF2:Hid (∀x W e W',r=some x→Below w.heap.size w W→q95z W base Bs Bd S D x.sec x.slot ⟨n,name⟩ ahead e W'→Q e W'):=fun x W e W' h1 hW hp=>by rw[←hQ]; exact⟨x,hr.trans h1,hp.1,hp.2.ahead hW⟩
 have q1:decide (n<1)=false:=decide_eq_false (by omega)
 have q2:decide (65535<n)=false:=decide_eq_false (by omega)
 have q3:¬n<1:=by omega
 have q4:¬65535<n:=by omega
 rw[hQ]
 obtain⟨ga,gb,gc⟩:=g
 unfold gV pt at *
 unfold eV at hpu
 dsimp only at hfi hpu ⊢
 obtain⟨W0,hW0⟩:∃W,w.alloc (.cells #[.int .i64 ga,.int .i64 gb,.int .i64 gc] 27)=W:=⟨_,rfl⟩
 have HB0:Hid (Below w.heap.size w W0):=by rw[←hW0]; exact bl2 _
 have hg0:W0.heap[w.heap.size]? = some (.cells #[.int .i64 ga,.int .i64 gb,.int .i64 gc] 27 (0,0)):=by rw[←hW0]; exact q2z w _
 have z0:=cellOf (k:=0) hg0 rfl
 have z1:=cellOf (k:=1) hg0 rfl
 have z2:=cellOf (k:=2) hg0 rfl
 have HFI:=Lib.hid hfi
 have HPU:=Lib.hid hpu
 clear hfi hpu
 clear h hs hd hb hh hm hnm hlast hv hal hx0 hes hsl hc hr hQ hg0 hc00
 obtain⟨x,rfl,hk⟩:=hsome hc0
 subst hc0
 clear hsome
 unfold q52z at HFI
 dsimp only at HFI
 go_enter Tryz.func50,Tryz.ntmps50
 go_wp2_with fail
 clear z0 z1 z2 hW0
 refine(HFI.out W0 HB0.out).mono ?_
 rintro e w1 ⟨rfl,hb1⟩
 obtain⟨W2,hW2⟩:∃W,w1.alloc (.cells #[.int .i64 x.inode,.int .i64 x.sec,.int .i64 (x.slot:Int)] 72)=W:=⟨_,rfl⟩
 have HB2:Hid (Below w.heap.size w W2):=blN HB0.out (blN hb1 (by rw[←hW2]; exact bl2 _))
 have HZ2:Hid (W2.heap[w1.heap.size]? = some (.cells #[.int .i64 x.inode,.int .i64 x.sec,.int .i64 (x.slot:Int)] 72 (0,0))):=by rw[←hW2]; exact q2z w1 _
 have y0:=cellOf (k:=0) HZ2.out rfl
 have y1:=cellOf (k:=1) HZ2.out rfl
 have y2:=cellOf (k:=2) HZ2.out rfl
 clear hb1
 go_wp2_with fail
 clear y0 y1 y2 hW2
 refine(HPU.out W2 HB2.out x.sec x.slot hk).mono ?_
 rintro e w3 hA
 have HF:=Lib.hid (HF2.out x _ _ _ (by first | trivial | rfl) HB2.out hA)
 obtain⟨he,-⟩:=hA
 subst he
 go_wp2
 first | exact HF.out | (go_ret2; exact HF.out)
end
def AddIn (w:World) (base B Bd:Nat) (S:Sp.Side) (D:Nat→Prop) (x:Sp.Entry) (p:Ent) (e:Ending) (w':World):Prop:=
 ∃v,e = .returned (.tuple #[v,.int .i64 0])∧OwnR 3 1 intC w.heap.size w' v [S.changeN p.sec ((p.slot:Int)*16) (ofL (slotL x)) []]∧q15z w base B Bd (S.change p.sec ((p.slot:Int)*16) (ofL (slotL x)) []) D w'
section
theorem dirAddIn_any {w:World} {base Bs Bd:Nat} {S:Sp.Side} {D:Nat→Prop} (h:SideAt w base Bs Bd S D) {g:Sp.Geom} {i:Int} {F:File} (hs:Stands S g i F) (hd:DirOk S.read F) (hb:∀b∈F.blocks,0≤b) (hh:∀b∈q19z F,S.disk.has b) (hm:MaxOk w) (x:Sp.Entry) (hxs:x.name.size≤maxLen) (vk:Value)
 (hlast:S.deps.last<1000000000) (hmay:x.may) (hxi:x.inode≠0) (hno:findE (ents S.read F) x.name=none) {p:Ent} (hyes:findE (ents S.read F) ⟨#[]⟩=some p) (hcc:S.changeC p.sec ((p.slot:Int)*16) (ofL (slotL x)) []=0) :
 Calls Tryz.prog 36 #[pt Bs,gV g,.int .i64 i,eV x,vk,.slice none 0 0] w (AddIn w base Bs Bd S D x p):=by
 have hop:=fun(W:World) (hW:Below w.heap.size w W)=>q154z (h.below hW) hs hd hb hh (hm.below hW)
 have hpu:=fun(W:World) (hW:Below w.heap.size w W)=>eput_any W 0 x (hm.below hW) hxs
 have hfi:=fun(W W':World) (base B:Nat) (hd:DirAt W base B F.node S.read (q19z F)) (hb:Below W.heap.size W W') (nm:ByteArray)=>dfind_any (hd.below hb) nm
 have hdp:=fun(W:World) (hW:Below w.heap.size w W) (a:Int) (k:Nat) (hk:k<4)=>dput_any (h.below hW) hs.ok hlast (hm.below hW) a k hk x hmay (.slice none 0 0) [] (show Ints W (.slice none 0 0) [] from RowAt.void W 1) (by simp)
 obtain⟨es,hes⟩:∃es,ents S.read F=es:=⟨_,rfl⟩
 have hes2:(q19z F).flatMap (entsB S.read)=es:=hes
 rw[hes2] at hfi
 rw[hes] at hno hyes
 have hp4:p.slot<4:=by
  have:=List.mem_of_find?_eq_some hyes
  rw[←hes2] at this
  exact ents_slot this
 unfold q112z at hop
 unfold EPut at hpu
 simp only[if_neg (show ¬((0:Int)<0∨4≤(0:Int)) by omega)] at hpu
 simp only[if_pos hmay] at hpu
 obtain⟨V,hV⟩:∃V,S.read=V:=⟨_,rfl⟩
 obtain⟨bl,hbl⟩:∃bl,q19z F=bl:=⟨_,rfl⟩
 obtain⟨nd,hnd⟩:∃nd,F.node=nd:=⟨_,rfl⟩
 rw[hV,hbl,hnd] at hop hfi
 obtain⟨N,hN⟩:∃N,S.changeN p.sec ((p.slot:Int)*16) (ofL (slotL x)) []=N:=⟨_,rfl⟩
 obtain⟨S',hS'⟩:∃S',S.change p.sec ((p.slot:Int)*16) (ofL (slotL x)) []=S':=⟨_,rfl⟩
 have hdq:∀W,Below w.heap.size w W→Calls Tryz.prog 108 #[pt Bs,.int .i64 p.sec,.int .i64 (p.slot:Int),eV x,.slice none 0 0] W fun e w'=>e = .returned (.tuple #[.int .i64 N,.int .i64 0])∧q15z W base Bs Bd S' D w':=fun W hW=>(hdp W hW p.sec p.slot hp4).mono (fun e w' hA=>by
  unfold q95z at hA
  rw[hN,hS',hcc] at hA
  exact hA)
 obtain⟨Q,hQ⟩:∃Q,AddIn w base Bs Bd S D x p=Q:=⟨_,rfl⟩
 have HF:Hid (∀W W5 W' v,Below w.heap.size w W→q15z W base Bs Bd S' D W5→Below W5.heap.size W5 W'→OwnR 3 1 intC W5.heap.size W' v [N]→Q (.returned (.tuple #[v,.int .i64 0])) W'):=fun W W5 W' v hW hT hb ho=>by
  rw[←hQ]
  obtain⟨_,K,_,hTT⟩:=hT
  have e1:=hTT.size
  have e2:=hW.size
  refine⟨v,rfl,by rw[hN]; exact ho.mono (by omega),by rw[hS']; exact(q15z.ahead hW ⟨by assumption,K,by assumption,hTT⟩).behind hb⟩
 rw[hQ]
 obtain⟨ga,gb,gc⟩:=g
 obtain⟨xi,xn⟩:=x
 unfold gV pt eV at *
 dsimp only at hop hpu hfi hno hdq HF hxi ⊢
 obtain⟨W0,hW0⟩:∃W,(w.alloc (.cells #[.int .i64 ga,.int .i64 gb,.int .i64 gc] 27)).alloc (.cells #[.int .i64 xi,.string xn] 69)=W:=⟨_,rfl⟩
 have HB0:Hid (Below w.heap.size w W0):=by rw[←hW0]; exact(bl2 _).alloc (by simp) _
 have HG0:Hid (W0.heap[w.heap.size]? = some (.cells #[.int .i64 ga,.int .i64 gb,.int .i64 gc] 27 (0,0))):=by rw[←hW0]; exact q1z (bl2 _) (q2z w _)
 have HX0:Hid (W0.heap[w.heap.size+1]? = some (.cells #[.int .i64 xi,.string xn] 69 (0,0))):=by
  rw[←hW0]
  have a2:=q2z (w.alloc (.cells #[.int .i64 ga,.int .i64 gb,.int .i64 gc] 27)) (.cells #[.int .i64 xi,.string xn] 69)
  rw[World.size_alloc] at a2
  exact a2
 have z0:=cellOf (k:=0) HG0.out rfl
 have z1:=cellOf (k:=1) HG0.out rfl
 have z2:=cellOf (k:=2) HG0.out rfl
 obtain⟨tx,htx⟩:∃t,ofL (slotL ⟨xi,xn⟩)=t:=⟨_,rfl⟩
 rw[htx,show(0:Int)*16=0 from rfl] at hpu
 have HOP:=Lib.hid hop
 have HFI:=Lib.hid hfi
 have HDQ:=Lib.hid hdq
 have HPU:=Lib.hid hpu
 clear hop hfi hdq hpu
 have HNo:=Lib.hid hno
 have HYes:=Lib.hid hyes
 have hq:(xi == 0)=false:=by simp[hxi]
 clear h hs hd hb hh hm hxs hno hyes hes hes2 hV hbl hnd hQ hdp hlast hmay hxi hcc hN hS' htx hp4
 go_enter Tryz.func36,Tryz.ntmps36
 go_wp2_with fail
 clear z0 z1 z2 hW0
 refine(HOP.out W0 HB0.out).mono ?_
 rintro e w1 ⟨B,rfl,hda,hb1⟩
 have HB1:=Lib.hid (blN HB0.out hb1)
 have HX1:=Lib.hid (q1z hb1 HX0.out)
 have HDA:=Lib.hid hda
 clear hda hb1
 have e0:=cellOf (k:=0) HX1.out rfl
 have e1:=cellOf (k:=1) HX1.out rfl
 go_wp2_with fail
 clear e0 e1
 refine(HPU.out w1 HB1.out).mono ?_
 rintro e w2 ⟨rfl,hb2⟩
 have HBw2:Hid (Below w1.heap.size w1 w2):=hb2
 obtain⟨W3,hW3⟩:∃W,w2.alloc (.cells #[.int .i64 0,.string tx] 163)=W:=⟨_,rfl⟩
 have HB13:Hid (Below w1.heap.size w1 W3):=blN hb2 (by rw[←hW3]; exact bl2 _)
 have HB3:=Lib.hid (blN HB1.out HB13.out)
 have HX3:=Lib.hid (q1z HB13.out HX1.out)
 have e0:=cellOf (k:=0) HX3.out rfl
 have e1:=cellOf (k:=1) HX3.out rfl
 clear hb2
 have HFI2:=Lib.hid (HFI.out w1 W3 _ B HDA.out HB13.out xn)
 rw[HNo.out] at HFI2
 unfold q113z q52z at HFI2
 dsimp only[Option.isSome] at HFI2
 go_wp2_with fail
 clear e0 e1 hW3
 refine HFI2.out.mono ?_
 rintro e w4 ⟨rfl,hb4⟩
 have HB14:Hid (Below w1.heap.size w1 (w4.alloc (.cells #[.int .i64 0,.int .i64 0,.int .i64 0] 72))):=blN HB13.out (blN hb4 (bl2 _))
 have HFI3:=Lib.hid (HFI.out w1 _ _ B HDA.out HB14.out ⟨#[]⟩)
 rw[HYes.out] at HFI3
 unfold q113z q52z at HFI3
 dsimp only[Option.isSome] at HFI3
 clear hb4
 go_wp2_with fail
 refine HFI3.out.mono ?_
 rintro e w6 ⟨rfl,hb6⟩
 obtain⟨W7,hW7⟩:∃W,w6.alloc (.cells #[.int .i64 p.inode,.int .i64 p.sec,.int .i64 (p.slot:Int)] 72)=W:=⟨_,rfl⟩
 have HB17:Hid (Below w1.heap.size w1 W7):=blN HB14.out (blN hb6 (by rw[←hW7]; exact bl2 _))
 have HZ7:Hid (W7.heap[w6.heap.size]? = some (.cells #[.int .i64 p.inode,.int .i64 p.sec,.int .i64 (p.slot:Int)] 72 (0,0))):=by rw[←hW7]; exact q2z w6 _
 have HB7:=Lib.hid (blN HB1.out HB17.out)
 have HX7:=Lib.hid (q1z HB17.out HX1.out)
 have e0:=cellOf (k:=0) HX7.out rfl
 have e1:=cellOf (k:=1) HX7.out rfl
 have p0:=cellOf (k:=0) HZ7.out rfl
 have p1:=cellOf (k:=1) HZ7.out rfl
 have p2:=cellOf (k:=2) HZ7.out rfl
 clear hb6
 go_wp2_with fail
 clear e0 e1 p0 p1 p2 hW7
 refine(HDQ.out W7 HB7.out).mono ?_
 rintro e w8 ⟨rfl,hs8⟩
 have HS8:=Lib.hid hs8
 obtain⟨l0,hl0⟩:∃l:List Int,l=[]:=⟨_,rfl⟩
 have HO8:Hid (OwnR 3 1 intC w8.heap.size w8 (.slice none 0 0) l0):=by rw[hl0]; exact OwnR.void _ _
 have hll:l0.length≤5:=by rw[hl0]; decide
 have HL0:=Lib.hid hl0
 clear hl0
 have HB8:Hid (Below w8.heap.size w8 w8):=Below.refl _ _
 clear hs8
 obtain⟨ia9,ib9,ic9,id9,ie9⟩:=info_parts q69z
 have hrow9:=HO8.out
 unfold OwnR at hrow9
 have HRow9:=Lib.hid hrow9
 clear hrow9
 have HIb9:=Lib.hid ib9
 have HIc9:=Lib.hid ic9
 have HId9:=Lib.hid id9
 have HIe9:=Lib.hid ie9
 clear ib9 ic9 id9 ie9
 go_wp2_with (at_builtin; refine wpList_append_lies _ rfl _ _ _ rfl w8.heap.size 3 ia9 _ 1 8 Tryz.underlying48 HIb9.out HIc9.out HId9.out HIe9.out rfl (by decide) _ _ _ rfl (HRow9.out.alloc _) ⟨w8.heap.size,0,none⟩ 1 1 [.int .i64 N] rfl rfl (World.news_of_block (cs:=#[.int .i64 N]) (t:=3) (fr:=(0,0)) (q2z w8 _)) (by simp[Value.oneCell']) (by omega) ?c1 ?c2 ?c3 (w8.heap.size+1) (by simp) ?_)
 case c1=>unfold maxLen; omega
 case c2=>omega
 case c3=>have:=HB8.out.size; first | (simp; done) | (simp; omega)
 intro g9 cap9 w9 hown9 hgrow9 hat9 hlt9
 have HO9:=Lib.hid (OwnR.snoc (f:=intC) (x:=N) hown9 rfl rfl)
 have HB9:Hid (Below w8.heap.size _ w9):=Below.grown (bl1 HB8.out _) hgrow9 (bl1 HB8.out _).size (fun q hq=>(HRow9.out.lt q hq).1)
 clear hown9 hgrow9 hat9 hlt9 HRow9
 have HO10:=HO9.out
 rw[show l0 ++ [N]=[N] by rw[HL0.out]; rfl] at HO10
 have HE:=Lib.hid (HF.out W7 w8 _ _ HB7.out HS8.out HB9.out HO10)
 clear HO10 hll
 go_wp2
 first | exact HE.out | (go_ret2; exact HE.out)
end
end Go.Proofs.YtaphcmcimoloiaaGreatDoor
