import Derived.Test.YtgofmnhfajmbfaaGreatDoorSofA
import Derived.Shelf.SlMaps.Clone
set_option maxRecDepth 100000
set_option maxHeartbeats 4000000
namespace Go.Proofs.YtgofmnhfajmbfaaGreatDoor
open Go Go.RowKit Txt Sp
theorem DiskAt.tight {w:World} {base B:Nat} {d:Sp.Disk} {D:Nat→Prop} (h:DiskAt w base B d D):∃D',DiskAt w base B d D'∧(∀k,D' k→D k)∧∀k,D' k→k<w.heap.size:=by
 obtain⟨⟨v,wm,h1,h2,h3,h4,h5,h6⟩,ho,hl⟩:=h
 refine⟨fun k=>k=B∨k=wm∨v.ownBlock=some k,⟨⟨v,wm,h1,h2,h3,h4,Or.inr (Or.inl rfl),fun k hk=>Or.inr (Or.inr hk)⟩,Or.inl rfl,hl⟩,?_,?_⟩
 ·rintro k (rfl | rfl | hk)
  ·exact ho
  ·exact h5
  ·exact h6 k hk
 ·rintro k (rfl | rfl | hk)
  ·exact(Array.getElem?_eq_some_iff.1 h1).1
  ·exact h3.lt
  ·exact(h2.lt k hk).2
section
theorem cloneChg_any {w:World} {base:Nat} {v:Value} {ps:List (Sp.Chg×Value)} (hv:OwnR 209 6 chgC base w v ps) (hs:∀x∈ps,x.2.oneCell' = true) (hl:ps.length≤1024) :
 Calls Tryz.prog 231 #[v] w fun e w'=>∃v',e = .returned v'∧OwnR 209 6 chgC w.heap.size w' v' ps∧Below w.heap.size w w':=by
 have hq:∀(w:World) (a:Option Addr) (n c n' c':Nat),(binOp .eql 205 (.slice a n c) (.slice none n' c')).run Tryz.prog w = .ok (.bool a.isNone) w:=fun w a n c n' c'=>Lib.run_eql_slice_nil w _ _ a n c n' c' Tryz.underlying205
 have hv0:=hv
 unfold OwnR at hv0
 obtain⟨ia,ib,ic,id,ie⟩:=info_parts infoChange
 obtain⟨_,⟨rfl,h0⟩ | ⟨g,cap,cur,rfl,hg,hh,_⟩⟩:=hv
 ·obtain rfl:=List.length_eq_zero_iff.1 h0
  clear hv0
  go_enter Tryz.func231,Tryz.ntmps231
  go_wp2
  go_ret
  exact⟨_,rfl,OwnR.void _ _,Below.refl _ _⟩
 ·have HRow:=zh (OwnR.below (show OwnR 209 6 chgC base w (.slice (some ⟨g,0,none⟩) ps.length cap) ps from hv0) (bl2 (.cells #[] 209)))
  have HS:=zh hs
  have HIb:=zh ib
  have HIc:=zh ic
  have HId:=zh id
  have HIe:=zh ie
  clear hv0 ib ic id ie hh
  go_enter Tryz.func231,Tryz.ntmps231
  go_wp2_with (at_builtin; refine wpList_append_rows _ rfl _ _ 205 rfl w.heap.size base 209 ia _ 6 72 Tryz.underlying205 HIb.out HIc.out HId.out HIe.out rfl (by decide) _ _ 0 ps.length [] (ps.flatMap chgC) rfl (World.ownsRow_made w #[] 0 (Nat.le_refl _) (Nat.zero_le _) rfl) rfl HRow.out ?c1 ?c2 ?c3 ?c4 ?_)
  case c1=>
   intro u hu
   obtain⟨x,hxm,hx⟩:=List.mem_flatMap.1 hu
   unfold chgC at hx
   simp only[List.mem_cons,List.not_mem_nil,or_false] at hx
   rcases hx with rfl | rfl | rfl | rfl | rfl | rfl
   ·rfl
   ·rfl
   ·rfl
   ·rfl
   ·exact HS.out x hxm
   ·rfl
  case c2=>unfold maxLen; omega
  case c3=>omega
  case c4=>simp
  intro v' w' hown hgrow
  go_wp2
  go_ret
  refine⟨v',rfl,?_,?_⟩
  ·unfold OwnR
   simpa using hown
  ·exact Below.grown (bl2 _) hgrow (by simp) (fun k hk=>by simp[Value.ownBlock] at hk; omega)
theorem DepsAt.lt {w:World} {base B:Nat} {d:Sp.Deps} {D:Nat→Prop} (h:DepsAt w base B d D):B<w.heap.size:=by
 obtain⟨⟨v,ps,h1,_⟩,_,_⟩:=h
 exact(Array.getElem?_eq_some_iff.1 h1).1
theorem DepsAt.tight {w:World} {base B:Nat} {d:Sp.Deps} {D:Nat→Prop} (h:DepsAt w base B d D):DepsAt w base B d (fun k=>D k∧k<w.heap.size):=by
 obtain⟨⟨v,ps,h1,h2,h3,h4,h5⟩,ho,hl⟩:=h
 exact⟨⟨v,ps,h1,h2,h3,fun k hk=>⟨h4 k hk,(h3.lt k hk).2⟩,fun x hx=>⟨(h5 x hx).1,fun k hk=>((h5 x hx).2 k hk).imp_left (fun hd=>⟨hd,((h5 x hx).1.lt k hk).2⟩)⟩⟩,⟨ho,(Array.getElem?_eq_some_iff.1 h1).1⟩,hl⟩
theorem OwnR.slice {α:Type} {e:TypeId} {size base:Nat} {f:α→List Value} {w:World} {v:Value} {l:List α} (h:OwnR e size f base w v l):∃a n c,v = .slice a n c:=by
 obtain⟨_,⟨rfl,_⟩ | ⟨g,cap,cur,rfl,_⟩⟩:=h <;> exact⟨_,_,_,rfl⟩
theorem OwnR.one {α:Type} {e:TypeId} {size base:Nat} {f:α→List Value} {w:World} {v:Value} {l:List α} (h:OwnR e size f base w v l):v.oneCell' = true:=by
 obtain⟨_,⟨rfl,_⟩ | ⟨g,cap,cur,rfl,_⟩⟩:=h <;> rfl
theorem depsFork_any {w:World} {base B:Nat} {d:Sp.Deps} {D:Nat→Prop} (h:DepsAt w base B d D) (hl:d.l.length≤1024) {b0:Nat} (hb0:b0≤w.heap.size) (hDb:∀k,D k→k<b0) (hbb:base≤b0) :
 Calls Tryz.prog 165 #[pt B] w fun e w'=>∃B',e = .returned (pt B')∧DepsAt w' b0 B' d (fun j=>b0≤j∧j<w'.heap.size)∧Below w.heap.size w w':=by
 obtain⟨⟨v,ps,h1,h2,h3,h4,h5⟩,ho,hlo⟩:=h
 have hpl:ps.length≤1024:=by rw[←h2,List.length_map] at hl; exact hl
 have hcl:=fun(W:World) (hW:Below w.heap.size w W)=>cloneChg_any (h3.below hW) (fun x hx=>(h5 x hx).1.one) hpl
 have hfin:∀(W W':World) (v':Value),Below w.heap.size w W→OwnR 209 6 chgC w.heap.size W v' ps→W' = W.alloc (depsO v' d.last)→DepsAt W' b0 W.heap.size d (fun j=>b0≤j∧j<W'.heap.size)∧Below w.heap.size w W':=fun W W' v' hW hv' he=>by
  subst he
  have hb:Below W.heap.size W (W.alloc (depsO v' d.last)):=bl2 _
  have hs:=hW.size
  have hz:(W.alloc (depsO v' d.last)).heap.size=W.heap.size+1:=by simp
  refine⟨⟨⟨v',ps,heapNew W _,h2,(hv'.below hb).mono hb0,fun k hk=>?_,fun x hx=>⟨(h5 x hx).1.below (hW.trans (hb.mono hs)),fun k hk=>Or.inr (((h5 x hx).2 k hk).elim (hDb k) (fun hlt=>by omega))⟩⟩,⟨by omega,by omega⟩,by omega⟩,hW.trans (hb.mono hs)⟩
  have:=hv'.lt k hk
  exact⟨by omega,by omega⟩
 have hx:∀W,Below w.heap.size w W→W.cell? ⟨B,0,none⟩=some v∧W.cell? ⟨B,1,none⟩=some (.int .i64 (d.last:Int)):=fun W hW=>⟨zc 0 (heapOld hW h1),zc 1 (heapOld hW h1)⟩
 unfold pt
 obtain⟨L,hL⟩:∃z:Int,(d.last:Int)=z:=⟨_,rfl⟩
 unfold depsO at hfin
 rw[hL] at hx hfin
 have HCL:=zh hcl
 have HFIN:=zh hfin
 have HX:=zh hx
 clear hcl hfin hx
 clear h1 h2 h3 h4 h5 ho hlo hpl hl hL hb0 hDb hbb
 go_enter Tryz.func165,Tryz.ntmps165
 go_upto_region 1 with fail
 have hSd:=HX.out w.drew (blD (Below.refl _ _))
 refine wp_region_last (fun W=>W.cell? ⟨B,0,none⟩=some v∧W.cell? ⟨B,1,none⟩=some (.int .i64 L)) 10 (by kernel_rfl) (by first | trivial | assumption) (fun hHeld hX0=>?_)
 refine tkU 0 ?_; clear hX0; intro hX0; simp only[Act.put,ps0]
 refine tkU 1 ?_; clear hX0; intro hX0; simp only[Act.put,ps0]
 refine tkU 2 ?_; clear hX0; intro hX0; simp only[Act.put,ps0]
 refine tkU 3 ?_; clear hX0; intro hX0; simp only[Act.put,ps0]
 refine tkU 5 ?_; clear hX0; intro hX0; simp only[Act.put,ps0]
 refine tkU 6 ?_; clear hX0; intro hX0; simp only[Act.put,ps0]
 refine tkU 7 ?_; clear hX0; intro hX0; simp only[Act.put,ps0]
 refine tkU 8 ?_; clear hX0; intro hX0; simp only[Act.put,ps0]
 refine AnyU.each (is:=[4]) (by kernel_rfl) (by simp) (EachU.cons hX0 (by kernel_rfl) rfl (fun K hK=>?_) EachU.nil)
 try simp only[gg0]
 go_simp
 refine(HCL.out _ (blD (Below.refl _ _))).mono ?_
 rintro e w2 ⟨v',rfl,hv2,hb2⟩
 obtain⟨va,vn,vc,rfl⟩:=hv2.slice
 have HB2:Hid (Below w.heap.size w w2):=blN (blD (Below.refl _ _)) hb2
 have HV2:=zh hv2
 clear hb2 hv2
 try simp only
 refine hK.out _ _ (fun _=>?hkS) (fun hHeld2 hX1=>?_)
 case hkS=>
  exact HX.out _ HB2.out
 clear hHeld; have hHeld:=hHeld2 (by decide)
 clear hK K hHeld2 hX0; have hX0:=hX1; clear hX1
 try simp only[Act.put,ps0]
 refine tkU 9 ?_; clear hX0; intro hX0; simp only[Act.put,ps0]
 refine AnyU.each (is:=[10]) (by kernel_rfl) (by simp) (EachU.cons hX0 (by kernel_rfl) rfl (fun K hK=>?_) EachU.nil)
 try simp only[gg0]
 go_simp
 try simp only
 refine hK.out _ _ (fun h=>absurd h (by decide)) (fun _ hX1=>?_)
 clear hK K hX0; have hX0:=hX1; clear hX1
 try simp only[Act.put,ps0]
 refine pkU 11 ?_; clear hX0; intro hX0; simp only[Act.put,ps0]
 refine AnyU.done (by kernel_rfl) ?_ _
 clear hSd hHeld hX0
 go_wp2
 go_ret
 obtain⟨r1,r2⟩:=HFIN.out w2 _ _ HB2.out HV2.out rfl
 exact⟨_,rfl,r1,r2⟩
theorem cloneFly_any {w:World} {fm:Nat} {l:List (Int×Int)} (h:IM.MapAt intV w fm l) :
 Calls Tryz.prog 166 #[.map (some fm)] w fun e w'=>e = .returned (.map (some w.heap.size))∧IM.MapAt intV w' w.heap.size l∧Below w.heap.size w w'∧w.heap.size<w'.heap.size:=by
 obtain⟨o,ho,es,cl,rfl,hi⟩:=h
 have hq:=fun w=>run_eql_map_nil_sl (P:=Tryz.prog) w 115 _ _ (some fm) Tryz.underlying115
 have HF:Hid (IM.MapAt intV (w.alloc (.map es cl)) w.heap.size l):=⟨_,heapNew w _,es,cl,rfl,hi⟩
 clear hi
 go_enter Tryz.func166,Tryz.ntmps166
 go_wp2
 rw[run_callFunc_extern Tryz.func232 (by kernel_rfl) (by kernel_rfl) (by kernel_rfl) (e:=Extern.MapsClone.clone) (by kernel_rfl),run_maps_clone_sl w 115 ho]
 simp only[Result.andThen]
 rw[Oper.upon_value]
 go_wp2
 rw[run_typeAssert_map_sl _ 115 20 _ _ _ Tryz.underlying115]
 simp only[Result.andThen]
 rw[Oper.upon_value]
 go_wp2
 go_ret
 exact⟨rfl,HF.out,bl2 _,by simp⟩
theorem softFork_any {w:World} {base B Bd:Nat} {S:Sp.Side} {D:Nat→Prop} (h:SideAt w base B Bd S D) (hl:S.deps.l.length≤1024) :
 Calls Tryz.prog 85 #[pt B] w fun e w'=>∃B' D',e = .returned (pt B')∧SideAt w' w.heap.size B' Bd S D'∧Below w.heap.size w w'∧∀j,D' j→w.heap.size≤j∧j<w'.heap.size:=by
 obtain⟨⟨Bc,fm,Dd,h1,h2,h3,h4,h5,h6,hd,hd'⟩,ho,hlo⟩:=h
 obtain⟨Dt,hdt,-,hlt⟩:=hd.tight
 have hdf:=fun(W:World) (hW:Below w.heap.size w W)=>depsFork_any (h2.tight.below hW) hl hW.size (fun k hk=>hk.2) (Nat.le_trans h2.low (Nat.le_of_lt h2.lt))
 have hcf:=fun(W:World) (hW:Below w.heap.size w W)=>cloneFly_any (h3.old (hW.block fm h3.lt))
 have hfin:∀(W W':World) (Bc' fm':Nat) (D1:Nat→Prop),Below w.heap.size w W→DepsAt W w.heap.size Bc' S.deps D1→(∀j,D1 j→w.heap.size≤j∧j<W.heap.size)→IM.MapAt intV W fm' S.fly→(w.heap.size≤fm'∧fm' < W.heap.size)→W' = W.alloc (softO Bc' Bd S.node S.epoch fm') →
  (∃D',SideAt W' w.heap.size W.heap.size Bd S D'∧Below w.heap.size w W'∧∀j,D' j→w.heap.size≤j∧j<W'.heap.size):=fun W W' Bc' fm' D1 hW hda hD1 hm hfm he=>by
  subst he
  have hb:Below W.heap.size W (W.alloc (softO Bc' Bd S.node S.epoch fm')):=bl2 _
  have hs:=hW.size
  have hz:(W.alloc (softO Bc' Bd S.node S.epoch fm')).heap.size=W.heap.size+1:=by simp
  have hbw:=hW.trans (hb.mono hs)
  refine⟨fun j=>w.heap.size≤j∧j<W.heap.size+1,⟨⟨Bc',fm',Dt,heapNew W _,(hda.below hb).mono (fun j hj=>by have:=hD1 j hj; omega),hm.old (hb.block fm' hfm.2),hfm.1,⟨hfm.1,by omega⟩,fun hh=>by have:=hlt _ hh; omega,hdt.below hbw,fun k hk=>Or.inr (hlt k hk)⟩,⟨hs,by omega⟩,hs⟩,hbw,fun j hj=>⟨hj.1,by omega⟩⟩
 have hx:∀W,Below w.heap.size w W→W.cell? ⟨B,0,none⟩=some (.pointer (some ⟨Bc,0,none⟩))∧W.cell? ⟨B,1,none⟩=some (.pointer (some ⟨Bd,0,none⟩))∧W.cell? ⟨B,2,none⟩=some (.int .i64 S.node)∧W.cell? ⟨B,3,none⟩=some (.int .i64 S.epoch)∧W.cell? ⟨B,4,none⟩=some (.map (some fm)):=fun W hW=>
  ⟨zc 0 (heapOld hW h1),zc 1 (heapOld hW h1),zc 2 (heapOld hW h1),zc 3 (heapOld hW h1),zc 4 (heapOld hW h1)⟩
 unfold pt at hdf ⊢
 obtain⟨no,hno⟩:=zx (S.node)
 obtain⟨ep,hep⟩:=zx (S.epoch)
 unfold softO pt at hfin
 rw[hno,hep] at hx hfin
 have HDF:=zh hdf
 have HCF:=zh hcf
 have HFIN:=zh hfin
 have HX:=zh hx
 clear hdf hcf hfin hx
 clear h1 h2 h3 h4 h5 h6 hd hd' ho hlo hl hdt hlt hno hep
 go_enter Tryz.func85,Tryz.ntmps85
 go_upto_region 1 with fail
 have hSd:=HX.out w.drew (blD (Below.refl _ _))
 refine wp_region_last (fun W=>W.cell? ⟨B,0,none⟩=some (.pointer (some ⟨Bc,0,none⟩))∧W.cell? ⟨B,1,none⟩=some (.pointer (some ⟨Bd,0,none⟩))∧W.cell? ⟨B,2,none⟩=some (.int .i64 no)∧W.cell? ⟨B,3,none⟩=some (.int .i64 ep)∧W.cell? ⟨B,4,none⟩=some (.map (some fm))) 23 (by kernel_rfl) (by first | trivial | assumption) (fun hHeld hX0=>?_)
 refine tkU 0 ?_; clear hX0; intro hX0; simp only[Act.put,ps0]
 refine tkU 1 ?_; clear hX0; intro hX0; simp only[Act.put,ps0]
 refine tkU 2 ?_; clear hX0; intro hX0; simp only[Act.put,ps0]
 refine tkU 3 ?_; clear hX0; intro hX0; simp only[Act.put,ps0]
 refine tkU 5 ?_; clear hX0; intro hX0; simp only[Act.put,ps0]
 refine tkU 6 ?_; clear hX0; intro hX0; simp only[Act.put,ps0]
 refine tkU 7 ?_; clear hX0; intro hX0; simp only[Act.put,ps0]
 refine tkU 8 ?_; clear hX0; intro hX0; simp only[Act.put,ps0]
 refine tkU 9 ?_; clear hX0; intro hX0; simp only[Act.put,ps0]
 refine tkU 10 ?_; clear hX0; intro hX0; simp only[Act.put,ps0]
 refine tkU 11 ?_; clear hX0; intro hX0; simp only[Act.put,ps0]
 refine tkU 12 ?_; clear hX0; intro hX0; simp only[Act.put,ps0]
 refine tkU 13 ?_; clear hX0; intro hX0; simp only[Act.put,ps0]
 refine tkU 14 ?_; clear hX0; intro hX0; simp only[Act.put,ps0]
 refine tkU 15 ?_; clear hX0; intro hX0; simp only[Act.put,ps0]
 refine tkU 16 ?_; clear hX0; intro hX0; simp only[Act.put,ps0]
 refine tkU 17 ?_; clear hX0; intro hX0; simp only[Act.put,ps0]
 refine tkU 18 ?_; clear hX0; intro hX0; simp only[Act.put,ps0]
 refine tkU 19 ?_; clear hX0; intro hX0; simp only[Act.put,ps0]
 refine tkU 20 ?_; clear hX0; intro hX0; simp only[Act.put,ps0]
 refine AnyU.each (is:=[4]) (by kernel_rfl) (by simp) (EachU.cons hX0 (by kernel_rfl) rfl (fun K hK=>?_) EachU.nil)
 try simp only[gg0]
 go_simp
 refine(HDF.out _ (blD (Below.refl _ _))).mono ?_
 rintro e w2 ⟨Bc',rfl,hd2,hb2⟩
 have HB2:Hid (Below w.heap.size w w2):=blN (blD (Below.refl _ _)) hb2
 have HD2:=zh hd2
 clear hb2 hd2
 try simp only
 refine hK.out _ _ (fun _=>?hkS) (fun hHeld2 hX1=>?_)
 case hkS=>
  exact HX.out _ HB2.out
 clear hHeld; have hHeld:=hHeld2 (by decide)
 clear hK K hHeld2 hX0; have hX0:=hX1; clear hX1
 try simp only[Act.put,ps0]
 refine AnyU.each (is:=[21]) (by kernel_rfl) (by simp) (EachU.cons hX0 (by kernel_rfl) rfl (fun K hK=>?_) EachU.nil)
 try simp only[gg0]
 go_simp
 refine(HCF.out _ HB2.out).mono ?_
 rintro e w3 ⟨rfl,hm3,hb3,hz3⟩
 have HB3:Hid (Below w.heap.size w w3):=blN HB2.out hb3
 have HD3:=zh (HD2.out.below hb3)
 have HM3:Hid (IM.MapAt intV w3 w2.heap.size S.fly∧w.heap.size≤w2.heap.size∧w2.heap.size<w3.heap.size):=⟨hm3,HB2.out.size,hz3⟩
 clear hm3 hb3 hz3
 try simp only
 refine hK.out _ _ (fun _=>?hkS) (fun hHeld2 hX1=>?_)
 case hkS=>
  exact HX.out _ HB3.out
 clear hHeld; have hHeld:=hHeld2 (by decide)
 clear hK K hHeld2 hX0; have hX0:=hX1; clear hX1
 try simp only[Act.put,ps0]
 refine tkU 22 ?_; clear hX0; intro hX0; simp only[Act.put,ps0]
 refine AnyU.each (is:=[23]) (by kernel_rfl) (by simp) (EachU.cons hX0 (by kernel_rfl) rfl (fun K hK=>?_) EachU.nil)
 try simp only[gg0]
 go_simp
 try simp only
 refine hK.out _ _ (fun h=>absurd h (by decide)) (fun _ hX1=>?_)
 clear hK K hX0; have hX0:=hX1; clear hX1
 try simp only[Act.put,ps0]
 refine pkU 24 ?_; clear hX0; intro hX0; simp only[Act.put,ps0]
 refine AnyU.done (by kernel_rfl) ?_ _
 clear hSd hHeld hX0
 go_wp2
 go_ret
 obtain⟨D',r1,r2,r3⟩:=HFIN.out w3 _ Bc' w2.heap.size _ HB3.out HD3.out (fun j hj=>⟨hj.1,by have:=hj.2; have:=HM3.out.2; omega⟩) HM3.out.1 HM3.out.2 rfl
 exact⟨_,D',rfl,r1,r2,r3⟩
end
