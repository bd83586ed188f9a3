/-
 AllB: AllocCalls,AllocFree,AllocCount,AllocLay.
-/
import Derived.Test.YtaphcmcimoloiaaGreatDoorAllA
import Derived.Test.YtaphcmcimoloiaaGreatDoorAllocA
set_option maxRecDepth 20000
set_option maxHeartbeats 8000000
namespace Go.Proofs.YtaphcmcimoloiaaGreatDoor
open Go Go.RowKit Txt Sp
theorem takeL_bd {S:Sp.Side} {g:Sp.Geom} {b:Bool}:∀ks:List Int,(∀k∈ks,0≤k∧k<g.groups)→(S.takeL g b ks).2.code=0 →
 (0≤(S.takeL g b ks).2.group∧(S.takeL g b ks).2.group<g.groups)∧(0≤(S.takeL g b ks).2.place∧(S.takeL g b ks).2.place<manyG g b)
 | [],_,h=>absurd (show(109:Int)=0 from h) (by decide)
 | k :: r,hk,h=>by
   unfold Side.takeL at h ⊢
   cases hl:S.look g k b with
   | none=>
     rw[hl] at h
     exact absurd (show(180:Int)=0 from h) (by decide)
   | some s=>
     rw[hl] at h
     dsimp only at h ⊢
     cases hf:freeP s (manyG g b).toNat with
     | none=>
       rw[hf] at h
       exact takeL_bd r (fun q hq=>hk q (List.mem_cons_of_mem _ hq)) h
     | some p=>
       have hp:=(freeP_some hf).1
       exact⟨hk k (List.mem_cons_self ..),by show(0:Int)≤p; omega,by show(p:Int)<_; omega⟩
theorem q15z.heap {w w':World} {base B Bd:Nat} {S':Sp.Side} {D:Nat→Prop} (h:q15z w base B Bd S' D w') {k:Nat} {o:Obj} (ho:w.heap[k]? = some o) (hk:¬D k):w'.heap[k]? = some o:=by
 obtain⟨_,K,hK,hT⟩:=h
 exact hT.heap ho (fun h=>hk (hK k h))
theorem ret_3' {a b c a' b' c':Int} (h:(a,b,c)=(a',b',c')):Ending.returned (.tuple #[.int .i64 a,.int .i64 b,.int .i64 c]) = .returned (.tuple #[.int .i64 a',.int .i64 b',.int .i64 c']):=by cases h; rfl
def GotPost (w:World) (base B Bd:Nat) (D:Nat→Prop) (T:Sp.Side×Int×Int×Int) (e:Ending) (w':World):Prop:=
 e = .returned (.tuple #[.int .i64 T.2.1,.int .i64 T.2.2.1,.int .i64 T.2.2.2])∧q15z w base B Bd T.1 D w'
section
theorem ablock_any {w:World} {base B Bd:Nat} {S:Sp.Side} {D:Nat→Prop} (h:SideAt w base B Bd S D) (hD:∀j,D j→j<w.heap.size) (hS:S.Ok) (hlast:S.deps.last<1000000000) {g:Sp.Geom} (hg:g.ok) (v:Value) (ks:List Int) (hv:Ints w v ks) (hks:∀k∈ks,0≤k∧k<g.groups) :
 Calls Tryz.prog 83 #[pt B,gV g,v] w (GotPost w base B Bd D (S.block g ks)):=by
 have ht:=fun(W:World) (hW:Below w.heap.size w W)=>atake_any (h.below hW) hS hlast hg true v ks (hv.below hW) hks
 have hbd:=takeL_bd (S:=S) (b:=true) ks hks
 have htk:S.take g true ks=S.takeL g true ks:=if_pos (wrongC_zero hg hks)
 have hP:∀w',q15z w base B Bd (S.takeL g true ks).1 D w'→∀a b c,(a,b,c)=(if(S.takeL g true ks).2.code=0 then(q22z g (S.takeL g true ks).2.group (S.takeL g true ks).2.place,(S.takeL g true ks).2.change,0) else(0,0,(S.takeL g true ks).2.code):Int×Int×Int) →
  GotPost w base B Bd D (S.block g ks) (.returned (.tuple #[.int .i64 a,.int .i64 b,.int .i64 c])) w':=fun w' hs a b c he=>by
  unfold Side.block
  rw[htk]
  by_cases h0:(S.takeL g true ks).2.code=0
  ·rw[if_pos h0] at he ⊢
   exact⟨ret_3' he,hs⟩
  ·rw[if_neg h0] at he ⊢
   exact⟨ret_3' he,hs⟩
 unfold q144z at ht
 obtain⟨R,hR⟩:∃R,S.takeL g true ks=R:=⟨_,rfl⟩
 rw[hR] at ht hbd hP
 clear hR
 obtain⟨S',tg,tp,tc,te⟩:=R
 dsimp only at ht hbd hP
 obtain⟨Q,hQ⟩:∃Q,GotPost w base B Bd D (S.block g ks)=Q:=⟨_,rfl⟩
 rw[hQ] at hP ⊢
 have hgk:=fun(W:World) (h0:te=0)=>gblock_any W g tg tp
 have hin:=fun h0:te=0=>blkAt_in hg (hbd h0).1 (hbd h0).2
 obtain⟨N,hN⟩:∃N,q22z g tg tp=N:=⟨_,rfl⟩
 rw[hN] at hP hin
 obtain⟨ga,gb,gc⟩:=g
 try simp only at hP
 unfold gV at ht hgk ⊢
 unfold pt at ht ⊢
 obtain⟨W0,hW0⟩:∃W,w.alloc (.cells #[.int .i64 ga,.int .i64 gb,.int .i64 gc] 27)=W:=⟨_,rfl⟩
 have hk:=q34z hW0
 have HB0:=Lib.hid hk.1
 have HK:=Lib.hid hk.2
 clear hk
 have HG0:Hid (W0.heap[w.heap.size]? = some (.cells #[.int .i64 ga,.int .i64 gb,.int .i64 gc] 27 (0,0))):=by rw[←hW0]; exact q2z w _
 have ht0:=ht W0 HB0.out
 have HND:Hid (¬D w.heap.size):=fun hd=>by have:=hD _ hd; omega
 have HT0:=Lib.hid ht0
 have HP:=Lib.hid hP
 have HGK:=Lib.hid hgk
 have HIN:=Lib.hid hin
 clear ht0 hP hgk hin
 clear ht h hD hS hlast hg hv hks htk hQ hbd hN
 obtain⟨z0,z1,z2⟩:=HK.out W0 (Below.refl _ _)
 go_enter Tryz.func83,Tryz.ntmps83
 go_wp2_with fail
 clear z0 z1 z2 hW0
 refine HT0.out.mono ?_
 rintro e w2 ⟨rfl,hs2⟩
 have hg2:=hs2.heap HG0.out HND.out
 have HS2:=Lib.hid (hs2.ahead HB0.out)
 clear hs2
 have z0:=cellOf (k:=0) hg2 rfl
 have z1:=cellOf (k:=1) hg2 rfl
 have z2:=cellOf (k:=2) hg2 rfl
 by_cases h0:te=0
 ·have hk:=fun W=>HGK.out W h0
  rw[HIN.out h0] at hk
  subst h0
  have HE:=Lib.hid (fun w' hb=>HP.out w' (HS2.out.behind hb) _ _ _ (if_pos rfl).symm)
  have HK:=Lib.hid hk
  clear hk
  clear hg2
  go_wp2_with fail
  clear z0 z1 z2
  refine(HK.out _).mono ?_
  rintro e w3 ⟨rfl,hb3⟩
  have HB3:=Lib.hid hb3
  clear hb3
  go_wp2
  first | exact HE.out _ HB3.out | (refine bodyPost_ret (v:=.tuple #[.int .i64 N,.int .i64 tc,.int .i64 0]) (by simp[results,Tryz.results83,go_sem]) rfl ?_; exact HE.out _ HB3.out)
 ·have q1:(te != 0)=true:=by simp[h0]
  have q2:(te == 0)=false:=beq_eq_false_iff_ne.2 h0
  have HE:=Lib.hid (HP.out w2 HS2.out _ _ _ (if_neg h0).symm)
  clear hg2 h0
  go_wp2
  first | exact HE.out | (refine bodyPost_ret (v:=.tuple #[.int .i64 0,.int .i64 0,.int .i64 te]) (by simp[results,Tryz.results83,go_sem]) rfl ?_; exact HE.out)
end
section
end
section
end
theorem own_at {n:Nat} {w:World} {v:Value} {l:List ByteArray} (h:q49z n w v l) (hp:0<l.length) :
 ∃b cap o,v = .slice (some ⟨b,0,none⟩) l.length cap∧n≤b∧b<w.heap.size∧w.heap[b]? = some o∧∀W:World,W.heap[b]? = some o→∀(j:Nat) (x:ByteArray),l[j]? = some x→W.cell? ⟨b,j,none⟩=some (.string x):=by
 obtain⟨e,h⟩:=h
 have h0:=h
 rcases h.2 with ⟨rfl,h1⟩ | ⟨g,cap,cur,rfl,hb,hh,hle,hm,hsz,hcur⟩
 ·omega
 ·refine⟨g,cap,_,rfl,hb,(Array.getElem?_eq_some_iff.1 hh).1,hh,fun W hW j x hx=>?_⟩
  have hj:=(List.getElem?_eq_some_iff.1 hx).1
  have hc:=h0.cellAt j (by omega)
  have hw:W.cell? ⟨g,j,none⟩=w.cell? ⟨g,j,none⟩:=by simp only[World.cell?,hW,hh]
  rw[hw,hc,List.getElem?_map,hx]
  rfl
theorem lay_step {F l:List ByteArray} {k:Nat} {x:ByteArray} (hx:F[k]? = some x) (hl:l.length=F.length):(F.take k ++ l.drop k).set k x=F.take (k+1) ++ l.drop (k+1):=by
 have hk:=(List.getElem?_eq_some_iff.1 hx).1
 have ht:(F.take k).length=k:=by rw[List.length_take]; omega
 rw[List.set_append_right _ _ (by omega),ht,Nat.sub_self,List.take_succ_eq_append_getElem hk,(List.getElem?_eq_some_iff.1 hx).2,List.drop_eq_getElem_cons (by omega),List.set_cons_zero,List.append_assoc]
 rfl
theorem secs_size (g:Sp.Geom) {k:Nat} {x:ByteArray} (hx:(q26z g)[k]? = some x):x.size=64:=by
 have hk:=(List.getElem?_eq_some_iff.1 hx).1
 rw[q74z] at hk
 rw[formatL_at g hk] at hx
 rw[←Option.some.inj hx]
 exact secAt_size g k
section
theorem alay_any {w:World} {base Bd:Nat} {d:Sp.Disk} {D:Nat→Prop} (h:DiskAt w base Bd d D) (hD:∀j,D j→j<w.heap.size) {g:Sp.Geom} (hg:g.ok) (hl:d.l.length=g.size.toNat) :
 Calls Tryz.prog 19 #[pt Bd,gV g] w fun e w'=>e = .returned (.int .i64 0)∧DiskAt w' base Bd { d with l:=q26z g } D∧∃K,(∀j,K j→D j)∧Turn K w w':=by
 have hz:=Geom.size_bd hg
 have hfm:=fun W:World=>aformat_any W g
 have hF:(q26z g).length=g.size.toNat:=q74z g
 have hsz:=fun(W:World) (hW:Below w.heap.size w W)=>diskSize_any (h.below hW)
 have hlay:=fun(W:World) (k:Nat) (x:ByteArray) (hx:(q26z g)[k]? = some x) (hd:DiskAt W base Bd { d with l:=(q26z g).take k ++ d.l.drop k } D)=>diskLay_any hd (k:Int) x
 have hone:∀(k:Nat) (x:ByteArray),(q26z g)[k]? = some x→Sp.Disk.layC { d with l:=(q26z g).take k ++ d.l.drop k } (k:Int) x=0∧Sp.Disk.lay { d with l:=(q26z g).take k ++ d.l.drop k } (k:Int) x = { d with l:=(q26z g).take (k+1) ++ d.l.drop (k+1) }:=fun k x hx=>by
  have hk:=(List.getElem?_eq_some_iff.1 hx).1
  have hc:Sp.Disk.layC { d with l:=(q26z g).take k ++ d.l.drop k } (k:Int) x=0:=by
   unfold Sp.Disk.layC
   rw[if_pos,if_pos (secs_size g hx)]
   refine⟨by omega,?_⟩
   show(k:Int)<(((q26z g).take k ++ d.l.drop k).length:Int)
   rw[List.length_append,List.length_take,List.length_drop]
   omega
  refine⟨hc,?_⟩
  unfold Sp.Disk.lay
  rw[if_pos hc,Int.toNat_natCast]
  dsimp only
  rw[lay_step hx (by rw[hl,hF])]
 have heq:=q88z
 have hdl:∀(W w':World),DiskAt w' base Bd { d with l:=(q26z g).take (q26z g).length ++ d.l.drop (q26z g).length } D→DiskAt w' base Bd { d with l:=q26z g } D:=fun W w' hh=>by
  rw[List.take_length,List.drop_of_length_le (by rw[hl,hF]; exact Nat.le_refl _),List.append_nil] at hh
  exact hh
 unfold q125z at hfm
 rw[Geom.check_ok hg,if_pos hg] at hfm
 obtain⟨F,hFd⟩:∃F,q26z g=F:=⟨_,rfl⟩
 rw[hFd] at hfm hF hlay hone hdl ⊢
 have hpos:0<F.length:=by omega
 have HD0:Hid (DiskAt w base Bd d D):=h
 obtain⟨ga,gb,gc⟩:=g
 unfold gV at hfm ⊢
 unfold pt at hsz hlay ⊢
 rw[hl,←hF] at hsz
 obtain⟨N,hN⟩:∃N,F.length=N:=⟨_,rfl⟩
 rw[hN] at hsz hdl hpos
 have HN:=Lib.hid hN
 have hnl:N≤403:=by omega
 obtain⟨W0,hW0⟩:∃W,w.alloc (.cells #[.int .i64 ga,.int .i64 gb,.int .i64 gc] 27)=W:=⟨_,rfl⟩
 have hk:=q34z hW0
 have HB0:=Lib.hid hk.1
 have HK:=Lib.hid hk.2
 clear hk
 have HFM:=Lib.hid hfm
 have HSZ:=Lib.hid hsz
 have HLAY:=Lib.hid hlay
 have HONE:=Lib.hid hone
 have HDL:=Lib.hid hdl
 have HD:=Lib.hid hD
 clear hfm hsz hlay hone hdl hD
 clear h hg hl hz hF hFd hN
 obtain⟨z0,z1,z2⟩:=HK.out W0 (Below.refl _ _)
 go_enter Tryz.func19,Tryz.ntmps19
 go_wp2_with fail
 clear z0 z1 z2
 refine(HFM.out _).mono ?_
 rintro e w1 ⟨v,rfl,hv,hb1⟩
 have HB1:=Lib.hid (blN HB0.out hb1)
 have hge:w.heap.size≤W0.heap.size:=HB0.out.size
 clear hb1
 obtain⟨b,cap,o,rfl,hb2,hb3,ho,hcell⟩:=own_at hv (by have:=HN.out; omega)
 rw[HN.out]
 have HO:=Lib.hid ho
 have HCell:=Lib.hid hcell
 have HND:Hid (¬D b):=fun hd=>by have:=HD.out _ hd; omega
 clear hv ho hcell hge
 go_wp2_with fail
 refine(HSZ.out _ HB1.out).mono ?_
 rintro e w2 ⟨rfl,hw2⟩
 subst hw2
 go_wp2
 go_loopw [28] (fun i wr=>∃k:Nat,k≤N∧i = .int .i64 (k:Int)∧Hid (DiskAt wr base Bd { d with l:=F.take k ++ d.l.drop k } D)∧Hid (∃K,(∀j,K j→D j)∧Turn K w2 wr)) (fun i _=>N-(intOf i).toNat)
 case atStart=>exact⟨0,Nat.zero_le _,rfl,HD0.out.below HB1.out,⟨fun _=>False,fun _ h=>h.elim,Turn.refl _ _⟩⟩
 case round=>
  obtain⟨k,hk,rfl,HDk,HTk⟩:=hrel
  by_cases hlt:k<N
  ·obtain⟨x,hx⟩:∃x,F[k]? = some x:=⟨_,List.getElem?_eq_getElem (by have:=HN.out; omega)⟩
   have hwo:wr.heap[b]? = some o:=by
    obtain⟨K,hK,hT⟩:=HTk.out
    exact hT.heap HO.out (fun h=>HND.out (hK _ h))
   have c0:=HCell.out wr hwo k x hx
   have hl:=HLAY.out wr k x hx HDk.out
   have h1:=HONE.out k x hx
   rw[h1.1,h1.2] at hl
   have HL:=Lib.hid hl
   clear hl h1 hwo hx
   go_wp2_with fail
   refine HL.out.mono ?_
   rintro e w4 ⟨rfl,hd4,K4,hK4,_,hT4⟩
   have HD4:=Lib.hid hd4
   have HT4:Hid (∃K,(∀j,K j→D j)∧Turn K w2 w4):=by
    obtain⟨K,hK,hT⟩:=HTk.out
    exact⟨fun j=>K j∨K4 j,fun j hj=>hj.elim (hK j) (hK4 j),hT.trans hT4 (fun _ _ h=>Or.inl h) (fun _ _ h=>Or.inr h)⟩
   clear hd4 hK4 hT4
   go_wp2
   go_roundw
   case rel=>exact⟨k+1,by omega,by go_num,HD4,HT4⟩
   case measure=>simp[intOf]; omega
  ·obtain rfl:k=N:=by omega
   have HEnd:Hid (DiskAt wr base Bd { d with l:=F } D∧∃K,(∀j,K j→D j)∧Turn K w wr):=by
    obtain⟨K,hK,hT⟩:=HTk.out
    exact⟨HDL.out w wr HDk.out,K,hK,(Turn.of_below (K:=K) HB1.out).trans hT (fun _ _ h=>h) (fun _ _ h=>h)⟩
   go_wp2
   go_ret
   exact⟨rfl,HEnd.out⟩
end
end Go.Proofs.YtaphcmcimoloiaaGreatDoor
