/-
 AllB: AllocCalls,AllocFree,AllocCount,AllocLay.
-/
import Derived.Test.YtgofmnhfajmbfaaGreatDoorAllA
import Derived.Test.YtgofmnhfajmbfaaGreatDoorAllocA
set_option maxRecDepth 20000
set_option maxHeartbeats 8000000
namespace Go.Proofs.YtgofmnhfajmbfaaGreatDoor
open Go Go.RowKit Txt Sp
theorem takeL_bd {S:Sp.Side} {g:Sp.Geom} {b:Bool}:∀ks:List Int,(∀k∈ks,0≤k∧k<g.groups)→(S.takeL g b ks).2.code=0 →
 (0≤(S.takeL g b ks).2.group∧(S.takeL g b ks).2.group<g.groups)∧(0≤(S.takeL g b ks).2.place∧(S.takeL g b ks).2.place<manyG g b)
 | [],_,h=>absurd (show(109:Int)=0 from h) (by decide)
 | k :: r,hk,h=>by
   unfold Side.takeL at h ⊢
   cases hl:S.look g k b with
   | none=>
     rw[hl] at h
     exact absurd (show(180:Int)=0 from h) (by decide)
   | some s=>
     rw[hl] at h
     dsimp only at h ⊢
     cases hf:freeP s (manyG g b).toNat with
     | none=>
       rw[hf] at h
       exact takeL_bd r (fun q hq=>hk q (List.mem_cons_of_mem _ hq)) h
     | some p=>
       have hp:=(freeP_some hf).1
       exact⟨hk k (List.mem_cons_self ..),by show(0:Int)≤p; omega,by show(p:Int)<_; omega⟩
theorem q18z.heap {w w':World} {base B Bd:Nat} {S':Sp.Side} {D:Nat→Prop} (h:q18z w base B Bd S' D w') {k:Nat} {o:Obj} (ho:w.heap[k]? = some o) (hk:¬D k):w'.heap[k]? = some o:=by
 obtain⟨_,K,hK,hT⟩:=h
 exact hT.heap ho (fun h=>hk (hK k h))
theorem ret_3' {a b c a' b' c':Int} (h:(a,b,c)=(a',b',c')):Ending.returned (.tuple #[.int .i64 a,.int .i64 b,.int .i64 c]) = .returned (.tuple #[.int .i64 a',.int .i64 b',.int .i64 c']):=by cases h; rfl
def GotPost (w:World) (base B Bd:Nat) (D:Nat→Prop) (T:Sp.Side×Int×Int×Int) (e:Ending) (w':World):Prop:=
 e = .returned (.tuple #[.int .i64 T.2.1,.int .i64 T.2.2.1,.int .i64 T.2.2.2])∧q18z w base B Bd T.1 D w'
def q55z (w:World) (base B Bd:Nat) (D:Nat→Prop) (T:Sp.Side×Int×Int) (e:Ending) (w':World):Prop:=
 e = .returned (.tuple #[.int .i64 T.2.1,.int .i64 T.2.2])∧q18z w base B Bd T.1 D w'
section
theorem ablock_any {w:World} {base B Bd:Nat} {S:Sp.Side} {D:Nat→Prop} (h:SideAt w base B Bd S D) (hD:∀j,D j→j<w.heap.size) (hS:S.Ok) (hlast:S.deps.last<1000000000) {g:Sp.Geom} (hg:g.ok) (v:Value) (ks:List Int) (hv:Ints w v ks) (hks:∀k∈ks,0≤k∧k<g.groups) :
 Calls Tryz.prog 58 #[pt B,gV g,v] w (GotPost w base B Bd D (S.block g ks)):=by
 have ht:=fun(W:World) (hW:Below w.heap.size w W)=>atake_any (h.below hW) hS hlast hg true v ks (hv.below hW) hks
 have hbd:=takeL_bd (S:=S) (b:=true) ks hks
 have htk:S.take g true ks=S.takeL g true ks:=if_pos (wrongC_zero hg hks)
 have hP:∀w',q18z w base B Bd (S.takeL g true ks).1 D w'→∀a b c,(a,b,c)=(if(S.takeL g true ks).2.code=0 then(q2z g (S.takeL g true ks).2.group (S.takeL g true ks).2.place,(S.takeL g true ks).2.change,0) else(0,0,(S.takeL g true ks).2.code):Int×Int×Int) →
  GotPost w base B Bd D (S.block g ks) (.returned (.tuple #[.int .i64 a,.int .i64 b,.int .i64 c])) w':=fun w' hs a b c he=>by
  unfold Side.block
  rw[htk]
  by_cases h0:(S.takeL g true ks).2.code=0
  ·rw[if_pos h0] at he ⊢
   exact⟨ret_3' he,hs⟩
  ·rw[if_neg h0] at he ⊢
   exact⟨ret_3' he,hs⟩
 unfold q155z at ht
 obtain⟨R,hR⟩:=zx (S.takeL g true ks)
 rw[hR] at ht hbd hP
 clear hR
 obtain⟨S',tg,tp,tc,te⟩:=R
 dsimp only at ht hbd hP
 obtain⟨Q,hQ⟩:=zx (GotPost w base B Bd D (S.block g ks))
 rw[hQ] at hP ⊢
 have hgk:=fun(W:World) (h0:te=0)=>gblock_any W g tg tp
 have hin:=fun h0:te=0=>blkAt_in hg (hbd h0).1 (hbd h0).2
 obtain⟨N,hN⟩:=zx (q2z g tg tp)
 rw[hN] at hP hin
 obtain⟨ga,gb,gc⟩:=g
 try simp only at hP
 unfold gV at ht hgk ⊢
 unfold pt at ht ⊢
 obtain⟨W0,hW0⟩:=zg w ga gb gc
 have hk:=q30z hW0
 have HB0:=zh hk.1
 have HK:=zh hk.2
 clear hk
 have HG0:Hid (W0.heap[w.heap.size]? = some (.cells #[.int .i64 ga,.int .i64 gb,.int .i64 gc] 23 (0,0))):=by rw[←hW0]; exact heapNew w _
 have ht0:=ht W0 HB0.out
 have HND:Hid (¬D w.heap.size):=fun hd=>by have:=hD _ hd; omega
 have HT0:=zh ht0
 have HP:=zh hP
 have HGK:=zh hgk
 have HIN:=zh hin
 clear ht0 hP hgk hin
 clear ht h hD hS hlast hg hv hks htk hQ hbd hN
 obtain⟨z0,z1,z2⟩:=HK.out W0 (Below.refl _ _)
 go_enter Tryz.func58,Tryz.ntmps58
 go_wp2_with fail
 clear z0 z1 z2 hW0
 refine HT0.out.mono ?_
 rintro e w2 ⟨rfl,hs2⟩
 have hg2:=hs2.heap HG0.out HND.out
 have HS2:=zh (hs2.ahead HB0.out)
 clear hs2
 have z0:=zc 0 hg2
 have z1:=zc 1 hg2
 have z2:=zc 2 hg2
 by_cases h0:te=0
 ·have hk:=fun W=>HGK.out W h0
  rw[HIN.out h0] at hk
  subst h0
  have HE:=zh (fun w' hb=>HP.out w' (HS2.out.behind hb) _ _ _ (if_pos rfl).symm)
  have HK:=zh hk
  clear hk
  clear hg2
  go_wp2_with fail
  clear z0 z1 z2
  refine(HK.out _).mono ?_
  rintro e w3 ⟨rfl,hb3⟩
  have HB3:=zh hb3
  clear hb3
  go_wp2
  first | exact HE.out _ HB3.out | (refine bodyPost_ret (v:=.tuple #[.int .i64 N,.int .i64 tc,.int .i64 0]) (by simp[results,Tryz.results58,go_sem]) rfl ?_; exact HE.out _ HB3.out)
 ·have q1:(te != 0)=true:=by simp[h0]
  have q2:(te == 0)=false:=beq_eq_false_iff_ne.2 h0
  have HE:=zh (HP.out w2 HS2.out _ _ _ (if_neg h0).symm)
  clear hg2 h0
  go_wp2
  first | exact HE.out | (refine bodyPost_ret (v:=.tuple #[.int .i64 0,.int .i64 0,.int .i64 te]) (by simp[results,Tryz.results58,go_sem]) rfl ?_; exact HE.out)
theorem agive_any {w:World} {base B Bd:Nat} {S:Sp.Side} {D:Nat→Prop} (h:SideAt w base B Bd S D) (hS:S.Ok) (hlast:S.deps.last<1000000000) {g:Sp.Geom} (hg:g.ok) (b:Bool) {k p:Int} (hk:0≤k∧k<g.groups) (hp:0≤p∧p<manyG g b) (v:Value) (ahead:List Int) (hv:Ints w v ahead) (hal:ahead.length≤100000) :
 Calls Tryz.prog 178 #[pt B,gV g,.bool b,.int .i64 k,.int .i64 p,v] w (q55z w base B Bd D (S.give g b k p ahead)):=by
 have hlook:=fun(W:World) (hW:Below w.heap.size w W)=>alook_any (h.below hW) hS hg hk b
 have hmp:manyC (manyG g b) p=0:=by
  have:=manyG_ok hg b
  unfold manyC
  rw[if_neg (by omega)]
 have hset:=fun(W:World) (hW:Below w.heap.size w W) (t:ByteArray)=>aset_any (h.below hW) hS hlast (q3z g k b) t (manyG g b) p false hmp v ahead (hv.below hW) hal
 simp only[Bool.false_eq_true,if_false] at hset
 have hno:∀w',S.look g k b=none→Below w.heap.size w w'→q55z w base B Bd D (S.give g b k p ahead) (.returned (.tuple #[.int .i64 0,.int .i64 180])) w':=fun w' hl hb=>by
  unfold Side.give
  rw[hl]
  exact⟨rfl,q18z.none h hb⟩
 have hfree:∀t w',S.look g k b=some t→¬t.data.toList.getD p.toNat 0=1→Below w.heap.size w w'→q55z w base B Bd D (S.give g b k p ahead) (.returned (.tuple #[.int .i64 0,.int .i64 120])) w':=fun t w' hl hb1 hb=>by
  unfold Side.give
  rw[hl]
  dsimp only
  rw[if_neg (fun h=>hb1 h.2.2)]
  exact⟨rfl,q18z.none h hb⟩
 have hyes:∀t W w',S.look g k b=some t→t.data.toList.getD p.toNat 0=1→Below w.heap.size w W→q18z W base B Bd (S.change (q3z g k b) p zeroB ahead) D w' →
  q55z w base B Bd D (S.give g b k p ahead) (.returned (.tuple #[.int .i64 (S.changeN (q3z g k b) p zeroB ahead),.int .i64 (S.changeC (q3z g k b) p zeroB ahead)])) w':=fun t W w' hl hb1 hb hs=>by
  unfold Side.give
  rw[hl]
  dsimp only
  rw[if_pos ⟨hp.1,hp.2,hb1⟩]
  exact⟨rfl,hs.ahead hb⟩
 have htk:=fun(W:World) (t:ByteArray) (ht:S.look g k b=some t)=>mtaken_any W t (manyG g b) p (q70z ht).2.2 hp
 obtain⟨Q,hQ⟩:=zx (q55z w base B Bd D (S.give g b k p ahead))
 rw[hQ] at hno hfree hyes ⊢
 unfold q154z q192z at hlook
 obtain⟨n,hn⟩:=zx (manyG g b)
 obtain⟨a,ha⟩:=zx (q3z g k b)
 rw[hn,ha] at hlook hset
 rw[hn] at htk
 rw[ha] at hyes
 obtain⟨Y,hY⟩:=zx (S.changeN a p zeroB ahead)
 obtain⟨Z,hZ⟩:=zx (S.changeC a p zeroB ahead)
 rw[hY,hZ] at hset hyes
 obtain⟨L,hL⟩:=zx (S.look g k b)
 rw[hL] at hlook hno hfree hyes htk
 obtain⟨ga,gb,gc⟩:=g
 unfold gV at hlook ⊢
 unfold pt at hlook hset ⊢
 obtain⟨W0,hW0⟩:=zg w ga gb gc
 have hk:=q30z hW0
 have HB0:=zh hk.1
 have HK:=zh hk.2
 clear hk
 have hl0:=hlook W0 HB0.out
 clear h hS hlast hg hk hp hv hal hmp hQ hn ha hL hY hZ hlook
 cases L with
 | none=>
   dsimp only at hl0
   have HNO:=zh (fun w'=>hno w' rfl)
   have HL0:=zh hl0
   clear hl0
   clear hno hfree hyes htk hset
   obtain⟨z0,z1,z2⟩:=HK.out W0 (Below.refl _ _)
   go_enter Tryz.func178,Tryz.ntmps178
   go_wp2_with fail
   clear z0 z1 z2 hW0
   refine HL0.out.mono ?_
   rintro e w2 ⟨rfl,hb2⟩
   have HB2:=zh (blN HB0.out hb2)
   clear hb2
   go_wp2
   first | exact HNO.out _ (bl1 HB2.out _) | (go_ret2; exact HNO.out _ (bl1 HB2.out _))
 | some t=>
   dsimp only at hl0
   have htk2:=fun W=>htk W t rfl
   obtain⟨x,hx⟩:=zx (t.data.toList.getD p.toNat 0)
   rw[hx] at htk2
   have hset2:=fun W hW=>hset W hW t
   have hfr:=fun w'=>hfree t w' rfl
   have hye:=fun W w'=>hyes t W w' rfl
   rw[hx] at hfr hye
   have HL0:=zh hl0
   have HTK2:=zh htk2
   have HSET2:=zh hset2
   have HFR:=zh hfr
   have HYE:=zh hye
   clear hl0 htk2 hset2 hfr hye
   clear hno hfree hyes htk hset hx
   obtain⟨z0,z1,z2⟩:=HK.out W0 (Below.refl _ _)
   go_enter Tryz.func178,Tryz.ntmps178
   go_wp2_with fail
   clear z0 z1 z2 hW0
   refine HL0.out.mono ?_
   rintro e w2 ⟨rfl,hb2⟩
   have HB2:=zh (blN HB0.out hb2)
   clear hb2
   obtain⟨W3,hW3⟩:=zx (w2.alloc (.cells #[.pointer (some ⟨B,0,none⟩),.int .i64 a,.string t,.int .i64 n] 176))
   have HB3:Hid (Below w.heap.size w W3):=by rw[←hW3]; exact bl1 HB2.out _
   have HC3:Hid (W3.heap[w2.heap.size]? = some (.cells #[.pointer (some ⟨B,0,none⟩),.int .i64 a,.string t,.int .i64 n] 176 (0,0))):=by rw[←hW3]; exact heapNew w2 _
   have y2:=zc 2 HC3.out
   have y3:=zc 3 HC3.out
   go_wp2_with fail
   clear y2 y3 hW3
   refine(HTK2.out _).mono ?_
   rintro e w4 ⟨rfl,hb4⟩
   have HB4:=zh (blN HB3.out hb4)
   have HC4:=zh (heapOld hb4 HC3.out)
   clear hb4
   by_cases h1:x=1
   ·have q1:(x == 1)=true:=beq_iff_eq.2 h1
    have HE:=zh (fun W w' hb hs=>HYE.out W w' h1 hb hs)
    have y0:=zc 0 HC4.out
    have y1:=zc 1 HC4.out
    have y2:=zc 2 HC4.out
    have y3:=zc 3 HC4.out
    clear h1
    rw[q1]
    go_wp2_with fail
    clear y0 y1 y2 y3
    refine(HSET2.out _ HB4.out).mono ?_
    rintro e w5 ⟨rfl,hs5⟩
    have HF5:=zh (HE.out _ _ HB4.out hs5)
    clear hs5
    go_wp2
    first | exact HF5.out | (go_ret2; exact HF5.out)
   ·have q1:(x == 1)=false:=beq_eq_false_iff_ne.2 h1
    have HE:=zh (fun w' hb=>HFR.out w' h1 hb)
    clear h1
    rw[q1]
    go_wp2
    first | exact HE.out _ HB4.out | (go_ret2; exact HE.out _ HB4.out)
end
theorem blockC_bd {g:Sp.Geom} {s:Int} (h:q43z g s=0):(0≤(g.kind s).2 / g.blocks∧(g.kind s).2 / g.blocks<g.groups)∧(0≤(g.kind s).2 % g.blocks∧(g.kind s).2 % g.blocks<g.blocks):=by
 unfold q43z at h
 split at h
 ·rename_i hg
  split at h
  ·exact absurd h (by decide)
  ·rename_i hr
   split at h
   ·rename_i h6
    have hnf:¬s<g.first 0:=fun hf=>by
     unfold Geom.kind at h6
     rw[if_pos hf] at h6
     split at h6
     ·simp only at h6
      omega
     ·exact absurd (show(2:Int)=6 from h6) (by decide)
    obtain⟨d0,d1,d2,d3⟩:=group_bd hg hnf (by omega)
    have hb:=hg.2.2.2.2
    have hl:g.long=2+g.inodes+g.blocks:=rfl
    unfold Geom.kind at h6 ⊢
    rw[if_neg hnf] at h6 ⊢
    by_cases h7:2+g.inodes≤(s-g.first 0) % g.long
    ·rw[if_pos h7]
     dsimp only
     obtain⟨q,hq⟩:=zx ((s-g.first 0) / g.long)
     obtain⟨r,hr⟩:=zx ((s-g.first 0) % g.long)
     rw[hq] at d0 d1 ⊢
     rw[hr] at d2 d3 h7 ⊢
     rw[show q*g.blocks+r-2-g.inodes=(r-2-g.inodes)+q*g.blocks by omega,Int.add_mul_ediv_right _ _ (by omega),Int.add_mul_emod_self_right,Int.ediv_eq_zero_of_lt (by omega) (by omega),Int.emod_eq_of_lt (by omega) (by omega)]
     omega
    ·rw[if_neg h7] at h6
     split at h6
     ·exact absurd (show(5:Int)=6 from h6) (by decide)
     ·simp only at h6
      omega
   ·exact absurd h (by decide)
 ·exact absurd h (by decide)
theorem q55z.ahead {w w1 w':World} {base B Bd:Nat} {D:Nat→Prop} {T:Sp.Side×Int×Int} {e:Ending} (hb:Below w.heap.size w w1) (h:q55z w1 base B Bd D T e w'):q55z w base B Bd D T e w':=⟨h.1,h.2.ahead hb⟩
section
theorem afreeBlock_any {w:World} {base B Bd:Nat} {S:Sp.Side} {D:Nat→Prop} (h:SideAt w base B Bd S D) (hS:S.Ok) (hlast:S.deps.last<1000000000) {g:Sp.Geom} (hg:g.ok) (n:Int) (v:Value) (ahead:List Int) (hv:Ints w v ahead) (hal:ahead.length≤100000) :
 Calls Tryz.prog 177 #[pt B,gV g,.int .i64 n,v] w (q55z w base B Bd D (S.freeBlock g n ahead)):=by
 have hw:=fun(W:World)=>awrong_any W B g hg (.slice none 0 0) [] (RowAt.void _ 1) (by simp)
 have hi:=fun W:World=>gplace_any W g n
 have i2:q43z g n=0→q83z g n=((g.kind n).2 / g.blocks,(g.kind n).2 % g.blocks,0):=fun hc=>by unfold q83z; rw[if_pos hc]
 have i5:q43z g n≠0→q83z g n=(0,0,q43z g n):=fun hc=>by unfold q83z; rw[if_neg hc]
 have hno:∀w',q43z g n≠0→Below w.heap.size w w'→q55z w base B Bd D (S.freeBlock g n ahead) (.returned (.tuple #[.int .i64 0,.int .i64 (q43z g n)])) w':=fun w' hc hb=>by
  unfold Side.freeBlock
  rw[if_neg hc]
  exact⟨rfl,q18z.none h hb⟩
 have hgv:=fun(W:World) (hW:Below w.heap.size w W) (hc:q43z g n=0)=>agive_any (h.below hW) hS hlast hg true (blockC_bd hc).1 (blockC_bd hc).2 v ahead (hv.below hW) hal
 have hyes:∀W e w',q43z g n=0→Below w.heap.size w W→q55z W base B Bd D (S.give g true ((g.kind n).2 / g.blocks) ((g.kind n).2 % g.blocks) ahead) e w'→q55z w base B Bd D (S.freeBlock g n ahead) e w':=fun W e w' hc hb hp=>by
  unfold Side.freeBlock
  rw[if_pos hc]
  exact hp.ahead hb
 obtain⟨x2,hx2⟩:=zx ((g.kind n).2 / g.blocks)
 obtain⟨x3,hx3⟩:=zx ((g.kind n).2 % g.blocks)
 rw[hx2,hx3] at hgv hyes i2
 obtain⟨c,hc⟩:=zx (q43z g n)
 rw[hc] at hno hgv hyes i2 i5
 obtain⟨Q,hQ⟩:=zx (q55z w base B Bd D (S.freeBlock g n ahead))
 rw[hQ] at hno hyes ⊢
 clear hQ hc hx2 hx3 h hS hlast hg hv hal
 by_cases h0:c=0
 ·subst h0
  rw[i2 rfl] at hi
  obtain⟨Y,hY⟩:=zx (S.give g true x2 x3 ahead)
  rw[hY] at hgv hyes
  obtain⟨S',y1,y2⟩:=Y
  have hgv2:=fun W hW=>hgv W hW rfl
  have hye:=fun W e w'=>hyes W e w' rfl
  clear hno hyes hgv i2 i5 hY
  obtain⟨ga,gb,gc⟩:=g
  unfold gV at hw hi hgv2 ⊢
  unfold pt at hw hgv2 ⊢
  obtain⟨W0,hW0⟩:=zg w ga gb gc
  have hk:=q30z hW0
  have HB0:=zh hk.1
  have HK:=zh hk.2
  clear hk
  have HW:=zh hw
  have HI:=zh hi
  have HGV2:=zh hgv2
  have HYE:=zh hye
  clear hw hi hgv2 hye
  obtain⟨z0,z1,z2⟩:=HK.out W0 (Below.refl _ _)
  go_enter Tryz.func177,Tryz.ntmps177
  go_wp2_with fail
  clear z0 z1 z2
  refine(HW.out _).mono ?_
  rintro e w1 ⟨rfl,hb1⟩
  have HB1:=zh hb1
  clear hb1
  obtain⟨z0,z1,z2⟩:=HK.out w1 HB1.out
  go_wp2_with fail
  clear z0 z1 z2
  refine(HI.out _).mono ?_
  rintro e w2 ⟨rfl,hb2⟩
  have HB2:=zh (blN HB1.out hb2)
  clear hb2
  obtain⟨z0,z1,z2⟩:=HK.out w2 HB2.out
  go_wp2_with fail
  clear z0 z1 z2
  refine(HGV2.out _ (blN HB0.out HB2.out)).mono ?_
  intro e w3 hp3
  have HP3:=zh (HYE.out _ _ _ (blN HB0.out HB2.out) hp3)
  obtain⟨he,-⟩:=hp3
  subst he
  go_wp2
  first | exact HP3.out | (go_ret2; exact HP3.out)
 ·have q1:(c != 0)=true:=by simp[h0]
  have q2:(c == 0)=false:=beq_eq_false_iff_ne.2 h0
  rw[i5 h0] at hi
  have hn:=fun w'=>hno w' h0
  clear hno hyes hgv i2 i5 h0
  obtain⟨ga,gb,gc⟩:=g
  unfold gV at hw hi ⊢
  unfold pt at hw ⊢
  obtain⟨W0,hW0⟩:=zg w ga gb gc
  have hk:=q30z hW0
  have HB0:=zh hk.1
  have HK:=zh hk.2
  clear hk
  have HW:=zh hw
  have HI:=zh hi
  have HN:=zh hn
  clear hw hi hn
  obtain⟨z0,z1,z2⟩:=HK.out W0 (Below.refl _ _)
  go_enter Tryz.func177,Tryz.ntmps177
  go_wp2_with fail
  clear z0 z1 z2
  refine(HW.out _).mono ?_
  rintro e w1 ⟨rfl,hb1⟩
  have HB1:=zh hb1
  clear hb1
  obtain⟨z0,z1,z2⟩:=HK.out w1 HB1.out
  go_wp2_with fail
  clear z0 z1 z2
  refine(HI.out _).mono ?_
  rintro e w2 ⟨rfl,hb2⟩
  have HB2:=zh (blN HB1.out hb2)
  clear hb2
  go_wp2
  first | exact HN.out _ (blN HB0.out HB2.out) | (go_ret2; exact HN.out _ (blN HB0.out HB2.out))
end
section
end
theorem own_at {n:Nat} {w:World} {v:Value} {l:List ByteArray} (h:q46z n w v l) (hp:0<l.length) :
 ∃b cap o,v = .slice (some ⟨b,0,none⟩) l.length cap∧n≤b∧b<w.heap.size∧w.heap[b]? = some o∧∀W:World,W.heap[b]? = some o→∀(j:Nat) (x:ByteArray),l[j]? = some x→W.cell? ⟨b,j,none⟩=some (.string x):=by
 obtain⟨e,h⟩:=h
 have h0:=h
 rcases h.2 with ⟨rfl,h1⟩ | ⟨g,cap,cur,rfl,hb,hh,hle,hm,hsz,hcur⟩
 ·omega
 ·refine⟨g,cap,_,rfl,hb,(Array.getElem?_eq_some_iff.1 hh).1,hh,fun W hW j x hx=>?_⟩
  have hj:=(List.getElem?_eq_some_iff.1 hx).1
  have hc:=h0.cellAt j (by omega)
  have hw:W.cell? ⟨g,j,none⟩=w.cell? ⟨g,j,none⟩:=by simp only[World.cell?,hW,hh]
  rw[hw,hc,List.getElem?_map,hx]
  rfl
theorem lay_step {F l:List ByteArray} {k:Nat} {x:ByteArray} (hx:F[k]? = some x) (hl:l.length=F.length):(F.take k ++ l.drop k).set k x=F.take (k+1) ++ l.drop (k+1):=by
 have hk:=(List.getElem?_eq_some_iff.1 hx).1
 have ht:(F.take k).length=k:=by rw[List.length_take]; omega
 rw[List.set_append_right _ _ (by omega),ht,Nat.sub_self,List.take_succ_eq_append_getElem hk,(List.getElem?_eq_some_iff.1 hx).2,List.drop_eq_getElem_cons (by omega),List.set_cons_zero,List.append_assoc]
 rfl
theorem secs_size (g:Sp.Geom) {k:Nat} {x:ByteArray} (hx:(q24z g)[k]? = some x):x.size=64:=by
 have hk:=(List.getElem?_eq_some_iff.1 hx).1
 rw[q61z] at hk
 rw[formatL_at g hk] at hx
 rw[←Option.some.inj hx]
 exact secAt_size g k
section
theorem alay_any {w:World} {base Bd:Nat} {d:Sp.Disk} {D:Nat→Prop} (h:DiskAt w base Bd d D) (hD:∀j,D j→j<w.heap.size) {g:Sp.Geom} (hg:g.ok) (hl:d.l.length=g.size.toNat) :
 Calls Tryz.prog 10 #[pt Bd,gV g] w fun e w'=>e = .returned (.int .i64 0)∧DiskAt w' base Bd { d with l:=q24z g } D∧∃K,(∀j,K j→D j)∧Turn K w w':=by
 have hz:=Geom.size_bd hg
 have hfm:=fun W:World=>aformat_any W g
 have hF:(q24z g).length=g.size.toNat:=q61z g
 have hsz:=fun(W:World) (hW:Below w.heap.size w W)=>diskSize_any (h.below hW)
 have hlay:=fun(W:World) (k:Nat) (x:ByteArray) (hx:(q24z g)[k]? = some x) (hd:DiskAt W base Bd { d with l:=(q24z g).take k ++ d.l.drop k } D)=>q126z hd (k:Int) x
 have hone:∀(k:Nat) (x:ByteArray),(q24z g)[k]? = some x→Sp.Disk.layC { d with l:=(q24z g).take k ++ d.l.drop k } (k:Int) x=0∧Sp.Disk.lay { d with l:=(q24z g).take k ++ d.l.drop k } (k:Int) x = { d with l:=(q24z g).take (k+1) ++ d.l.drop (k+1) }:=fun k x hx=>by
  have hk:=(List.getElem?_eq_some_iff.1 hx).1
  have hc:Sp.Disk.layC { d with l:=(q24z g).take k ++ d.l.drop k } (k:Int) x=0:=by
   unfold Sp.Disk.layC
   rw[if_pos,if_pos (secs_size g hx)]
   refine⟨by omega,?_⟩
   show(k:Int)<(((q24z g).take k ++ d.l.drop k).length:Int)
   rw[List.length_append,List.length_take,List.length_drop]
   omega
  refine⟨hc,?_⟩
  unfold Sp.Disk.lay
  rw[if_pos hc,Int.toNat_natCast]
  dsimp only
  rw[lay_step hx (by rw[hl,hF])]
 have heq:=eql_disk_nil
 have hdl:∀(W w':World),DiskAt w' base Bd { d with l:=(q24z g).take (q24z g).length ++ d.l.drop (q24z g).length } D→DiskAt w' base Bd { d with l:=q24z g } D:=fun W w' hh=>by
  rw[List.take_length,List.drop_of_length_le (by rw[hl,hF]; exact Nat.le_refl _),List.append_nil] at hh
  exact hh
 unfold q121z at hfm
 rw[Geom.check_ok hg,if_pos hg] at hfm
 obtain⟨F,hFd⟩:=zx (q24z g)
 rw[hFd] at hfm hF hlay hone hdl ⊢
 have hpos:0<F.length:=by omega
 have HD0:Hid (DiskAt w base Bd d D):=h
 obtain⟨ga,gb,gc⟩:=g
 unfold gV at hfm ⊢
 unfold pt at hsz hlay ⊢
 rw[hl,←hF] at hsz
 obtain⟨N,hN⟩:=zx (F.length)
 rw[hN] at hsz hdl hpos
 have HN:=zh hN
 have hnl:N≤403:=by omega
 obtain⟨W0,hW0⟩:=zg w ga gb gc
 have hk:=q30z hW0
 have HB0:=zh hk.1
 have HK:=zh hk.2
 clear hk
 have HFM:=zh hfm
 have HSZ:=zh hsz
 have HLAY:=zh hlay
 have HONE:=zh hone
 have HDL:=zh hdl
 have HD:=zh hD
 clear hfm hsz hlay hone hdl hD
 clear h hg hl hz hF hFd hN
 obtain⟨z0,z1,z2⟩:=HK.out W0 (Below.refl _ _)
 go_enter Tryz.func10,Tryz.ntmps10
 go_wp2_with fail
 clear z0 z1 z2
 refine(HFM.out _).mono ?_
 rintro e w1 ⟨v,rfl,hv,hb1⟩
 have HB1:=zh (blN HB0.out hb1)
 have hge:w.heap.size≤W0.heap.size:=HB0.out.size
 clear hb1
 obtain⟨b,cap,o,rfl,hb2,hb3,ho,hcell⟩:=own_at hv (by have:=HN.out; omega)
 rw[HN.out]
 have HO:=zh ho
 have HCell:=zh hcell
 have HND:Hid (¬D b):=fun hd=>by have:=HD.out _ hd; omega
 clear hv ho hcell hge
 go_wp2_with fail
 refine(HSZ.out _ HB1.out).mono ?_
 rintro e w2 ⟨rfl,hw2⟩
 subst hw2
 go_wp2
 go_loopw [28] (fun i wr=>∃k:Nat,k≤N∧i = .int .i64 (k:Int)∧Hid (DiskAt wr base Bd { d with l:=F.take k ++ d.l.drop k } D)∧Hid (∃K,(∀j,K j→D j)∧Turn K w2 wr)) (fun i _=>N-(intOf i).toNat)
 case atStart=>exact⟨0,Nat.zero_le _,rfl,HD0.out.below HB1.out,⟨fun _=>False,fun _ h=>h.elim,Turn.refl _ _⟩⟩
 case round=>
  obtain⟨k,hk,rfl,HDk,HTk⟩:=hrel
  by_cases hlt:k<N
  ·obtain⟨x,hx⟩:∃x,F[k]? = some x:=⟨_,List.getElem?_eq_getElem (by have:=HN.out; omega)⟩
   have hwo:wr.heap[b]? = some o:=by
    obtain⟨K,hK,hT⟩:=HTk.out
    exact hT.heap HO.out (fun h=>HND.out (hK _ h))
   have c0:=HCell.out wr hwo k x hx
   have hl:=HLAY.out wr k x hx HDk.out
   have h1:=HONE.out k x hx
   rw[h1.1,h1.2] at hl
   have HL:=zh hl
   clear hl h1 hwo hx
   go_wp2_with fail
   refine HL.out.mono ?_
   rintro e w4 ⟨rfl,hd4,K4,hK4,_,hT4⟩
   have HD4:=zh hd4
   have HT4:Hid (∃K,(∀j,K j→D j)∧Turn K w2 w4):=by
    obtain⟨K,hK,hT⟩:=HTk.out
    exact⟨fun j=>K j∨K4 j,fun j hj=>hj.elim (hK j) (hK4 j),hT.trans hT4 (fun _ _ h=>Or.inl h) (fun _ _ h=>Or.inr h)⟩
   clear hd4 hK4 hT4
   go_wp2
   go_roundw
   case rel=>exact⟨k+1,by omega,by go_num,HD4,HT4⟩
   case measure=>simp[intOf]; omega
  ·obtain rfl:k=N:=by omega
   have HEnd:Hid (DiskAt wr base Bd { d with l:=F } D∧∃K,(∀j,K j→D j)∧Turn K w wr):=by
    obtain⟨K,hK,hT⟩:=HTk.out
    exact⟨HDL.out w wr HDk.out,K,hK,(Turn.of_below (K:=K) HB1.out).trans hT (fun _ _ h=>h) (fun _ _ h=>h)⟩
   go_wp2
   go_ret
   exact⟨rfl,HEnd.out⟩
end
