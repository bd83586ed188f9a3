import Derived.Test.YtmljdnlmpiklgaaGreatDoorRefC
import Derived.Test.YtmljdnlmpiklgaaGreatDoorRefNodeT
set_option maxRecDepth 20000
set_option maxHeartbeats 8000000
namespace Go.Proofs.YtmljdnlmpiklgaaGreatDoor
open Go Go.RowKit Txt Sp
section
theorem rsencode_any (w:World) (g:Sp.Geom):Calls Tryz.prog 50 #[gV g] w fun e w'=>e = .returned (.tuple (if g.ok then #[.string (superB g),.int .i64 0] else #[.string ⟨#[]⟩,.int .i64 4]))∧Below w.heap.size w w':=by
 have hch:=fun W:World=>rgcheck_any W g
 by_cases hg:g.ok
 ·have hb:=hg
  unfold Geom.ok at hb
  have hon:=fun W:World=>rone_any W g ⟨by omega,by omega⟩ ⟨by omega,by omega⟩ ⟨by omega,by omega⟩
  rw[Geom.check_ok hg] at hch
  rw[if_pos hg]
  obtain⟨B,hB⟩:=zx (superB g)
  rw[hB] at hon ⊢
  obtain⟨ga,gb,gc⟩:=g
  unfold gV at hch hon ⊢
  have HCH:=zh hch
  have HON:=zh hon
  clear hch hon
  clear hg hb hB
  obtain⟨W0,hW0⟩:=zg w ga gb gc
  have hk:=g_keep hW0
  have HB0:=zh hk.1
  have HK:=zh hk.2
  clear hk
  obtain⟨z0,z1,z2⟩:=HK.out W0 (Below.refl _ _)
  go_enter Tryz.func50,Tryz.ntmps50
  go_wp2_with fail
  refine(HCH.out _).mono ?_
  rintro e w1 ⟨rfl,hb1⟩
  have HB1:=zh (blN (Below.refl _ _) hb1)
  clear hb1
  clear z0 z1 z2
  obtain⟨z0,z1,z2⟩:=HK.out w1 HB1.out
  go_wp2_with fail
  refine(HON.out _).mono ?_
  rintro e w2 ⟨rfl,hb2⟩
  have HB2:=zh (blN HB1.out hb2)
  clear hb2
  go_wp2
  first | exact⟨rfl,blN HB0.out HB2.out⟩ | (go_ret2; exact⟨rfl,blN HB0.out HB2.out⟩)
 ·rw[Geom.check_no hg] at hch
  rw[if_neg hg]
  obtain⟨ga,gb,gc⟩:=g
  unfold gV at hch ⊢
  have HCH:=zh hch
  clear hch
  clear hg
  obtain⟨W0,hW0⟩:=zg w ga gb gc
  have hk:=g_keep hW0
  have HB0:=zh hk.1
  have HK:=zh hk.2
  clear hk
  obtain⟨z0,z1,z2⟩:=HK.out W0 (Below.refl _ _)
  go_enter Tryz.func50,Tryz.ntmps50
  go_wp2_with fail
  refine(HCH.out _).mono ?_
  rintro e w1 ⟨rfl,hb1⟩
  have HB1:=zh (blN (Below.refl _ _) hb1)
  clear hb1
  go_wp2
  first | exact⟨rfl,blN HB0.out HB1.out⟩ | (go_ret2; exact⟨rfl,blN HB0.out HB1.out⟩)
theorem repoch_any (w:World) (n:Nat):Calls Tryz.prog 102 #[.int .i64 (n:Int)] w fun e w'=>e = .returned (.bool (decide (n<4294967296)))∧w' = w:=by
 have h0:decide ((n:Int)≥0)=true:=decide_eq_true (by omega)
 have h00:(0:Int)≤(n:Int):=by omega
 by_cases h:n<4294967296
 ·have h1:decide ((n:Int)≤4294967295)=true:=decide_eq_true (by omega)
  rw[decide_eq_true h]
  clear h
  go_enter Tryz.func102,Tryz.ntmps102
  go_wp2
  go_ret
  exact⟨rfl,rfl⟩
 ·have h1:decide ((n:Int)≤4294967295)=false:=decide_eq_false (by omega)
  rw[decide_eq_false h]
  clear h
  go_enter Tryz.func102,Tryz.ntmps102
  go_wp2
  go_ret
  exact⟨rfl,rfl⟩
theorem rfence_any (w:World) (a b:Nat):Calls Tryz.prog 51 #[.agg #[.int .i64 (a:Int),.int .i64 (b:Int)]] w fun e w'=>e = .returned (.tuple (if a<4294967296∧b<4294967296 then #[.string (wallB a b),.int .i64 0] else #[.string ⟨#[]⟩,.int .i64 1]))∧Below w.heap.size w w':=by
 have h1:=fun W:World=>repoch_any W a
 have h2:=fun W:World=>repoch_any W b
 have h3:=fun W:World=>rwall_any W a b
 obtain⟨B,hB⟩:=zx (wallB a b)
 rw[hB] at h3 ⊢
 obtain⟨x,hx⟩:∃x:Int,(a:Int)=x:=⟨_,rfl⟩
 obtain⟨y,hy⟩:∃x:Int,(b:Int)=x:=⟨_,rfl⟩
 rw[hx,hy] at h3 ⊢
 rw[hx] at h1
 rw[hy] at h2
 obtain⟨W0,hW0⟩:=zx (w.alloc (.cells #[.int .i64 x,.int .i64 y] 35))
 have hz:W0.heap[w.heap.size]? = some (.cells #[.int .i64 x,.int .i64 y] 35 (0,0)):=by rw[←hW0]; exact heapNew w _
 have HB0:Hid (Below w.heap.size w W0):=by rw[←hW0]; exact bl2 _
 have z0:=zc 0 hz
 have z1:=zc 1 hz
 clear hB hx hy hz
 by_cases ha:a<4294967296
 ·rw[decide_eq_true ha] at h1
  by_cases hb:b<4294967296
  ·rw[decide_eq_true hb] at h2
   rw[if_pos ⟨ha,hb⟩]
   have H1:=zh h1
   have H2:=zh h2
   have H3:=zh h3
   clear h1 h2 h3
   clear ha hb
   go_enter Tryz.func51,Tryz.ntmps51
   go_wp2_with fail
   refine(H1.out _).mono ?_
   rintro e w1 ⟨rfl,rfl⟩
   go_wp2_with fail
   refine(H2.out _).mono ?_
   rintro e w1 ⟨rfl,rfl⟩
   go_wp2_with fail
   refine(H3.out _).mono ?_
   rintro e w2 ⟨rfl,hb2⟩
   have HB2:=zh (blN HB0.out hb2)
   clear hb2
   go_wp2
   first | exact⟨rfl,HB2.out⟩ | (go_ret2; exact⟨rfl,HB2.out⟩)
  ·rw[decide_eq_false hb] at h2
   rw[if_neg (fun h=>hb h.2)]
   have H1:=zh h1
   have H2:=zh h2
   clear h1 h2
   clear ha hb h3
   go_enter Tryz.func51,Tryz.ntmps51
   go_wp2_with fail
   refine(H1.out _).mono ?_
   rintro e w1 ⟨rfl,rfl⟩
   go_wp2_with fail
   refine(H2.out _).mono ?_
   rintro e w1 ⟨rfl,rfl⟩
   go_wp2
   first | exact⟨rfl,HB0.out⟩ | (go_ret2; exact⟨rfl,HB0.out⟩)
 ·rw[decide_eq_false ha] at h1
  rw[if_neg (fun h=>ha h.1)]
  have H1:=zh h1
  clear h1
  clear ha h2 h3
  go_enter Tryz.func51,Tryz.ntmps51
  go_wp2_with fail
  refine(H1.out _).mono ?_
  rintro e w1 ⟨rfl,rfl⟩
  go_wp2
  first | exact⟨rfl,HB0.out⟩ | (go_ret2; exact⟨rfl,HB0.out⟩)
theorem rofL_any (w:World) (n:Int) (v:Value) (l:List Int) (hv:Ints w v l):Calls Tryz.prog 53 #[.int .i64 n,v] w (OfPost n l w):=by
 obtain⟨ad,len,cap,rfl,HN,hn2,HF⟩:=RowAt.facts hv
 clear hv
 have hmy:=fun W:World=>rmany_any W n
 have hno:∀w',ofC n l=1→Below w.heap.size w w'→OfPost n l w (.returned (.tuple #[.string ⟨#[]⟩,.int .i64 1])) w':=fun w' h hb=>of_no h hb
 have hyes:∀w',ofC n l=0→Below w.heap.size w w'→OfPost n l w (.returned (.tuple #[.string (ofL (ofL1 l)),.int .i64 0])) w':=fun w' h hb=>of_yes h hb
 have HNO:=zh hno
 have HYES:=zh hyes
 clear hno hyes
 by_cases hn:1≤n∧n≤64
 rotate_left
 ·have hc:ofC n l=1:=if_pos (by omega)
  rw[decide_eq_false hn] at hmy
  have HMY:=zh hmy
  have HC:=zh hc
  clear hmy hc
  clear hn
  go_enter Tryz.func53,Tryz.ntmps53
  go_wp2_with fail
  refine(HMY.out _).mono ?_
  rintro e w1 ⟨rfl,rfl⟩
  go_wp2
  first | exact HNO.out _ HC.out (Below.refl _ _) | (go_ret2; exact HNO.out _ HC.out (Below.refl _ _))
 rw[decide_eq_true hn] at hmy
 obtain⟨i0,hi,hz0,hz1,hz2⟩:=info_parts infoU8
 have hmk:(Instr.makeSlice 36 (.int .i64 64) (.int .i64 64)).run Tryz.prog w = .ok (.slice (some ⟨w.heap.size,0,none⟩) 64 64) (w.alloc (bytesO (zeros 64) 5 (0,0))):=run_make_bytes (P:=Tryz.prog) w (t:=36) Tryz.underlying36 hi hz0 hz1 hz2 64 (by decide)
 obtain⟨W0,hW0⟩:=zx (w.alloc (bytesO (zeros 64) 5 (0,0)))
 have hr0:W0.heap[w.heap.size]? = some (bytesO (ofL1 (l.take 0)) 5 (0,0)):=by rw[←hW0]; exact heapNew w _
 have hb0:Below w.heap.size w W0:=by rw[←hW0]; exact bl2 _
 rw[hW0] at hmk
 have hall0:∀y∈l.take 0,0≤y∧y<n:=by simp
 have HMY:=zh hmy
 have HR0:=zh hr0
 have HB0:=zh hb0
 have HALL0:=zh hall0
 clear hmy hr0 hb0 hall0
 clear hW0
 go_enter Tryz.func53,Tryz.ntmps53
 go_wp2_with fail
 refine(HMY.out _).mono ?_
 rintro e w1 ⟨rfl,rfl⟩
 go_wp2_with fail
 go_loopw [7] (fun i wr=>∃k:Nat,k≤len∧i = .int .i64 k∧Hid (wr.heap[w.heap.size]? = some (bytesO (ofL1 (l.take k)) 5 (0,0)))∧Hid (Below w.heap.size w wr)∧Hid (∀y∈l.take k,0≤y∧y<n)) (fun i _=>len-(intOf i).toNat)
 case atStart=>exact⟨0,Nat.zero_le _,rfl,HR0,HB0,HALL0⟩
 case round=>
  obtain⟨k,hk,rfl,HR,HB,HA⟩:=hrel
  clear HR0 HB0 HALL0 hmk
  by_cases hlt:k<len
  ·obtain⟨b,o,x,rfl,hb,hx,hc⟩:=HF.out k hlt
   have c0:wr.cell? ⟨b,o+k,none⟩=some (.int .i64 x):=by
    have h:=(HB.out.cell (p:=⟨b,o+k*1+0,none⟩) hb).trans (hc 0 _ rfl)
    simpa using h
   by_cases hin:0≤x∧x<n
   ·obtain⟨p,rfl⟩:∃p:Nat,x=(p:Int):=⟨x.toNat,by omega⟩
    have g1:decide ((p:Int)<0)=false:=decide_eq_false (by omega)
    have g2:decide ((p:Int)≥n)=false:=decide_eq_false (by omega)
    have g3:decide (n≤(p:Int))=false:=decide_eq_false (by omega)
    have hp:p<64:=by omega
    have hlen:=ofL1_length (l.take k)
    have c1:=bytes_cell HR.out (p:=p) (by rw[hlen]; exact hp)
    have c2:=bytes_free HR.out (p:=p) (Or.inl rfl) (by rw[hlen]; exact hp)
    have hs:=setCell_bytes (p:=p) HR.out 1
    have e1:(ofL1 (l.take k)).set p 1=ofL1 (l.take (k+1)):=by
     rw[take_step hx,ofL1_snoc]
     rfl
    rw[e1] at hs
    have HS:Hid ((wr.setCell ⟨w.heap.size,p,none⟩ (.int .u8 1)).heap[w.heap.size]? = some (bytesO (ofL1 (l.take (k+1))) 5 (0,0))):=hs
    have HB2:=zh (HB.out.setCell (Nat.le_refl _) (.int .u8 1) (p:=⟨w.heap.size,p,none⟩))
    have HA2:=zh (take_all HA.out hx hin)
    have hp2:(p:Int)<64:=by omega
    obtain⟨z,hz⟩:=zx ((ofL1 (l.take k))[p]'(by rw[hlen]; exact hp))
    rw[hz] at c1
    clear hs e1 hx hc hin hlen hz
    go_wp2
    go_roundw
    case rel=>exact⟨k+1,by omega,by go_num,HS,HB2,HA2⟩
    case measure=>simp[intOf]; omega
   ·have hof:ofC n l=1:=if_pos (Or.inr (Or.inr ⟨x,List.mem_of_getElem? hx,by omega⟩))
    have HOF:=zh hof
    clear hof
    clear hx hc
    by_cases h0:x<0
    ·have g1:decide (x<0)=true:=decide_eq_true h0
     clear hin h0
     go_wp2
     first | exact HNO.out _ HOF.out HB.out | (go_ret2; exact HNO.out _ HOF.out HB.out)
    ·have g1:decide (x<0)=false:=decide_eq_false h0
     have g2:decide (x≥n)=true:=decide_eq_true (by omega)
     have g3:decide (n≤x)=true:=decide_eq_true (by omega)
     clear hin h0
     go_wp2
     first | exact HNO.out _ HOF.out HB.out | (go_ret2; exact HNO.out _ HOF.out HB.out)
  ·have htk:l.take k=l:=List.take_of_length_le (by have:=HN.out; omega)
   have hrow:=HR.out
   have ha:=HA.out
   rw[htk] at hrow ha
   have hof:ofC n l=0:=if_neg (by
    rintro(h | h | ⟨p,hp,h⟩)
    ·omega
    ·omega
    ·have:=ha p hp; omega)
   have hcv:=run_bytes_text (P:=Tryz.prog) wr (src:=36) (dst:=9) (z:=[]) (n:=64) Tryz.underlying36 Tryz.underlying5 Tryz.underlying9 (by rw[List.append_nil]; exact hrow) (ofL1_length l).symm 64
   have HOF:=zh hof
   clear hof
   clear hrow ha htk
   go_wp2
   first | exact HYES.out _ HOF.out HB.out | (go_ret2; exact HYES.out _ HOF.out HB.out)
theorem rnencode_any (w:World) (g:Sp.Geom) (k l z p ge d0 d1 d2 d3 d4 d5 d6 d7 m:Nat):Calls Tryz.prog 106 #[gV g,.agg (iA k l z p ge d0 d1 d2 d3 d4 d5 d6 d7 m)] w (IEnc g (iN k l z p ge d0 d1 d2 d3 d4 d5 d6 d7 m) w):=by
 have hc:=fun W:World=>rncheck_any W g k l z p ge d0 d1 d2 d3 d4 d5 d6 d7 m
 have hno:∀c w',(iN k l z p ge d0 d1 d2 d3 d4 d5 d6 d7 m).check g=c→c≠0→Below w.heap.size w w'→IEnc g (iN k l z p ge d0 d1 d2 d3 d4 d5 d6 d7 m) w (.returned (.tuple #[.string ⟨#[]⟩,.int .i64 c])) w':=fun c w' h h0 hb=>⟨by rw[h,if_neg h0],hb⟩
 have hyes:∀w',(iN k l z p ge d0 d1 d2 d3 d4 d5 d6 d7 m).check g=0→Below w.heap.size w w'→IEnc g (iN k l z p ge d0 d1 d2 d3 d4 d5 d6 d7 m) w (.returned (.tuple #[.string (inodeB (iN k l z p ge d0 d1 d2 d3 d4 d5 d6 d7 m)),.int .i64 0])) w':=fun w' h hb=>⟨by rw[h,if_pos rfl],hb⟩
 have htx:(iN k l z p ge d0 d1 d2 d3 d4 d5 d6 d7 m).check g=0→∀W:World,Calls Tryz.prog 145 #[.agg (iA k l z p ge d0 d1 d2 d3 d4 d5 d6 d7 m)] W fun e w'=>e = .returned (.string (inodeB (iN k l z p ge d0 d1 d2 d3 d4 d5 d6 d7 m)))∧Below W.heap.size W w':=fun h W=>by
  have hfit:g.ok∧(iN k l z p ge d0 d1 d2 d3 d4 d5 d6 d7 m).fits g:=by
   unfold Inode.check at h
   split at h
   ·rename_i hg
    split at h
    ·rename_i hf; exact⟨hg,hf⟩
    ·cases h
   ·cases h
  obtain⟨a0,a1,a2,a3,_⟩:=fits_num hfit.1 hfit.2
  simp only[iN] at a0 a1 a2 a3
  exact rntext_any W k l z p ge d0 d1 d2 d3 d4 d5 d6 d7 m (by omega) (by omega)
 obtain⟨c,hcc⟩:=zx ((iN k l z p ge d0 d1 d2 d3 d4 d5 d6 d7 m).check g)
 rw[hcc] at hc htx
 have HNo:=zh (fun w'=>hno c w' hcc)
 obtain⟨T,hT⟩:=zx (inodeB (iN k l z p ge d0 d1 d2 d3 d4 d5 d6 d7 m))
 rw[hT] at hyes htx
 have HYes:Hid (c=0→∀w',Below w.heap.size w w'→IEnc g (iN k l z p ge d0 d1 d2 d3 d4 d5 d6 d7 m) w (.returned (.tuple #[.string T,.int .i64 0])) w'):=fun h w'=>hyes w' (hcc.trans h)
 obtain⟨Q,hQ⟩:=zx (IEnc g (iN k l z p ge d0 d1 d2 d3 d4 d5 d6 d7 m) w)
 rw[hQ] at HNo HYes ⊢
 clear hno hyes hcc hT hQ
 have hgen:∀(K L Z P G D0 D1 D2 D3 D4 D5 D6 D7 M:Int),(∀W:World,Calls Tryz.prog 144 #[gV g,.agg (iA K L Z P G D0 D1 D2 D3 D4 D5 D6 D7 M)] W fun e w'=>e = .returned (.int .i64 c)∧Below W.heap.size W w') →
  (c=0→∀W:World,Calls Tryz.prog 145 #[.agg (iA K L Z P G D0 D1 D2 D3 D4 D5 D6 D7 M)] W fun e w'=>e = .returned (.string T)∧Below W.heap.size W w') →
  Calls Tryz.prog 106 #[gV g,.agg (iA K L Z P G D0 D1 D2 D3 D4 D5 D6 D7 M)] w Q:=by
  clear hc htx
  intro K L Z P G D0 D1 D2 D3 D4 D5 D6 D7 M hc htx
  obtain⟨ga,gb,gc⟩:=g
  unfold gV iA at hc ⊢
  unfold iA at htx
  by_cases hc0:c=0
  rotate_left
  ·have f1:(c == 0)=false:=beq_eq_false_iff_ne.2 hc0
   have f2:(c != 0)=true:=by simp[hc0]
   have HN:=zh (HNo.out · hc0)
   have HC:=zh hc
   clear hc
   clear hc0 htx HYes HNo
   go_enter Tryz.func106,Tryz.ntmps106
   go_wp2_with fail
   refine(HC.out _).mono ?_
   rintro e w1 ⟨rfl,hb1⟩
   have HB1:=zh (blN (bl1 (bl2 _) _) hb1)
   clear hb1
   go_wp2
   first | exact HN.out _ HB1.out | (go_ret2; exact HN.out _ HB1.out)
  have htx0:=htx hc0
  clear htx
  have HY:=zh (HYes.out hc0)
  subst hc0
  have HC:=zh hc
  have HTX0:=zh htx0
  clear hc htx0
  clear HYes HNo
  go_enter Tryz.func106,Tryz.ntmps106
  go_wp2_with fail
  refine(HC.out _).mono ?_
  rintro e w1 ⟨rfl,hb1⟩
  obtain⟨hbl,hz0,hz1⟩:=boxes2 hb1
  have HB1:=zh hbl
  have y0:=zc 0 hz1
  have y1:=zc 1 hz1
  have y2:=zc 2 hz1
  have y3:=zc 3 hz1
  have y4:=zc 4 hz1
  have y5:=zc 5 hz1
  have y6:=zc 6 hz1
  have y7:=zc 7 hz1
  have y8:=zc 8 hz1
  have y9:=zc 9 hz1
  have y10:=zc 10 hz1
  have y11:=zc 11 hz1
  have y12:=zc 12 hz1
  have y13:=zc 13 hz1
  clear hb1 hbl hz0 hz1
  go_wp2_with fail
  refine(HTX0.out _).mono ?_
  rintro e w2 ⟨rfl,hb2⟩
  have HB2:=zh (blN HB1.out hb2)
  clear hb2
  go_wp2
  first | exact HY.out _ HB2.out | (go_ret2; exact HY.out _ HB2.out)
 exact hgen k l z p ge d0 d1 d2 d3 d4 d5 d6 d7 m hc htx
end
