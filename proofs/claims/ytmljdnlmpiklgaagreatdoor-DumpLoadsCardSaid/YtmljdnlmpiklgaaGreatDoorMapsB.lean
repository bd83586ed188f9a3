import Derived.Test.YtmljdnlmpiklgaaGreatDoorTableA
set_option maxRecDepth 20000
set_option maxHeartbeats 8000000
namespace Go.Proofs.YtmljdnlmpiklgaaGreatDoor
open Go Go.RowKit Txt Sp
def ofL1 (l:List Int):List UInt8:=l.foldl (fun z p=>z.set p.toNat 1) (zeros 64)
theorem ofL1_snoc (l:List Int) (p:Int):ofL1 (l ++ [p])=(ofL1 l).set p.toNat 1:=by
 unfold ofL1
 rw[List.foldl_append]
 rfl
theorem fold_length:∀(l:List Int) (z:List UInt8),(l.foldl (fun z p=>z.set p.toNat 1) z).length=z.length
 | [],_=>rfl
 | p :: r,z=>by
   rw[List.foldl_cons,fold_length r]
   exact List.length_set
theorem ofL1_length (l:List Int):(ofL1 l).length=64:=by
 unfold ofL1
 rw[fold_length,zeros_length]
def OfPost (n:Int) (l:List Int) (w:World) (e:Ending) (w':World):Prop:=
 e = .returned (.tuple #[.string (if ofC n l=0 then ofL (ofL1 l) else⟨#[]⟩),.int .i64 (ofC n l)])∧Below w.heap.size w w'
theorem of_no {n:Int} {l:List Int} {w w':World} (h:ofC n l=1) (hb:Below w.heap.size w w'):OfPost n l w (.returned (.tuple #[.string ⟨#[]⟩,.int .i64 1])) w':=by
 refine⟨?_,hb⟩
 rw[h]
 rfl
theorem of_yes {n:Int} {l:List Int} {w w':World} (h:ofC n l=0) (hb:Below w.heap.size w w'):OfPost n l w (.returned (.tuple #[.string (ofL (ofL1 l)),.int .i64 0])) w':=by
 refine⟨?_,hb⟩
 rw[h]
 rfl
theorem bytes_set {z:List UInt8} {p:Nat} (b:UInt8):(bytesV z).toArray.setIfInBounds p (.int .u8 (b.toNat:Int))=(bytesV (z.set p b)).toArray:=by
 apply Array.toList_inj.1
 unfold bytesV
 simp[List.map_set]
theorem setCell_bytes {w:World} {g p:Nat} {z:List UInt8} {e:TypeId} {m:Nat×Nat} (h:w.heap[g]? = some (bytesO z e m)) (b:UInt8):(w.setCell ⟨g,p,none⟩ (.int .u8 (b.toNat:Int))).heap[g]? = some (bytesO (z.set p b) e m):=by
 have:=setHeap_at (k:=p) h (.int .u8 (b.toNat:Int))
 rw[bytes_set] at this
 exact this
theorem bytes_cell {w:World} {g p:Nat} {z:List UInt8} {e:TypeId} {m:Nat×Nat} (h:w.heap[g]? = some (bytesO z e m)) (hp:p<z.length):w.cell? ⟨g,p,none⟩=some (.int .u8 (z[p].toNat:Int)):=by
 refine cellOf h ?_
 unfold bytesV
 rw[List.getElem?_toArray,List.getElem?_map,List.getElem?_eq_getElem hp]
 rfl
theorem bytes_free {w:World} {g p:Nat} {z:List UInt8} {e:TypeId} {m:Nat×Nat} (h:w.heap[g]? = some (bytesO z e m)) (hm:markOk z.length m) (hp:p<z.length):w.frozen? ⟨g,p,none⟩=false:=by
 obtain⟨lo,hi⟩:=m
 have:=markOk_free hm hp
 simpa [World.frozen?,h,bytesO] using this
theorem infoU8:(Tryz.prog.info? 5).map (fun i=>(i.zero,i.size,i.bytes))=some (some (.int .u8 0),1,1):=by kernel_rfl
section
theorem mof_any (w:World) (n:Int) (v:Value) (l:List Int) (hv:Ints w v l):Calls Tryz.prog 37 #[.int .i64 n,v] w (OfPost n l w):=by
 obtain⟨ad,len,cap,rfl,HN,hn2,HF⟩:=RowAt.facts hv
 clear hv
 have hm0:=fun W:World=>mmany_any W n 0
 have hmm:=fun(W:World) (p:Int)=>mmany_any W n p
 have hno:∀w',ofC n l=1→Below w.heap.size w w'→OfPost n l w (.returned (.tuple #[.string ⟨#[]⟩,.int .i64 1])) w':=fun w' h hb=>of_no h hb
 have hyes:∀w',ofC n l=0→Below w.heap.size w w'→OfPost n l w (.returned (.tuple #[.string (ofL (ofL1 l)),.int .i64 0])) w':=fun w' h hb=>of_yes h hb
 have HNO:=zh hno
 have HYES:=zh hyes
 clear hno hyes
 by_cases hn:n<1∨64<n
 ·have hc:ofC n l=1:=if_pos (by rcases hn with h | h; exact Or.inl h; exact Or.inr (Or.inl h))
  rw[show manyC n 0=1 from if_pos (by omega)] at hm0
  have HM0:=zh hm0
  have HMM:=zh hmm
  have HC:=zh hc
  clear hm0 hmm hc
  clear hn
  go_enter Tryz.func37,Tryz.ntmps37
  go_wp2_with fail
  refine(HM0.out _).mono ?_
  rintro e w1 ⟨rfl,hw1⟩
  replace hw1:=hw1.symm
  subst hw1
  go_wp2
  go_ret2
  exact HNO.out _ HC.out (Below.refl _ _)
 rw[show manyC n 0=0 from if_neg (by omega)] at hm0
 obtain⟨i0,hi,hz0,hz1,hz2⟩:=info_parts infoU8
 have hmk:(Instr.makeSlice 36 (.int .i64 64) (.int .i64 64)).run Tryz.prog w = .ok (.slice (some ⟨w.heap.size,0,none⟩) 64 64) (w.alloc (bytesO (zeros 64) 5 (0,0))):=run_make_bytes (P:=Tryz.prog) w (t:=36) Tryz.underlying36 hi hz0 hz1 hz2 64 (by decide)
 obtain⟨W0,hW0⟩:=zx (w.alloc (bytesO (zeros 64) 5 (0,0)))
 have hr0:W0.heap[w.heap.size]? = some (bytesO (ofL1 (l.take 0)) 5 (0,0)):=by rw[←hW0]; exact heapNew w _
 have hb0:Below w.heap.size w W0:=by rw[←hW0]; exact bl2 _
 rw[hW0] at hmk
 have hall0:∀y∈l.take 0,0≤y∧y<n:=by simp
 have HM0:=zh hm0
 have HMM:=zh hmm
 have HR0:=zh hr0
 have HB0:=zh hb0
 have HALL0:=zh hall0
 clear hm0 hmm hr0 hb0 hall0
 clear hW0
 go_enter Tryz.func37,Tryz.ntmps37
 go_wp2_with fail
 refine(HM0.out _).mono ?_
 rintro e w1 ⟨rfl,hw1⟩
 replace hw1:=hw1.symm
 subst hw1
 go_wp2
 go_loopw [19] (fun i wr=>∃k:Nat,k≤len∧i = .int .i64 k∧Hid (wr.heap[w.heap.size]? = some (bytesO (ofL1 (l.take k)) 5 (0,0)))∧Hid (Below w.heap.size w wr)∧Hid (∀y∈l.take k,0≤y∧y<n)) (fun i _=>len-(intOf i).toNat)
 case atStart=>exact⟨0,Nat.zero_le _,rfl,HR0,HB0,HALL0⟩
 case round=>
  obtain⟨k,hk,rfl,HR,HB,HA⟩:=hrel
  clear HR0 HB0 HALL0 hmk
  by_cases hlt:k<len
  ·obtain⟨b,o,x,rfl,hb,hx,hc⟩:=HF.out k hlt
   have c0:wr.cell? ⟨b,o+k,none⟩=some (.int .i64 x):=by
    have h:=(HB.out.cell (p:=⟨b,o+k*1+0,none⟩) hb).trans (hc 0 _ rfl)
    simpa using h
   have hmx:=fun W:World=>HMM.out W x
   by_cases hin:0≤x∧x<n
   ·rw[show manyC n x=0 from if_neg (by omega)] at hmx
    obtain⟨p,rfl⟩:∃p:Nat,x=(p:Int):=⟨x.toNat,by omega⟩
    have hp:p<64:=by omega
    have hlen:=ofL1_length (l.take k)
    have c1:=bytes_cell HR.out (p:=p) (by rw[hlen]; exact hp)
    have c2:=bytes_free HR.out (p:=p) (Or.inl rfl) (by rw[hlen]; exact hp)
    have hs:=setCell_bytes (p:=p) HR.out 1
    have e1:(ofL1 (l.take k)).set p 1=ofL1 (l.take (k+1)):=by
     rw[take_step hx,ofL1_snoc]
     rfl
    rw[e1] at hs
    have HS:Hid ((wr.setCell ⟨w.heap.size,p,none⟩ (.int .u8 1)).heap[w.heap.size]? = some (bytesO (ofL1 (l.take (k+1))) 5 (0,0))):=hs
    have HB2:=zh (HB.out.setCell (Nat.le_refl _) (.int .u8 1) (p:=⟨w.heap.size,p,none⟩))
    have HA2:=zh (take_all HA.out hx hin)
    have hp2:(p:Int)<64:=by omega
    obtain⟨z,hz⟩:=zx ((ofL1 (l.take k))[p]'(by rw[hlen]; exact hp))
    rw[hz] at c1
    have HMX:=zh hmx
    clear hmx
    clear hs e1 hx hc hin hlen hz
    go_wp2_with fail
    refine(HMX.out _).mono ?_
    rintro e w1 ⟨rfl,hw1⟩
    replace hw1:=hw1.symm
    subst hw1
    go_wp2
    go_roundw
    case rel=>exact⟨k+1,by omega,by go_num,HS,HB2,HA2⟩
    case measure=>simp[intOf]; omega
   ·rw[show manyC n x=1 from if_pos (by omega)] at hmx
    have hof:ofC n l=1:=if_pos (Or.inr (Or.inr ⟨x,List.mem_of_getElem? hx,by omega⟩))
    have HOF:=zh hof
    have HMX:=zh hmx
    clear hof hmx
    clear hin hx hc
    go_wp2_with fail
    refine(HMX.out _).mono ?_
    rintro e w1 ⟨rfl,hw1⟩
    replace hw1:=hw1.symm
    subst hw1
    go_wp2
    go_ret2
    exact HNO.out _ HOF.out HB.out
  ·have htk:l.take k=l:=List.take_of_length_le (by have:=HN.out; omega)
   have hrow:=HR.out
   have ha:=HA.out
   rw[htk] at hrow ha
   have hof:ofC n l=0:=if_neg (by
    rintro(h | h | ⟨p,hp,h⟩)
    ·omega
    ·omega
    ·have:=ha p hp; omega)
   have hcv:=run_bytes_text (P:=Tryz.prog) wr (src:=36) (dst:=9) (z:=[]) (n:=64) Tryz.underlying36 Tryz.underlying5 Tryz.underlying9 (by rw[List.append_nil]; exact hrow) (ofL1_length l).symm 64
   have HOF:=zh hof
   clear hof
   clear hrow ha htk
   go_wp2
   go_ret2
   exact HYES.out _ HOF.out HB.out
theorem smay_any (w:World) (n:Nat) (h:n<4294967296):Calls Tryz.prog 68 #[.int .i64 (n:Int)] w fun e w'=>e = .returned (.bool true)∧w' = w:=by
 have h0:0≤(n:Int):=by omega
 have h1:(n:Int)≤4294967295:=by omega
 clear h
 go_enter Tryz.func68,Tryz.ntmps68
 go_wp2
 go_ret
 exact⟨rfl,rfl⟩
theorem sfence_any (w:World) (a b:Nat) (ha:a<4294967296) (hb:b<4294967296):Calls Tryz.prog 33 #[.agg #[.int .i64 (a:Int),.int .i64 (b:Int)]] w fun e w'=>e = .returned (.tuple #[.string (wallB a b),.int .i64 0])∧Below w.heap.size w w':=by
 have h1:=fun W:World=>smay_any W a ha
 have h2:=fun W:World=>smay_any W b hb
 have h3:=fun W:World=>swall_any W a b ha hb
 obtain⟨R,hR⟩:=zx (wallB a b)
 rw[hR] at h3 ⊢
 have H1:=zh h1
 have H2:=zh h2
 have H3:=zh h3
 clear h1 h2 h3
 clear hR ha hb
 go_enter Tryz.func33,Tryz.ntmps33
 go_wp2_with fail
 refine(H1.out _).mono ?_
 rintro e w1 ⟨rfl,hw1⟩
 replace hw1:=hw1.symm
 subst hw1
 go_wp2_with fail
 refine(H2.out _).mono ?_
 rintro e w2 ⟨rfl,hw2⟩
 replace hw2:=hw2.symm
 subst hw2
 go_wp2_with fail
 refine(H3.out _).mono ?_
 rintro e w3 ⟨rfl,hb3⟩
 have HB3:=zh (blN (bl2 _) hb3)
 clear hb3
 go_wp2
 go_ret2
 exact⟨rfl,HB3.out⟩
theorem inum_any (w:World) (off b n:Int) (S:ByteArray) (HP:Hid (∀W:World,Calls Tryz.prog 120 #[.int .i64 off,.int .i64 b,.int .i64 n] W fun e w'=>e = .returned (.tuple #[.agg #[.int .i64 off,.string S],.int .i64 0])∧Below W.heap.size W w')) :
 Calls Tryz.prog 77 #[.int .i64 off,.int .i64 b,.int .i64 n] w fun e w'=>e = .returned (.agg #[.int .i64 off,.string S])∧Below w.heap.size w w':=by
 go_enter Tryz.func77,Tryz.ntmps77
 go_wp2_with fail
 refine(HP.out _).mono ?_
 rintro e w1 ⟨rfl,hb1⟩
 have hz:=put2 (heapOld hb1 (heapNew w _)) (.int .i64 off) (.string S)
 have HZ:=zh (heapOld (bl2 (.cells #[.int .i64 off,.string S] 99)) hz)
 have HB1:=zh (bl1 (((blN (bl2 _) hb1).setCell (p:=⟨w.heap.size,0,none⟩) (Nat.le_refl _) (.int .i64 off)).setCell (p:=⟨w.heap.size,1,none⟩) (Nat.le_refl _) (.string S)) (.cells #[.int .i64 off,.string S] 99))
 have hz1:=heapOld hb1 (heapNew w _)
 have y0:=zc 0 hz1
 have y1:=zc 1 hz1
 have v0:w1.frozen? ⟨w.heap.size,0,none⟩=false:=freeOf hz1
 have v1:w1.frozen? ⟨w.heap.size,1,none⟩=false:=freeOf hz1
 have hlt:w.heap.size<w1.heap.size:=by have:=hb1.size; simp at this; omega
 clear hb1 hz hz1
 go_wp2
 obtain⟨Wf,hWf⟩:=zx (((w1.setCell ⟨w.heap.size,0,none⟩ (.int .i64 off)).setCell ⟨w.heap.size,1,none⟩ (.string S)).alloc (.cells #[.int .i64 off,.string S] 99))
 have hb4:Below w.heap.size w Wf:=by rw[←hWf]; exact HB1.out
 have hw4:=HZ.out
 rw[hWf] at hw4 ⊢
 have y0:=zc 0 hw4
 have y1:=zc 1 hw4
 refine bodyPost_ret (v:=.agg #[.int .i64 off,.string S]) (by simp[results,Tryz.results77,go_sem,y0,y1]) rfl ?_
 exact⟨rfl,hb4⟩
end
section
theorem eslot_any (w:World) (x:Sp.Entry) (h0:0≤x.inode) (h1:x.inode≤65535) (hs:x.name.size≤13):Calls Tryz.prog 134 #[eV x] w fun e w'=>e = .returned (.string (ofL (slotL x)))∧Below w.heap.size w w':=by
 obtain⟨n,s⟩:=x
 simp only at h0 h1 hs
 show Calls Tryz.prog 134 #[.agg #[.int .i64 n,.string s]] w _
 have hp:=fun W:World=>fput2_any W 0 n (by decide) (by decide) h0 (by omega)
 have hc1:=text_cat (textL 2 n.toNat) [UInt8.ofNat s.size]
 have hc2:=text_cat (textL 2 n.toNat ++ [UInt8.ofNat s.size]) s.data.toList
 rw[data_ofL] at hc2
 have e1:ofL (textL 2 n.toNat)=putB 2 n:=rfl
 rw[e1] at hc1
 have hsl:s.data.toList.length=s.size:=Array.length_toList
 have hz2:(ofL (textL 2 n.toNat ++ [UInt8.ofNat s.size] ++ s.data.toList)).size=3+s.size:=by
  rw[ofL_size,List.length_append,List.length_append,textL_length,hsl]
  rfl
 have hz1:(putB 2 n).size≤2:=Nat.le_of_eq (putB_size 2 n)
 have hz3:(ofL (textL 2 n.toNat ++ [UInt8.ofNat s.size])).size≤3:=by
  rw[ofL_size,List.length_append,textL_length]
  exact Nat.le_refl 3
 have hr:=fun W:World=>Tryz.strings_Repeat ⟨#[0]⟩ (16-(3+s.size)) W (by omega) (by show 1*(16-(3+s.size))≤_; omega)
 rw[repeat_zeros,←hz2] at hr
 have hcat:=text_cat (textL 2 n.toNat ++ [UInt8.ofNat s.size] ++ s.data.toList) (zeros (16-(3+s.size)))
 rw[←hz2] at hcat
 have hfin:ofL (textL 2 n.toNat ++ [UInt8.ofNat s.size] ++ s.data.toList ++ zeros (16-(ofL (textL 2 n.toNat ++ [UInt8.ofNat s.size] ++ s.data.toList)).size))=ofL (slotL ⟨n,s⟩):=by
  rw[hz2]
  rfl
 rw[hfin] at hcat
 obtain⟨P,hP⟩:=zx (putB 2 n)
 obtain⟨T1,hT1⟩:=zx (ofL (textL 2 n.toNat ++ [UInt8.ofNat s.size]))
 obtain⟨T2,hT2⟩:=zx (ofL (textL 2 n.toNat ++ [UInt8.ofNat s.size] ++ s.data.toList))
 obtain⟨R,hR⟩:=zx (ofL (slotL ⟨n,s⟩))
 obtain⟨B,hB⟩:=zx (ofL [UInt8.ofNat s.size])
 have e16:((16-T2.size:Nat):Int)=16-(T2.size:Int):=by rw[←hT2,hz2]; omega
 rw[hP] at hp hc1 hz1
 rw[hT1] at hc1 hc2 hz3
 rw[hT2] at hc2 hr hcat hz2
 rw[hR] at hcat ⊢
 rw[hB] at hc1
 rw[e16] at hr
 have hcv:∀W:World,(convert 36 9 (.slice (some ⟨W.heap.size,0,none⟩) 1 1)).run Tryz.prog (W.alloc (.cells #[.int .u8 (s.size:Int)] 5)) = .ok (.string B) (W.alloc (.cells #[.int .u8 (s.size:Int)] 5)):=fun W=>by
  rw[←hB]
  exact bytes_text (l:=[UInt8.ofNat s.size]) Tryz.underlying36 Tryz.underlying5 Tryz.underlying9 (heapNew W _) (fun j hj=>by
   match j,hj with
   | 0,_=>
     show some (Value.int .u8 (s.size:Int))=some (.int .u8 ((UInt8.ofNat s.size).toNat:Int))
     rw[UInt8.toNat_ofNat',show s.size % 2 ^ 8=s.size by omega]) 1
 have hzs:(ofL (zeros (16-T2.size))).size≤16:=by
  rw[ofL_size,zeros_length]; omega
 obtain⟨Z,hZ⟩:=zx (ofL (zeros (16-T2.size)))
 rw[hZ] at hr hcat hzs
 have e8:IntKind.u8.wrap (s.size:Int)=(s.size:Int):=IntWalk.u8_in _ (by omega)
 have hT2s:T2.size≤16:=by omega
 have hBs:B.size≤1:=by rw[←hB,ofL_size]; exact Nat.le_refl 1
 have HP:=zh hp
 have HR:=zh hr
 have HCV:=zh hcv
 clear hp hr hcv
 clear hz2 e1 hsl hfin hP hT1 hT2 hR hB e16 hZ h0 h1
 go_enter Tryz.func134,Tryz.ntmps134
 go_wp2_with fail
 refine(HP.out _).mono ?_
 rintro e w1 ⟨rfl,hb1⟩
 have hz:=heapOld hb1 (heapNew w _)
 have k0:=zc 0 hz
 have k1:=zc 1 hz
 have HZ:=zh hz
 have HB1:=zh (blN (bl2 _) hb1)
 have hlt:w.heap.size<w1.heap.size:=by have:=hb1.size; simp at this; omega
 clear hb1 hz
 have hcv:=HCV.out (w1.alloc (.cells #[.int .i64 0,.string P] 99))
 have hs1:(w1.alloc (.cells #[.int .i64 0,.string P] 99)).heap.size=w1.heap.size+1:=by simp
 rw[hs1] at hcv
 clear hs1
 go_wp2_with fail
 refine(HR.out _).mono ?_
 rintro e w2 ⟨rfl,hb2⟩
 have HB2:=zh (blN (bl1 (bl1 HB1.out _) _) hb2)
 clear hb2
 go_wp2
 go_ret
 exact⟨rfl,HB2.out⟩
def EPut (at_:Int) (x:Sp.Entry) (w:World) (e:Ending) (w':World):Prop:=
 e = .returned (.tuple (if at_<0∨4≤at_ then #[.agg #[.int .i64 0,.string ⟨#[]⟩],.int .i64 1] else if x.may then #[.agg #[.int .i64 (at_*16),.string (ofL (slotL x))],.int .i64 0] else #[.agg #[.int .i64 0,.string ⟨#[]⟩],.int .i64 70]))∧Below w.heap.size w w'
theorem may_bd {x:Sp.Entry} (h:x.may):0≤x.inode∧x.inode≤65535∧x.name.size≤13:=by
 rcases h with ⟨h1,h2⟩ | ⟨h1,h2,h3⟩
 ·omega
 ·have:=nameB_size h3
  omega
theorem boxes2 {w w1:World} {a b:Obj} (hb:Below ((w.alloc a).alloc b).heap.size ((w.alloc a).alloc b) w1) :
 Below w.heap.size w w1∧w1.heap[w.heap.size]? = some a∧w1.heap[w.heap.size+1]? = some b:=by
 have h0:Below w.heap.size w ((w.alloc a).alloc b):=bl1 (bl2 a) b
 have e1:(w.alloc a).heap.size=w.heap.size+1:=by simp
 have g1:=heapNew (w.alloc a) b
 rw[e1] at g1
 exact⟨blN h0 hb,heapOld hb (heapOld (bl2 (w:=w.alloc a) b) (heapNew w a)),heapOld hb g1⟩
theorem eput_any (w:World) (at_:Int) (x:Sp.Entry) (hm:MaxOk w) (hs:x.name.size≤maxLen):Calls Tryz.prog 87 #[.int .i64 at_,eV x] w (EPut at_ x w):=by
 have hmay:=fun(W:World) (h:MaxOk W)=>emay_any W x h hs
 have hsl:=fun(W:World) (h:x.may)=>eslot_any W x (may_bd h).1 (may_bd h).2.1 (may_bd h).2.2
 have hN1:∀w',at_<0∨4≤at_→Below w.heap.size w w'→EPut at_ x w (.returned (.tuple #[.agg #[.int .i64 0,.string ⟨#[]⟩],.int .i64 1])) w':=fun w' h hb=>⟨by rw[if_pos h],hb⟩
 have hN2:∀w',¬(at_<0∨4≤at_)→¬x.may→Below w.heap.size w w'→EPut at_ x w (.returned (.tuple #[.agg #[.int .i64 0,.string ⟨#[]⟩],.int .i64 70])) w':=fun w' h h2 hb=>⟨by rw[if_neg h,if_neg h2],hb⟩
 have hY:∀w',¬(at_<0∨4≤at_)→x.may→Below w.heap.size w w'→EPut at_ x w (.returned (.tuple #[.agg #[.int .i64 (at_*16),.string (ofL (slotL x))],.int .i64 0])) w':=fun w' h h2 hb=>⟨by rw[if_neg h,if_pos h2],hb⟩
 have HNA:=zh hN1
 have HNB:=zh hN2
 have HYY:=zh hY
 have HM:=zh hm
 obtain⟨T,hT⟩:=zx (ofL (slotL x))
 rw[hT] at hsl HYY
 have HMAY:=zh hmay
 have HSL:=zh hsl
 have HD:Hid ((decide x.may=true→x.may)∧(decide x.may=false→¬x.may)):=⟨of_decide_eq_true,of_decide_eq_false⟩
 obtain⟨n,s⟩:=x
 unfold eV at HMAY HSL ⊢
 simp only at HMAY HSL ⊢
 obtain⟨Q,hQ⟩:=zx (EPut at_ ⟨n,s⟩ w)
 obtain⟨M,hM⟩:=zx (Sp.Entry.may ⟨n,s⟩)
 rw[hQ] at HNA HNB HYY ⊢
 clear hN1 hN2 hY hmay hsl hT hm hs hQ
 by_cases h0:at_<0
 ·clear HNB HYY HMAY HSL
  go_enter Tryz.func87,Tryz.ntmps87
  go_wp2
  refine bodyPost_ret (v:=.tuple #[.agg #[.int .i64 0,.string ⟨#[]⟩],.int .i64 1]) (by simp[results,Tryz.results87,go_sem]) rfl ?_
  exact HNA.out _ (Or.inl h0) (bl1 (bl2 _) _)
 by_cases h4:4≤at_
 ·clear HNB HYY HMAY HSL
  go_enter Tryz.func87,Tryz.ntmps87
  go_wp2
  refine bodyPost_ret (v:=.tuple #[.agg #[.int .i64 0,.string ⟨#[]⟩],.int .i64 1]) (by simp[results,Tryz.results87,go_sem]) rfl ?_
  exact HNA.out _ (Or.inr h4) (bl1 (bl2 _) _)
 have HAt:Hid (¬(at_<0∨4≤at_)):=zh (by omega)
 cases hd:decide (Sp.Entry.may ⟨n,s⟩) with
 | false=>
   have HG:=zh (HNB.out · HAt.out (HD.out.2 hd))
   rw[hd] at HMAY
   clear hd HNA HNB HYY HSL HD hM
   go_enter Tryz.func87,Tryz.ntmps87
   go_wp2_with fail
   refine(HMAY.out _ (HM.out.below (bl1 (bl2 _) _))).mono ?_
   rintro e w1 ⟨rfl,hb1⟩
   obtain⟨hbl,hz0,hz1⟩:=boxes2 hb1
   have HB1:=zh hbl
   have y0:=zc 0 hz1
   have y1:=zc 1 hz1
   have v0:w1.frozen? ⟨w.heap.size+1,0,none⟩=false:=freeOf hz1
   have v1:w1.frozen? ⟨w.heap.size+1,1,none⟩=false:=freeOf hz1
   have HW:=zh (put2 hz1 (.int .i64 0) (.string ⟨#[]⟩))
   clear hb1 hbl hz0 hz1
   go_wp2
   obtain⟨Wf,hWf⟩:=zx ((w1.setCell ⟨w.heap.size+1,0,none⟩ (.int .i64 0)).setCell ⟨w.heap.size+1,1,none⟩ (.string ⟨#[]⟩))
   have hb4:Below w.heap.size w Wf:=by rw[←hWf]; exact(HB1.out.setCell (by simp) _).setCell (by simp) _
   have hw4:=HW.out
   rw[hWf] at hw4 ⊢
   have y0:=zc 0 hw4
   have y1:=zc 1 hw4
   refine bodyPost_ret (v:=.tuple #[.agg #[.int .i64 0,.string ⟨#[]⟩],.int .i64 70]) (by simp[results,Tryz.results87,go_sem,y0,y1]) rfl ?_
   exact HG.out _ hb4
 | true=>
   have HG:=zh (HYY.out · HAt.out (HD.out.1 hd))
   have HSL2:=zh (fun W=>HSL.out W (HD.out.1 hd))
   rw[hd] at HMAY
   have e16:IntKind.i64.wrap (at_*16)=at_*16:=IntWalk.i64_in _ (by omega)
   clear hd HNA HNB HYY HSL HD hM
   go_enter Tryz.func87,Tryz.ntmps87
   go_wp2_with fail
   refine(HMAY.out _ (HM.out.below (bl1 (bl2 _) _))).mono ?_
   rintro e w1 ⟨rfl,hb1⟩
   obtain⟨hbl,hz0,hz1⟩:=boxes2 hb1
   have HB1:=zh hbl
   have HZ1:=zh hz1
   have k0:=zc 0 hz0
   have k1:=zc 1 hz0
   clear hb1 hbl hz0 hz1
   go_wp2_with fail
   clear k0 k1
   refine(HSL2.out _).mono ?_
   rintro e w2 ⟨rfl,hb2⟩
   have HB2:=zh (blN HB1.out hb2)
   have hz1:=heapOld hb2 HZ1.out
   have y0:=zc 0 hz1
   have y1:=zc 1 hz1
   have v0:w2.frozen? ⟨w.heap.size+1,0,none⟩=false:=freeOf hz1
   have v1:w2.frozen? ⟨w.heap.size+1,1,none⟩=false:=freeOf hz1
   have HW:=zh (put2 hz1 (.int .i64 (at_*16)) (.string T))
   clear hb2 hz1
   go_wp2
   obtain⟨Wf,hWf⟩:=zx ((w2.setCell ⟨w.heap.size+1,0,none⟩ (.int .i64 (at_*16))).setCell ⟨w.heap.size+1,1,none⟩ (.string T))
   have hb4:Below w.heap.size w Wf:=by rw[←hWf]; exact(HB2.out.setCell (by simp) _).setCell (by simp) _
   have hw4:=HW.out
   rw[hWf] at hw4 ⊢
   have y0:=zc 0 hw4
   have y1:=zc 1 hw4
   refine bodyPost_ret (v:=.tuple #[.agg #[.int .i64 (at_*16),.string T],.int .i64 0]) (by simp[results,Tryz.results87,go_sem,y0,y1]) rfl ?_
   exact HG.out _ hb4
end
def strsO (l:List ByteArray):Obj:=.cells (l.map Value.string).toArray 9 (0,0)
theorem strs_cell {w:World} {g i:Nat} {l:List ByteArray} {s:ByteArray} (h:w.heap[g]? = some (strsO l)) (hi:l[i]? = some s):w.cell? ⟨g,i,none⟩=some (.string s):=by
 refine cellOf h ?_
 rw[List.getElem?_toArray,List.getElem?_map,hi]
 rfl
theorem strs_free {w:World} {g i:Nat} {l:List ByteArray} (h:w.heap[g]? = some (strsO l)):w.frozen? ⟨g,i,none⟩=false:=freeOf h
theorem strs_set {w:World} {g i:Nat} {l:List ByteArray} (h:w.heap[g]? = some (strsO l)) (s:ByteArray):(w.setCell ⟨g,i,none⟩ (.string s)).heap[g]? = some (strsO (l.set i s)):=by
 have:=setHeap_at (k:=i) h (.string s)
 have e:(l.map Value.string).toArray.setIfInBounds i (.string s)=((l.set i s).map Value.string).toArray:=by
  apply Array.toList_inj.1
  simp[List.map_set]
 rw[e] at this
 exact this
theorem run_make_strs (w:World) (n:Nat) (hn:n≤4000000000) :
 (Instr.makeSlice 25 (.int .i64 (n:Int)) (.int .i64 (n:Int))).run Tryz.prog w = .ok (.slice (some ⟨w.heap.size,0,none⟩) n n) (w.alloc (strsO (List.replicate n ByteArray.empty))):=by
 obtain⟨i0,hi,hz0,hz1,hz2⟩:=info_parts Tryz.infoText
 have h:=run_make (P:=Tryz.prog) w 25 9 i0 _ Tryz.underlying25 hi hz0 .i64 .i64 (n:Int) (n:Int) (by omega) (Int.le_refl _) (by rw[hz2]; omega) (by omega)
 rw[h,hz1,Int.toNat_natCast,Nat.mul_one]
 have:madeCells (Value.string ByteArray.empty).cells n=((List.replicate n ByteArray.empty).map Value.string).toArray:=by
  apply Array.toList_inj.1
  show(madeCells #[Value.string ByteArray.empty] n).toList=_
  rw[toList_madeCells_one]
  simp
 rw[this]
 rfl
theorem strs_own {w:World} {base g:Nat} {l:List ByteArray} (h:w.heap[g]? = some (strsO l)) (hb:base≤g) (hl:l.length≤maxLen) {n:Nat} (hn:n=l.length):OwnTexts base w (.slice (some ⟨g,0,none⟩) n n) l:=by
 subst hn
 refine⟨9,by simp,Or.inr ⟨g,l.length,_,rfl,hb,h,Nat.le_refl _,hl,by simp,?_⟩⟩
 rw[Nat.mul_one,List.take_of_length_le (by simp)]
def TEnc (g:Sp.Geom) (l:List (Int×Int)) (w:World) (e:Ending) (w':World):Prop:=
 ∃v,e = .returned (.tuple #[v,.int .i64 (tableC g l)])∧OwnTexts w.heap.size w' v (tableN g l)∧Below w.heap.size w w'
theorem tenc_no {g:Sp.Geom} {l:List (Int×Int)} {w w':World} {c:Int} (h:tableC g l=c) (hc:c≠0) (hb:Below w.heap.size w w'):TEnc g l w (.returned (.tuple #[.slice none 0 0,.int .i64 c])) w':=by
 refine⟨_,by rw[h],?_,hb⟩
 unfold tableN
 rw[h,if_neg hc]
 exact OwnTexts.void _ _
theorem tenc_yes {g:Sp.Geom} {l:List (Int×Int)} {w w':World} {v:Value} (h:tableC g l=0) (hv:OwnTexts w.heap.size w' v (tabB g.tables.toNat l)) (hb:Below w.heap.size w w'):TEnc g l w (.returned (.tuple #[v,.int .i64 0])) w':=by
 refine⟨_,by rw[h],?_,hb⟩
 unfold tableN
 rw[h,if_pos rfl]
 exact hv
theorem rep_set {α:Type} {k n:Nat} {a b:α} (h:k<n):(List.replicate k a ++ List.replicate (n-k) b).set k a=List.replicate (k+1) a ++ List.replicate (n-(k+1)) b:=by
 rw[List.set_append_right _ _ (by simp),List.length_replicate,Nat.sub_self]
 have:n-k=(n-(k+1))+1:=by omega
 rw[this,List.replicate_succ,List.set_cons_zero,List.replicate_succ' (n:=k),List.append_assoc]
 rfl
theorem pats_one {W:World} {b:Nat} {o:Int} {S:ByteArray} {t:TypeId} {fr:Nat×Nat} (h:W.heap[b]? = some (.cells #[.int .i64 o,.string S] t fr)):Pats W (.slice (some ⟨b,0,none⟩) 1 1) [(o,S)]:=
 RowAt.block (k:=2) (vs:=[(o,S)].map patC) (cap:=1) (fun x hx=>by rw[List.map_cons,List.map_nil,List.mem_singleton] at hx; subst hx; rfl) h rfl (Nat.le_refl _) (by decide)
section
theorem tencode_any (w:World) (g:Sp.Geom) (v:Value) (l:List (Int×Int)) (hv:Leases w v l):Calls Tryz.prog 34 #[gV g,v] w (TEnc g l w):=by
 obtain⟨ad,len,cap,rfl,HN,hn2,HF⟩:=RowAt.facts hv
 clear hv
 have hreg:=fun W:World=>gregions_any W g
 have hsec:=fun W:World=>tsectors_any W g
 have hno:∀c w',tableC g l=c→c≠0→Below w.heap.size w w'→TEnc g l w (.returned (.tuple #[.slice none 0 0,.int .i64 c])) w':=fun c w' h hc hb=>tenc_no h hc hb
 have hyes:∀v w',tableC g l=0→OwnTexts w.heap.size w' v (tabB g.tables.toNat l)→Below w.heap.size w w'→TEnc g l w (.returned (.tuple #[v,.int .i64 0])) w':=fun v w' h hv hb=>tenc_yes h hv hb
 have hbd:g.regions=0∨g.ok∧2≤g.regions∧g.regions≤132:=by
  by_cases hg:g.ok
  ·exact Or.inr ⟨hg,Geom.regions_bd hg⟩
  ·exact Or.inl (if_neg hg)
 have hlen:∀z:Int,g.regions=z→((len:Int) == z)=decide ((l.length:Int)=g.regions):=fun z hz=>by rw[hz,←HN.out]; exact Bool.eq_iff_iff.2 (by simp)
 by_cases hok:g.ok∧(l.length:Int)=g.regions
 rotate_left
 ·have htc:tableC g l=4:=if_neg hok
  have hgr:g.regions=0∨¬(len:Int)=g.regions:=by
   rcases hbd with h | ⟨h,_⟩
   ·exact Or.inl h
   ·exact Or.inr (fun e=>hok ⟨h,by rw[←HN.out]; exact e⟩)
  obtain⟨z,hz⟩:=zx (g.regions)
  rw[hz] at hreg hgr
  obtain⟨ga,gb,gc⟩:=g
  unfold gV at hreg ⊢
  have HREG:=zh hreg
  have HTC:=zh htc
  have HNO:=zh hno
  clear hreg htc hno
  clear hsec hyes hbd hlen hok hz
  by_cases h0:z=0
  ·have f1:(z == 0)=true:=beq_iff_eq.2 h0
   clear hgr h0
   go_enter Tryz.func34,Tryz.ntmps34
   go_wp2_with fail
   refine(HREG.out _).mono ?_
   rintro e w1 ⟨rfl,hb1⟩
   have HB1:=zh (blN (bl2 _) hb1)
   clear hb1
   go_wp2
   go_ret2
   exact HNO.out _ _ HTC.out (by decide) HB1.out
  ·have f1:(z == 0)=false:=beq_eq_false_iff_ne.2 h0
   have f2:((len:Int) == z)=false:=beq_eq_false_iff_ne.2 (by rcases hgr with h | h; exact absurd h h0; exact h)
   have f3:((len:Int) != z)=true:=by rw[bne,f2]; rfl
   clear hgr h0
   go_enter Tryz.func34,Tryz.ntmps34
   go_wp2_with fail
   refine(HREG.out _).mono ?_
   rintro e w1 ⟨rfl,hb1⟩
   have HB1:=zh (blN (bl2 _) hb1)
   clear hb1
   go_wp2
   go_ret2
   exact HNO.out _ _ HTC.out (by decide) HB1.out
 obtain⟨hg,hll⟩:=hok
 have hrb:=Geom.regions_bd hg
 have htb:g.tables=((g.regions.toNat+15) / 16:Nat):=by unfold Geom.tables; omega
 have hput:=fun(W:World) (r:Int) (x:Int×Int) (h0:0≤r) (h1:r<g.regions)=>tput_any W x hg h0 h1
 have hcase0:∀c,c=tableC g l→(c=0↔∀x∈l,leaseOk x)∧(c≠0→c=80):=fun c hc=>by
  rw[hc]
  unfold tableC
  rw[if_pos ⟨hg,hll⟩]
  by_cases h:∀x∈l,leaseOk x
  ·rw[if_pos h]; exact⟨⟨fun _=>h,fun _=>rfl⟩,fun h=>absurd rfl h⟩
  ·rw[if_neg h]; exact⟨⟨fun h2=>absurd h2 (by decide),fun h2=>absurd h2 h⟩,fun _=>rfl⟩
 obtain⟨N,hN⟩:∃N:Nat,(g.regions.toNat+15) / 16=N:=⟨_,rfl⟩
 rw[hN] at htb
 have hN9:N≤9:=by omega
 have hN0:1≤N:=by omega
 have hlen2:(len:Int)=g.regions:=by rw[←hll,HN.out]
 have htt:g.tables.toNat=N:=by rw[htb]; rfl
 have hdiv:∀r,r<len→r / 16<N:=fun r hr=>by omega
 rw[htb] at hsec
 rw[htt] at hyes
 rw[←hlen2] at hreg hput
 obtain⟨c,hc⟩:=zx (tableC g l)
 have hcase:=hcase0 c hc.symm
 rw[hc] at hno hyes
 obtain⟨Q,hQ⟩:=zx (TEnc g l w)
 rw[hQ] at hno hyes ⊢
 obtain⟨ga,gb,gc⟩:=g
 unfold gV at hreg hsec hput ⊢
 have hl132:len≤132:=by omega
 have hl1:2≤len:=by omega
 have hmk:=fun W:World=>run_make_strs W N (by omega)
 obtain⟨W0,hW0⟩:=zg w ga gb gc
 have hk:=g_keep hW0
 have HB0:=zh hk.1
 have HK:=zh hk.2
 clear hk
 have HREG:=zh hreg
 have HSEC:=zh hsec
 have HPUT:=zh hput
 have HNO:=zh hno
 have HYES:=zh hyes
 have HCASE:=zh hcase
 have HDIV:=zh hdiv
 have HMK:=zh hmk
 clear hreg hsec hput hno hyes hcase hdiv hmk
 clear hbd hlen hg hll hrb htb hlen2 htt hc hQ hN hcase0
 have f1:((len:Int) == 0)=false:=beq_eq_false_iff_ne.2 (by omega)
 have f2:((len:Int) == (len:Int))=true:=beq_self_eq_true _
 have f3:((len:Int) != (len:Int))=false:=by simp
 obtain⟨z0,z1,z2⟩:=HK.out W0 (Below.refl _ _)
 go_enter Tryz.func34,Tryz.ntmps34
 go_wp2_with fail
 clear z0 z1 z2
 refine(HREG.out _).mono ?_
 rintro e w1 ⟨rfl,hb1⟩
 have HB1:Hid (Below W0.heap.size W0 w1):=hb1
 clear hb1
 obtain⟨z0,z1,z2⟩:=HK.out w1 HB1.out
 go_wp2_with fail
 clear z0 z1 z2
 refine(HSEC.out _).mono ?_
 rintro e w2 ⟨rfl,hb2⟩
 have HB2:Hid (Below W0.heap.size W0 w2):=blN HB1.out hb2
 clear hb2
 have hmk:=HMK.out w2
 obtain⟨W3,hW3⟩:=zx (w2.alloc (strsO (List.replicate N ByteArray.empty)))
 have hr3:W3.heap[w2.heap.size]? = some (strsO (List.replicate 0 Sp.blank ++ List.replicate (N-0) ByteArray.empty)):=by rw[←hW3]; exact heapNew w2 _
 have hb3:Below W0.heap.size W0 W3:=by rw[←hW3]; exact bl1 HB2.out _
 rw[hW3] at hmk
 have hg1:W0.heap.size≤w2.heap.size:=HB2.out.size
 have hw0:w.heap.size≤W0.heap.size:=HB0.out.size
 have HR3:=zh hr3
 have HB3:=zh hb3
 have HG1:=zh hg1
 have HW0:=zh hw0
 clear hr3 hb3 hg1 hw0
 clear hW3
 have hbl:=fun W:World=>fblank_any W
 have HBL:=zh hbl
 clear hbl
 go_wp2
 go_loopw [29] (fun i wr=>∃k:Nat,k≤N∧i = .int .i64 k∧Hid (wr.heap[w2.heap.size]? = some (strsO (List.replicate k Sp.blank ++ List.replicate (N-k) ByteArray.empty)))∧Hid (Below W0.heap.size W0 wr)) (fun i _=>N-(intOf i).toNat)
 case atStart=>exact⟨0,Nat.zero_le _,rfl,HR3,HB3⟩
 case round=>
  obtain⟨k,hk,rfl,HR,HB⟩:=hrel
  by_cases hlt:k<N
  ·go_wp2_with fail
   refine(HBL.out _).mono ?_
   rintro e w4 ⟨rfl,hb4⟩
   have hr4:=heapOld hb4 HR.out
   have HB4:Hid (Below W0.heap.size W0 w4):=blN HB.out hb4
   have c0:=strs_cell hr4 (i:=k) (s:=ByteArray.empty) (by rw[List.getElem?_append_right (by simp),List.length_replicate,Nat.sub_self,List.getElem?_replicate,if_pos (by omega)])
   have c1:=strs_free hr4 (i:=k)
   have hs:=strs_set (i:=k) hr4 Sp.blank
   rw[rep_set hlt] at hs
   have HS:=zh hs
   have HB5:=zh (HB4.out.setCell (p:=⟨w2.heap.size,k,none⟩) HG1.out (.string Sp.blank))
   clear hb4 hr4 hs
   go_wp2
   go_roundw
   case rel=>exact⟨k+1,by omega,by go_num,HS,HB5⟩
   case measure=>simp[intOf]; omega
  ·have hkN:k=N:=by omega
   have hrow:=HR.out
   rw[hkN,Nat.sub_self,List.replicate_zero,List.append_nil,←tabB_nil] at hrow
   have HR2:Hid (wr.heap[w2.heap.size]? = some (strsO (tabB N (l.take 0)))):=hrow
   have HA2:Hid (∀y∈l.take 0,leaseOk y):=zh (by simp)
   clear hrow hkN HR HR3 HB3
   obtain⟨wo,rfl⟩:∃wo:World,wo=wr:=⟨_,rfl⟩
   go_wp2
   go_loopw [39] (fun i wr=>∃k:Nat,k≤len∧i = .int .i64 k∧Hid (wr.heap[w2.heap.size]? = some (strsO (tabB N (l.take k))))∧Hid (Below W0.heap.size W0 wr)∧Hid (∀y∈l.take k,leaseOk y)) (fun i _=>len-(intOf i).toNat)
   case atStart=>exact⟨0,Nat.zero_le _,rfl,HR2,HB,HA2⟩
   case round=>
    obtain⟨k,hk,rfl,HR,HB,HA⟩:=hrel
    by_cases hlt:k<len
    ·obtain⟨b,o,x,rfl,hb,hx,hc⟩:=HF.out k hlt
     obtain⟨xa,xb⟩:=x
     have c0:wr.cell? ⟨b,o+k*2,none⟩=some (.int .i64 xa):=((blN HB0.out HB.out).cell (p:=⟨b,o+k*2,none⟩) hb).trans (hc 0 _ rfl)
     have c1:wr.cell? ⟨b,o+k*2+1,none⟩=some (.int .i64 xb):=((blN HB0.out HB.out).cell (p:=⟨b,o+k*2+1,none⟩) hb).trans (hc 1 _ rfl)
     have HP:=zh (fun W:World=>HPUT.out W (k:Int) (xa,xb) (by omega) (by omega))
     simp only at HP
     obtain⟨z0,z1,z2⟩:=HK.out (wr.alloc (.cells #[.int .i64 xa,.int .i64 xb] 97)) (bl1 HB.out _)
     by_cases hlo:leaseOk (xa,xb)
     rotate_left
     ·have hc80:c=80:=HCASE.out.2 (fun h=>hlo (HCASE.out.1.1 h _ (List.mem_of_getElem? hx)))
      have HN80:=zh (HNO.out c · rfl (by rw[hc80]; decide))
      subst hc80
      have HLo:=zh hlo
      clear hlo hc hx
      go_wp2_with fail
      clear c0 c1 z0 z1 z2
      refine(HP.out _).mono ?_
      rintro e w4 ⟨he,hb4⟩
      rw[if_neg HLo.out] at he
      subst he
      have HB4:Hid (Below W0.heap.size W0 w4):=blN (bl1 HB.out _) hb4
      clear hb4
      go_wp2
      exact HN80.out _ (blN HB0.out (bl1 HB4.out _))
     ·have HLo:=zh hlo
      have HX:=zh hx
      clear hlo hc hx
      go_wp2_with fail
      clear c0 c1 z0 z1 z2
      refine(HP.out _).mono ?_
      rintro e w4 ⟨he,hb4⟩
      rw[if_pos HLo.out] at he
      subst he
      have HB4:Hid (Below W0.heap.size W0 w4):=blN (bl1 HB.out _) hb4
      have hr4:=heapOld hb4 (heapOld (bl2 (w:=wr) _) HR.out)
      obtain⟨S,hS⟩:=zx (ofL (leaseB (xa,xb)))
      obtain⟨j,hj⟩:=zx (k / 16)
      obtain⟨r,hr⟩:=zx (k % 16)
      have hjN:j<N:=by rw[←hj]; exact HDIV.out k hlt
      have hr16:r<16:=by omega
      have e1:(2+(k:Int) / 16)=(j:Int)+2:=by omega
      obtain⟨p,hp⟩:=zx (4*r)
      have hp60:p≤60:=by omega
      have e2:(k:Int) % 16*4=(p:Int):=by omega
      have hkl:(l.take k).length=k:=by rw[List.length_take,←HN.out]; omega
      have hsn:=tabB_snoc (n:=N) (l:=l.take k) (x:=(xa,xb)) (by rw[hkl,hj]; exact hjN)
      rw[hkl,hj,hr,hp,←take_step HX.out] at hsn
      have hso:=tabB_at (n:=N) (l.take k) hjN
      have hsz:(secB (((l.take k).drop (16*j)).take 16)).length=64:=secB_length (List.length_take_le _ _)
      obtain⟨so,hso0⟩:=zx (ofL (secB (((l.take k).drop (16*j)).take 16)))
      have hsd:so.data.toList=secB (((l.take k).drop (16*j)).take 16):=by rw[←hso0,ofL_data]
      have hss:so.size=64:=by rw[←hso0,ofL_size]; exact hsz
      rw[←hsd] at hsn
      rw[hso0] at hso
      have hSd:S.data.toList=leaseB (xa,xb):=by rw[←hS,ofL_data]
      have hS4:S.size=4:=by rw[←hS,ofL_size,leaseB_length]
      rw[←hSd] at hsn
      have hpt:=fun(W:World) (v:Value) (hv:Pats W v [((p:Int),S)])=>fpatched_any W so v [((p:Int),S)] hv hss (by simp) (by
       intro p hp
       rw[List.mem_singleton] at hp
       subst hp
       exact⟨by simp only; omega,by simp only[hS4]; decide,by simp only[hS4]; decide,by simp only[hS4]; omega⟩)
      have hpe:patchedL so.data.toList [((p:Int),S)]=patchL so.data.toList p S.data.toList:=rfl
      rw[hpe] at hpt
      obtain⟨sn,hsn0⟩:=zx (ofL (patchL so.data.toList p S.data.toList))
      rw[hsn0] at hsn hpt
      rw[e1,e2,hS]
      obtain⟨W4,hW4⟩:=zx (w4.alloc (.cells #[.int .i64 (p:Int),.string S] 99))
      have HB5:Hid (Below W0.heap.size W0 W4):=by rw[←hW4]; exact bl1 HB4.out _
      have hr5:W4.heap[w2.heap.size]? = some (strsO (tabB N (l.take k))):=by rw[←hW4]; exact heapOld (bl2 _) hr4
      have hp5:W4.heap[w4.heap.size]? = some (.cells #[.int .i64 (p:Int),.string S] 99 (0,0)):=by rw[←hW4]; exact heapNew w4 _
      have HKP:Hid (∀W,Below W4.heap.size W4 W→W.cell? ⟨w2.heap.size,j,none⟩=some (.string so)∧W.cell? ⟨w4.heap.size,0,none⟩=some (.int .i64 (p:Int))∧W.cell? ⟨w4.heap.size,1,none⟩=some (.string S)):=fun W hW=>⟨strs_cell (heapOld hW hr5) hso,cellOf (heapOld hW hp5) rfl,cellOf (heapOld hW hp5) rfl⟩
      have HR5:=zh hr5
      have HPT:=zh hpt
      have HSN:=zh hsn
      have HHJ:=zh hj
      have e3:IntKind.i64.wrap (j:Int)=(j:Int):=IntWalk.i64_in _ (by omega)
      have hjN2:(j:Int)<(N:Int):=by omega
      have hj0:0≤(j:Int):=by omega
      clear hb4 hr4 hS hj hr hp hkl hsn hso hsz hso0 hsd hss hSd hS4 hpt hpe hsn0 e1 e2 hr5 hp5
      go_wp2_with fail
      obtain⟨ca,cb,cc⟩:=HKP.out W4 (Below.refl _ _)
      have hca:=fun o=>(HKP.out (W4.alloc o) (bl2 o)).1
      have hcb:=fun o=>(HKP.out (W4.alloc o) (bl2 o)).2.1
      have hcc:=fun o=>(HKP.out (W4.alloc o) (bl2 o)).2.2
      go_region_law (first
       | (go_simp
          go_at_call 72
          refine(HPT.out _ _ (by exact pats_one (heapNew W4 _))).mono ?_
          rintro e w6 ⟨rfl,hb6⟩
          have HB6:Hid (Below W4.heap.size W4 w6):=blN (by repeat' first | with_reducible exact Below.refl _ _ | with_reducible refine blD ?_ | with_reducible refine bl1 ?_ _) hb6
          have c6:=(HKP.out w6 HB6.out).1
          have v6:w6.frozen? ⟨w2.heap.size,j,none⟩=false:=strs_free (heapOld HB6.out HR5.out)
          clear hb6))
      all_goals
       have hs7:=strs_set (i:=j) (heapOld HB6.out HR5.out) sn
       rw[←HSN.out] at hs7
       have HS7:=zh hs7
       have HB7:=zh ((blN HB5.out HB6.out).setCell (p:=⟨w2.heap.size,j,none⟩) HG1.out (.string sn))
       have HA7:=zh (take_all HA.out HX.out HLo.out)
       clear hs7 c6 v6 ca cb cc hca hcb hcc
       go_wp2
       go_roundw
       case rel=>exact⟨k+1,by omega,by go_num,HS7,HB7,HA7⟩
       case measure=>simp[intOf]; omega
    ·have hkl:k=len:=by omega
     have htk:l.take k=l:=List.take_of_length_le (by rw[hkl,HN.out]; exact Nat.le_refl _)
     have hrow:=HR.out
     have ha:=HA.out
     rw[htk] at hrow ha
     have hc0:c=0:=HCASE.out.1.2 ha
     have hown:=strs_own (base:=w.heap.size) hrow (Nat.le_trans HW0.out HG1.out) (by rw[tabB_length]; unfold maxLen; omega) (n:=N) (by rw[tabB_length])
     have HFin:=zh (HYES.out _ wr hc0 hown (blN HB0.out HB.out))
     clear hrow ha htk hkl hc0 hown
     go_wp2
     exact HFin.out
end
end Go.Proofs.YtmljdnlmpiklgaaGreatDoor
namespace Go.Proofs.YtmljdnlmpiklgaaGreatDoor
open Go Go.RowKit
def iA (k l z p ge d0 d1 d2 d3 d4 d5 d6 d7 m:Int):Array Value:=#[.int .i64 k,.int .i64 l,.int .i64 z,.int .i64 p,.int .i64 ge,.int .i64 d0,.int .i64 d1,.int .i64 d2,.int .i64 d3,.int .i64 d4,.int .i64 d5,.int .i64 d6,.int .i64 d7,.int .i64 m]
theorem eq_arr8 (d0 d1 d2 d3 d4 d5 d6 d7:Int) (w:World):(Op.equalIn 9999 69 (.agg #[.int .i64 d0,.int .i64 d1,.int .i64 d2,.int .i64 d3,.int .i64 d4,.int .i64 d5,.int .i64 d6,.int .i64 d7]) (.agg #[.int .i64 0,.int .i64 0,.int .i64 0,.int .i64 0,.int .i64 0,.int .i64 0,.int .i64 0,.int .i64 0])).run Tryz.prog w = .ok (decide (d0=0∧d1=0∧d2=0∧d3=0∧d4=0∧d5=0∧d6=0∧d7=0)) w:=by
 have u3:=Tryz.underlying3
 have a3:=Tryz.isAgg3
 have z3:=Tryz.sizeOf3
 rw[show(9999:Nat)=9998+1 from rfl,Op.equalIn]
 simp only[Sem.run_bind,run_underlying Tryz.underlying69,Result.andThen_ok]
 simp only[Std.Legacy.Range.forIn_eq_forIn_range',Std.Legacy.Range.size,Nat.sub_zero,Nat.add_sub_cancel,Nat.div_one,List.range'_succ,List.range'_zero,List.forIn_cons,List.forIn_nil]
 go_simp
 by_cases h0:d0=0
 rotate_left
 ·simp[h0]
 by_cases h1:d1=0
 rotate_left
 ·simp[h0,h1]
 by_cases h2:d2=0
 rotate_left
 ·simp[h0,h1,h2]
 by_cases h3:d3=0
 rotate_left
 ·simp[h0,h1,h2,h3]
 by_cases h4:d4=0
 rotate_left
 ·simp[h0,h1,h2,h3,h4]
 by_cases h5:d5=0
 rotate_left
 ·simp[h0,h1,h2,h3,h4,h5]
 by_cases h6:d6=0
 rotate_left
 ·simp[h0,h1,h2,h3,h4,h5,h6]
 by_cases h7:d7=0
 rotate_left
 ·simp[h0,h1,h2,h3,h4,h5,h6,h7]
 simp[h0,h1,h2,h3,h4,h5,h6,h7]
theorem eq_inode (l z p ge d0 d1 d2 d3 d4 d5 d6 d7 m:Int) (w:World):(binOp .neq 71 (.agg (iA 0 l z p ge d0 d1 d2 d3 d4 d5 d6 d7 m)) (.agg (iA 0 0 0 0 ge 0 0 0 0 0 0 0 0 0))).run Tryz.prog w = .ok (.bool (!decide (l=0∧z=0∧p=0∧(d0=0∧d1=0∧d2=0∧d3=0∧d4=0∧d5=0∧d6=0∧d7=0)∧m=0))) w:=by
 have u3:=Tryz.underlying3
 have a3:=Tryz.isAgg3
 have z3:=Tryz.sizeOf3
 have hS:Tryz.prog.underlying 71=some (.struct (Tryz.prog.fieldsOf 71)):=by kernel_rfl
 have hp:Tryz.prog.stoodInHeld 71=false:=by kernel_rfl
 have h8:=eq_arr8 d0 d1 d2 d3 d4 d5 d6 d7
 have e:∀a b c x y:Prop,∀(_:Decidable a) (_:Decidable b) (_:Decidable c) (_:Decidable x) (_:Decidable y),decide (a∧b∧c∧x∧y)=(decide a && (decide b && (decide c && (decide x && decide y)))):=fun a b c x y _ _ _ _ _=>by simp
 rw[e]
 obtain⟨D,hD⟩:=zx (decide (d0=0∧d1=0∧d2=0∧d3=0∧d4=0∧d5=0∧d6=0∧d7=0))
 rw[hD] at h8 ⊢
 clear hD e
 unfold iA
 rw[run_neq_struct,show(10000:Nat)=9999+1 from rfl,run_equalIn_agg w 9999 _ _ _ hS hp]
 simp only[Program.fieldsOf,Tryz.underlying71]
 go_simp
 by_cases h0:l=0
 rotate_left
 ·simp[h0]
 by_cases h1:z=0
 rotate_left
 ·simp[h0,h1]
 by_cases h2:p=0
 rotate_left
 ·simp[h0,h1,h2]
 by_cases h3:m=0
 ·cases D <;> simp[h0,h1,h2,h3]
 ·cases D <;> simp[h0,h1,h2,h3]
def sets (w:World) (b:Nat):Nat→List Value→World
 | _,[]=>w
 | i,v :: r=>sets (w.setCell ⟨b,i,none⟩ v) b (i+1) r
theorem sets_below {w0:World} {B b:Nat} (hB:B≤b):∀(vs:List Value) (i:Nat) (w:World),Below B w0 w→Below B w0 (sets w b i vs)
 | [],_,_,h=>h
 | v :: r,i,_,h=>sets_below hB r (i+1) _ (h.setCell hB v)
theorem sets_heap {b:Nat} {e:TypeId}:∀(vs:List Value) (i:Nat) (w:World) (cs:Array Value),w.heap[b]? = some (.cells cs e (0,0))→i+vs.length≤cs.size →
 (sets w b i vs).heap[b]? = some (.cells (cs.toList.take i ++ vs ++ cs.toList.drop (i+vs.length)).toArray e (0,0))
 | [],i,w,cs,h,_=>by
   show w.heap[b]? = _
   rw[List.append_nil,List.length_nil,Nat.add_zero,List.take_append_drop,Array.toArray_toList]
   exact h
 | v :: r,i,w,cs,h,hl=>by
   have hl':i<cs.toList.length:=by simp at hl ⊢; omega
   have ih:=sets_heap r (i+1) (w.setCell ⟨b,i,none⟩ v) (cs.setIfInBounds i v) (setHeap_at (k:=i) h v) (by simp at hl ⊢; omega)
   show(sets (w.setCell ⟨b,i,none⟩ v) b (i+1) r).heap[b]? = _
   rw[ih]
   have e2:(cs.setIfInBounds i v).toList=cs.toList.take i ++ v :: cs.toList.drop (i+1):=by
    rw[Array.toList_setIfInBounds,List.set_eq_take_append_cons_drop,if_pos hl']
   have hti:(cs.toList.take i).length=i:=by rw[List.length_take]; omega
   rw[e2]
   have e3:(cs.toList.take i ++ v :: cs.toList.drop (i+1)).take (i+1)=cs.toList.take i ++ [v]:=by
    rw[List.take_append,hti,List.take_of_length_le (by rw[hti]; omega),show i+1-i=1 by omega]
    rfl
   have e4:(cs.toList.take i ++ v :: cs.toList.drop (i+1)).drop (i+1+r.length)=cs.toList.drop (i+(v :: r).length):=by
    rw[List.drop_append,hti,List.drop_of_length_le (by rw[hti]; omega),List.nil_append,show i+1+r.length-i=r.length+1 by omega,List.drop_succ_cons,List.drop_drop,List.length_cons]
    congr 1
    omega
   rw[e3,e4,List.append_assoc,List.append_assoc,List.append_assoc]
   rfl
theorem sets_all {b:Nat} {e:TypeId} {vs:List Value} {w:World} {cs:Array Value} (h:w.heap[b]? = some (.cells cs e (0,0))) (hl:vs.length=cs.size):(sets w b 0 vs).heap[b]? = some (.cells vs.toArray e (0,0)):=by
 rw[sets_heap vs 0 w cs h (by omega),List.take_zero,List.nil_append,Nat.zero_add,List.drop_of_length_le (by simp[hl]),List.append_nil]
def intsO (l:List Int) (t:TypeId):Obj:=.cells (l.map (Value.int .i64)).toArray t (0,0)
theorem ints_cell {w:World} {g i:Nat} {l:List Int} {t:TypeId} {n:Int} (h:w.heap[g]? = some (intsO l t)) (hi:l[i]? = some n):w.cell? ⟨g,i,none⟩=some (.int .i64 n):=by
 refine cellOf h ?_
 rw[List.getElem?_toArray,List.getElem?_map,hi]
 rfl
theorem ints_free {w:World} {g i:Nat} {l:List Int} {t:TypeId} (h:w.heap[g]? = some (intsO l t)):w.frozen? ⟨g,i,none⟩=false:=freeOf h
theorem ints_set {w:World} {g i:Nat} {l:List Int} {t:TypeId} (h:w.heap[g]? = some (intsO l t)) (n:Int):(w.setCell ⟨g,i,none⟩ (.int .i64 n)).heap[g]? = some (intsO (l.set i n) t):=by
 have:=setHeap_at (k:=i) h (.int .i64 n)
 have e:(l.map (Value.int .i64)).toArray.setIfInBounds i (.int .i64 n)=((l.set i n).map (Value.int .i64)).toArray:=by
  apply Array.toList_inj.1
  simp[List.map_set]
 rw[e] at this
 exact this
