import Derived.Lib.AppendIntMem
import Derived.Test.YtmljdnlmpiklgaaGreatDoorInodeA
set_option maxRecDepth 20000
set_option maxHeartbeats 4000000
namespace Go.Proofs.YtmljdnlmpiklgaaGreatDoor
open Go Go.RowKit Txt Sp
/-- All blocks below R, but b, are as they were. -/
structure Kept (R b:Nat) (w w':World):Prop where
 os:w'.os=w.os
 tape:w'.tape=w.tape
 output:w'.output=w.output
 size:w.heap.size≤w'.heap.size
 block:∀k,k<R→k≠b→w'.heap[k]? = w.heap[k]?
theorem Kept.refl (R b:Nat) (w:World):Kept R b w w:=⟨rfl,rfl,rfl,Nat.le_refl _,fun _ _ _=>rfl⟩
theorem Kept.alloc {R b:Nat} {w w1:World} (h:Kept R b w w1) (hR:R≤w1.heap.size) (o:Obj):Kept R b w (w1.alloc o):=by
 have h1:=bl2 (w:=w1) o
 exact⟨h.os,h.tape,h.output,Nat.le_trans h.size h1.size,fun k hk hn=>(h1.block k (Nat.lt_of_lt_of_le hk hR)).trans (h.block k hk hn)⟩
theorem Kept.setCell {R b:Nat} {w w1:World} (h:Kept R b w w1) {p:Addr} (hp:p.block=b∨R≤p.block) (v:Value):Kept R b w (w1.setCell p v):=by
 refine⟨h.os,h.tape,h.output,?_,fun k hk hn=>?_⟩
 ·have:=h.size
  simpa [World.setCell] using this
 ·refine(Below.heap_setCell _ _ _ _ ?_).trans (h.block k hk hn)
  rcases hp with hp | hp
  ·rw[hp]; exact hn
  ·omega
theorem Kept.below {B R b:Nat} {w w':World} (h:Kept R b w w') (hB:B≤b) (hR:B≤R):Below B w w':=⟨h.os,h.tape,h.output,h.size,fun k hk=>h.block k (by omega) (by omega)⟩
def BldP (R b:Nat) (p:Value) (l:List UInt8) (w:World):Prop:=b<R∧∃v,w.heap[b]? = some (.cells #[p,v] 50 (0,0))∧w.ownsRow R 5 1 v l.length (bytesV l)
def Bld (R b:Nat) (l:List UInt8) (w:World):Prop:=BldP R b (.pointer none) l w∨BldP R b (.pointer (some ⟨b,0,none⟩)) l w
theorem Bld.is {R b:Nat} {l:List UInt8} {w:World} (h:Bld R b l w):Lib.IsBuilder 50 5 b b (bytesV l) w:=by
 have hl:(bytesV l).length=l.length:=bytesV_length l
 have key:∀p,BldP R b p l w→Lib.BuilderAt 50 5 b b p (bytesV l) w:=fun p ⟨hR,v,hb,hown⟩=>by
  refine⟨Nat.le_refl _,v,hb,?_,Lib.ownBlock_ne hown hb (by decide)⟩
  rw[hl]
  rcases hown with ⟨h1,h | ⟨g,cap,cur,rfl,h2,h3⟩⟩
  ·exact⟨h1,Or.inl h⟩
  ·exact⟨h1,Or.inr ⟨g,cap,cur,rfl,by omega,h3⟩⟩
 rcases h with h | h
 ·exact Or.inl (key _ h)
 ·exact Or.inr (key _ h)
theorem BldP.below {R b:Nat} {p:Value} {l:List UInt8} {w w':World} (h:BldP R b p l w) (hb:Below w.heap.size w w'):BldP R b p l w':=by
 obtain⟨hR,v,hbk,hown⟩:=h
 refine⟨hR,v,heapOld hb hbk,?_⟩
 obtain⟨h1,h | ⟨g,cap,cur,rfl,h2,h3,h4⟩⟩:=hown
 ·exact⟨h1,Or.inl h⟩
 ·exact⟨h1,Or.inr ⟨g,cap,cur,rfl,h2,heapOld hb h3,h4⟩⟩
theorem Bld.below {R b:Nat} {l:List UInt8} {w w':World} (h:Bld R b l w) (hb:Below w.heap.size w w'):Bld R b l w':=by
 rcases h with h | h
 ·exact Or.inl (h.below hb)
 ·exact Or.inr (h.below hb)
theorem Bld.fresh {R b:Nat} {w:World} (hR:b<R) (h:w.heap[b]? = some (.cells #[.pointer none,.slice none 0 0] 50 (0,0))):Bld R b [] w:=Or.inl ⟨hR,_,h,World.ownsRow_nil _ _ _ _⟩
theorem BldP.used {R b:Nat} {p:Value} {l:List UInt8} {w:World} (h:BldP R b p l w) (q:Value):BldP R b q l (w.setCell ⟨b,0,none⟩ q):=by
 obtain⟨hR,v,hbk,hown⟩:=h
 refine⟨hR,v,setHeap_at (k:=0) hbk q,?_⟩
 obtain⟨h1,h | ⟨g,cap,cur,rfl,h2,h3,h4⟩⟩:=hown
 ·exact⟨h1,Or.inl h⟩
 ·exact⟨h1,Or.inr ⟨g,cap,cur,rfl,h2,(setHeap_ne q (by omega)).trans h3,h4⟩⟩
section
theorem bcheck_any (R b:Nat) (l:List UInt8) (w:World) (h:Bld R b l w):Calls Tryz.prog 64 #[.pointer (some ⟨b,0,none⟩)] w fun e w'=>e = .returned (.tuple #[])∧BldP R b (.pointer (some ⟨b,0,none⟩)) l w'∧Kept R b w w':=by
 have hinfo:(Tryz.prog.info? 50).map (fun i=>i.size)=some 2:=by kernel_rfl
 obtain⟨j,hj,hj2⟩:=Option.map_eq_some_iff.1 hinfo
 have hself:=fun W:World=>Lib.run_neq_ptr_same (P:=Tryz.prog) W ⟨b,0,none⟩ Tryz.underlying48 hj
 rcases h with h | h
 ·obtain⟨hR,v,hbk,hown⟩:=id h
  have c0:w.cell? ⟨b,0,none⟩=some (.pointer none):=cellOf hbk rfl
  have f0:w.frozen? ⟨b,0,none⟩=false:=freeOf hbk
  have hsh:w.shape? b=some (50,2):=by simp[World.shape?,hbk]
  have htu:=Lib.run_to_unsafe (P:=Tryz.prog) w ⟨b,0,none⟩ Tryz.underlying48 Tryz.underlying133 hj (by rw[hj2]; decide) hsh (by show 0<2; decide)
  have hfu:=Lib.run_from_unsafe (P:=Tryz.prog) w (u:=50) ⟨b,0,none⟩ Tryz.underlying133 Tryz.underlying48 hj hsh (by kernel_rfl)
  have HU:=zh (h.used (.pointer (some ⟨b,0,none⟩)))
  have HB:=zh ((Kept.refl R b w).setCell (p:=⟨b,0,none⟩) (Or.inl rfl) (.pointer (some ⟨b,0,none⟩)))
  have hno:∀W:World,(callFunc 115 #[.pointer (some ⟨b,0,none⟩)]).run Tryz.prog W = .ok (.value (.pointer (some ⟨b,0,none⟩))) W:=fun W=>by kernel_rfl
  clear h hj hj2 hinfo hbk hown hsh hR
  go_enter Tryz.func64,Tryz.ntmps64
  go_wp2
  go_end0
  exact⟨rfl,HU.out,HB.out⟩
 ·obtain⟨hR,v,hbk,hown⟩:=id h
  have c0:w.cell? ⟨b,0,none⟩=some (.pointer (some ⟨b,0,none⟩)):=cellOf hbk rfl
  have HU:=zh h
  have heq:(binOp .eql 48 (.pointer (some ⟨b,0,none⟩)) (.pointer none)).run Tryz.prog w = .ok (.bool false) w:=by kernel_rfl
  clear h hj hj2 hinfo hbk hown hR
  go_enter Tryz.func64,Tryz.ntmps64
  go_wp2
  go_end0
  exact⟨rfl,HU.out,Kept.refl _ _ _⟩
theorem bbyte_any (R b:Nat) (l:List UInt8) (c:UInt8) (w:World) (h:Bld R b l w) (hlen:l.length+1≤140737488355328) (hBw:R≤w.heap.size):Calls Tryz.prog 27 #[.pointer (some ⟨b,0,none⟩),.int .u8 (c.toNat:Int)] w fun e w'=>e = .returned .nilIface∧Bld R b (l ++ [c]) w'∧Kept R b w w':=by
 obtain⟨i0,hi,hz0,hz1,hz2⟩:=info_parts infoU8
 have hc:=bcheck_any R b l w h
 have hap:bytesV l ++ [.int .u8 (c.toNat:Int)]=bytesV (l ++ [c]):=by unfold bytesV; rw[List.map_append]; rfl
 have HAP:=zh hap
 have HC:=zh hc
 clear hc
 clear h hap
 go_enter Tryz.func27,Tryz.ntmps27
 go_wp2_with fail
 refine HC.out.mono ?_
 rintro e w1 ⟨rfl,h1,hb1⟩
 obtain⟨hR,v,hbk,hown⟩:=h1
 have c1:w1.cell? ⟨b,1,none⟩=some v:=cellOf hbk rfl
 have HOwn:=zh hown
 have HBk:=zh hbk
 have HB1:=zh hb1
 have hsz:R≤w1.heap.size:=Nat.le_trans hBw hb1.size
 clear hown hbk hb1
 go_wp2_with (at_builtin; refine wpList_append_lies _ rfl _ _ _ rfl R 5 i0 _ 1 1 Tryz.underlying36 hi hz0 hz1 hz2 rfl (by decide) _ _ _ rfl (HOwn.out.alloc _) ⟨w1.heap.size,0,none⟩ 1 1 [.int .u8 (c.toNat:Int)] rfl rfl (World.news_of_block (cs:=#[.int .u8 (c.toNat:Int)]) (t:=5) (fr:=(0,0)) (heapNew w1 _)) (by simp[Value.oneCell']) (by omega) ?c1 ?c2 ?c3 (w1.heap.size+1) (by simp) ?_)
 case c1=>unfold maxLen; omega
 case c2=>omega
 case c3=>simp; omega
 intro g4 cap4 w4 hown4 hgrow4 hat4 hlt4
 have hlt:b<w1.heap.size:=(Array.getElem?_eq_some_iff.1 HBk.out).1
 have hge:∀q,v.ownBlock=some q→R≤q:=fun q hq=>(HOwn.out.lt q hq).1
 have hb4:w4.heap[b]? = some (.cells #[.pointer (some ⟨b,0,none⟩),v] 50 (0,0)):=by
  rw[hgrow4.block b (by simp; omega) (fun e=>by have:=hge b e.symm; omega)]
  exact(heapOld (bl2 _) HBk.out)
 have d1:w4.cell? ⟨b,1,none⟩=some v:=cellOf hb4 rfl
 have f1:w4.frozen? ⟨b,1,none⟩=false:=freeOf hb4
 have hg4:R≤g4:=by
  rcases hat4 with h | h
  ·exact hge g4 h
  ·omega
 have HFin:Hid (Bld R b (l ++ [c]) (w4.setCell ⟨b,1,none⟩ (.slice (some ⟨g4,0,none⟩) (l.length+1) cap4))):=by
  refine Or.inr ⟨hR,_,setHeap_at (k:=1) hb4 _,?_⟩
  rw[List.length_append,←HAP.out]
  obtain⟨q1,h | ⟨g,cap,cur,he,q2,q3,q4⟩⟩:=hown4
  ·exact⟨q1,Or.inl h⟩
  ·exact⟨q1,Or.inr ⟨g,cap,cur,he,q2,(setHeap_ne _ (by omega)).trans q3,q4⟩⟩
 have HB4:Hid (Kept R b w (w4.setCell ⟨b,1,none⟩ (.slice (some ⟨g4,0,none⟩) (l.length+1) cap4))):=by
  refine zh (Kept.setCell (p:=⟨b,1,none⟩) ?_ (Or.inl rfl) _)
  have k1:=HB1.out.alloc hsz (.cells #[.int .u8 (c.toNat:Int)] 5)
  refine⟨hgrow4.os.trans k1.os,hgrow4.tape.trans k1.tape,hgrow4.output.trans k1.output,Nat.le_trans k1.size hgrow4.size,fun j hj hn=>?_⟩
  exact(hgrow4.block j (by simp; omega) (fun e=>by have:=hge j e.symm; omega)).trans (k1.block j hj hn)
 clear hown4 hgrow4 hat4 hlt4 hb4 hlt hge hg4
 go_wp2
 go_ret
 exact⟨rfl,HFin.out,HB4.out⟩
theorem btext_any (R b:Nat) (l:List UInt8) (s:ByteArray) (w:World) (h:Bld R b l w) (hlen:l.length+s.size≤140737488355328) (hBw:R≤w.heap.size):Calls Tryz.prog 26 #[.pointer (some ⟨b,0,none⟩),.string s] w fun e w'=>e = .returned (.tuple #[.int .i64 s.size,.nilIface])∧Bld R b (l ++ s.data.toList) w'∧Kept R b w w':=by
 obtain⟨i0,hi,hz0,hz1,hz2⟩:=info_parts infoU8
 have hc:=bcheck_any R b l w h
 have hap:bytesV l ++ Lib.strCells s=bytesV (l ++ s.data.toList):=by unfold bytesV Lib.strCells; rw[List.map_append]
 have HAP:=zh hap
 have HC:=zh hc
 clear hc
 clear h hap
 go_enter Tryz.func26,Tryz.ntmps26
 go_wp2_with fail
 refine HC.out.mono ?_
 rintro e w1 ⟨rfl,h1,hb1⟩
 obtain⟨hR,v,hbk,hown⟩:=h1
 have c1:w1.cell? ⟨b,1,none⟩=some v:=cellOf hbk rfl
 have HOwn:=zh hown
 have HBk:=zh hbk
 have HB1:=zh hb1
 have hsz:R≤w1.heap.size:=Nat.le_trans hBw hb1.size
 clear hown hbk hb1
 go_wp2_with (at_builtin; refine Lib.wpList_append_own_string _ rfl _ _ 36 9 rfl R 5 i0 Tryz.underlying36 Tryz.underlying9 hi hz0 hz1 hz2 _ _ _ rfl HOwn.out s rfl ?c3 ?c4 ?c5 ?_)
 case c3=>unfold maxLen; omega
 case c4=>omega
 case c5=>exact hsz
 intro v' w4 hown4 hgrow4 _
 have hlt:b<w1.heap.size:=(Array.getElem?_eq_some_iff.1 HBk.out).1
 have hge:∀q,v.ownBlock=some q→R≤q:=fun q hq=>(HOwn.out.lt q hq).1
 have hb4:w4.heap[b]? = some (.cells #[.pointer (some ⟨b,0,none⟩),v] 50 (0,0)):=by
  rw[hgrow4.block b hlt (fun e=>by have:=hge b e.symm; omega)]
  exact HBk.out
 have d1:w4.cell? ⟨b,1,none⟩=some v:=cellOf hb4 rfl
 have f1:w4.frozen? ⟨b,1,none⟩=false:=freeOf hb4
 have HFin:Hid (Bld R b (l ++ s.data.toList) (w4.setCell ⟨b,1,none⟩ v')):=by
  refine Or.inr ⟨hR,_,setHeap_at (k:=1) hb4 _,?_⟩
  have hss:s.data.toList.length=s.size:=Array.length_toList
  rw[List.length_append,←HAP.out,hss]
  obtain⟨q1,h | ⟨g,cap,cur,he,q2,q3,q4⟩⟩:=hown4
  ·exact⟨q1,Or.inl h⟩
  ·exact⟨q1,Or.inr ⟨g,cap,cur,he,q2,(setHeap_ne _ (by omega)).trans q3,q4⟩⟩
 have HB4:Hid (Kept R b w (w4.setCell ⟨b,1,none⟩ v')):=by
  refine zh (Kept.setCell (p:=⟨b,1,none⟩) ?_ (Or.inl rfl) _)
  have k1:=HB1.out
  refine⟨hgrow4.os.trans k1.os,hgrow4.tape.trans k1.tape,hgrow4.output.trans k1.output,Nat.le_trans k1.size hgrow4.size,fun j hj hn=>?_⟩
  exact(hgrow4.block j (by omega) (fun e=>by have:=hge j e.symm; omega)).trans (k1.block j hj hn)
 obtain⟨ao,n',cap,hv⟩:∃ao n' cap,v' = .slice ao n' cap:=by
  rcases hown4.2 with ⟨hv,_⟩ | ⟨g,cap,cur,hv,_⟩
  ·exact⟨_,_,_,hv⟩
  ·exact⟨_,_,_,hv⟩
 subst hv
 clear hown4 hgrow4 hb4 hlt hge
 go_wp2
 go_ret2
 exact⟨rfl,HFin.out,HB4.out⟩
theorem bstring_any (R b:Nat) (l:List UInt8) (w:World) (h:Bld R b l w) (hb:b≤w.heap.size):Calls Tryz.prog 28 #[.pointer (some ⟨b,0,none⟩)] w fun e w'=>e = .returned (.string (ofL l))∧Below b w w':=
 Tryz.Builder_String_any b b l w h.is hb
end
def TabOk (w : World) : Prop := Lib.TabIs Tryz.prog w "internal/strconv.uint64pow10" .u64 Lib.pow10Tab
theorem TabOk.below {w w':World} (h:TabOk w) (hb:Below w.heap.size w w'):TabOk w':=(Lib.tabBelow_of_tabIs h) w' hb
theorem nDigits_le:∀(k u:Nat),1≤k→u<10 ^ k→Lib.nDigits u≤k
 | 0,_,h,_=>absurd h (by decide)
 | 1,u,_,hu=>by rw[Lib.nDigits_small (by simpa using hu)]; exact Nat.le_refl _
 | k+2,u,_,hu=>by
   by_cases h:u<10
   ·rw[Lib.nDigits_small h]; omega
   ·rw[Lib.nDigits_big h]
    have:=nDigits_le (k+1) (u / 10) (by omega) (by rw[Nat.pow_succ] at hu; omega)
    omega
theorem q9z {n:Nat} (h:n<9223372036854775808):(digitsL n).length≤19:=by
 unfold digitsL
 rw[Lib.decDigits_length]
 exact nDigits_le 19 n (by decide) (Nat.lt_of_lt_of_le h (by decide))
theorem q19z:∀l:List Nat,(∀n∈l,n<9223372036854775808)→(listL l).length≤20*l.length
 | [],_=>by simp[listL]
 | a :: r,h=>by
   have h1:=q9z (h a (List.mem_cons_self ..))
   have h2:=q19z r (fun n hn=>h n (List.mem_cons_of_mem _ hn))
   unfold listL at h2 ⊢
   rw[List.flatMap_cons,List.length_append,List.length_cons,List.length_cons]
   omega
theorem listL_snoc (l:List Nat) (n:Nat):listL (l ++ [n])=listL l ++ 32 :: digitsL n:=by
 unfold listL
 rw[List.flatMap_append,List.flatMap_cons,List.flatMap_nil,List.append_nil]
section
theorem q44z (w:World) (n:Nat) (hn:n<9223372036854775808) (ht:TabOk w):Calls Tryz.prog 16 #[.int .i64 (n:Int)] w fun e w'=>e = .returned (.string (ofL (digitsL n)))∧Below w.heap.size w w':=by
 have h:=Tryz.strconv_Itoa (n:Int) (by omega) (by omega) w ht
 rw[Lib.itoa_nonneg] at h
 change Calls _ _ _ _ fun e w'=>e = .returned (.string (ofL (digitsL n)))∧_ at h
 obtain⟨T,hT⟩:=zx (ofL (digitsL n))
 rw[hT] at h ⊢
 have H:=zh h
 clear h
 clear hT hn ht
 go_enter Tryz.func16,Tryz.ntmps16
 go_wp2_with fail
 refine H.out.mono ?_
 rintro e w1 ⟨rfl,k,os,hw1⟩
 have HB:Hid (Below w.heap.size w w1):=by rw[hw1]; exact Lib.below_grow _ _ (Nat.le_refl _) _ _
 clear hw1
 go_wp2
 go_ret
 exact⟨rfl,HB.out⟩
theorem q34z (w:World) (s:List UInt8) (v:Value) (l:List Nat) (hv:Ints w v (l.map (fun n:Nat=>(n:Int)))) (hs:s.length≤4000) (hl:l.length≤1000) (hall:∀n∈l,n<9223372036854775808) (ht:TabOk w):Calls Tryz.prog 91 #[.string (ofL s),v] w fun e w'=>e = .returned (.string (ofL (s ++ listL l)))∧Below w.heap.size w w':=by
 unfold Ints at hv
 rw[List.map_map] at hv
 obtain⟨ad,n,cap,rfl,HN,hn2,HF⟩:=RowAt.facts (f:=(fun n:Int=>[Value.int .i64 n]) ∘ fun n:Nat=>(n:Int)) hv
 clear hv
 have hn1000:n≤1000:=by rw[HN.out]; exact hl
 have HAll:=zh hall
 have HT:=zh ht
 have HSz:Hid (∀k,(s ++ listL (l.take k)).length≤24000):=fun k=>by
  have h1:=q19z (l.take k) (fun n hn=>hall n (List.mem_of_mem_take hn))
  have h2:(l.take k).length≤l.length:=List.length_take_le' _ _
  rw[List.length_append]
  omega
 have HW:Hid (ofL s=ofL (s ++ listL (l.take 0))):=by
  show _=_
  rw[List.take_zero]
  unfold listL
  rw[List.flatMap_nil,List.append_nil]
 clear hall ht hs hl
 rw[HW.out]
 go_enter Tryz.func91,Tryz.ntmps91
 go_wp2
 go_loopw [0,9] (fun t i wr=>∃k:Nat,k≤n∧i = .int .i64 k∧t = .string (ofL (s ++ listL (l.take k)))∧Hid (Below w.heap.size w wr)) (fun _ i _=>n-(intOf i).toNat)
 case atStart=>exact⟨0,Nat.zero_le _,rfl,rfl,zh (Below.refl _ _)⟩
 case round=>
  obtain⟨k,hk,rfl,rfl,HB⟩:=hrel
  clear HW
  by_cases hlt:k<n
  ·obtain⟨b,o,x,rfl,hb,hx,hc⟩:=HF.out k hlt
   have c0:wr.cell? ⟨b,o+k,none⟩=some (.int .i64 (x:Int)):=by
    have h:=(HB.out.cell (p:=⟨b,o+k*1+0,none⟩) hb).trans (hc 0 _ rfl)
    simpa using h
   have hnum:=q44z wr x (HAll.out x (List.mem_of_getElem? hx)) (HT.out.below HB.out)
   have hcat1:=text_cat [32] (digitsL x)
   have hcat2:=text_cat (s ++ listL (l.take k)) (32 :: digitsL x)
   have he:s ++ listL (l.take k) ++ 32 :: digitsL x=s ++ listL (l.take (k+1)):=by
    rw[take_step hx,listL_snoc,List.append_assoc]
   rw[he] at hcat2
   have hz1:=HSz.out k
   have hz2:=HSz.out (k+1)
   rw[←ofL_size] at hz1 hz2
   have hz3:(ofL (digitsL x)).size≤19:=by rw[ofL_size]; exact q9z (HAll.out x (List.mem_of_getElem? hx))
   have hz4:(ofL (32 :: digitsL x)).size≤20:=by rw[ofL_size,List.length_cons]; have:=q9z (HAll.out x (List.mem_of_getElem? hx)); omega
   obtain⟨D,hD⟩:=zx (ofL (digitsL x))
   obtain⟨E,hE⟩:=zx (ofL (32 :: digitsL x))
   change ofL [32] ++ ofL (digitsL x)=ofL (32 :: digitsL x) at hcat1
   rw[hD] at hnum hcat1 hz3
   rw[hE] at hcat1 hcat2 hz4
   obtain⟨A,hA⟩:=zx (ofL (s ++ listL (l.take k)))
   obtain⟨C,hC⟩:=zx (ofL (s ++ listL (l.take (k+1))))
   rw[hA] at hcat2 hz1 ⊢
   rw[hC] at hcat2 hz2
   change (⟨#[32]⟩:ByteArray) ++ D=E at hcat1
   have HC:=zh hC
   have HNUM:=zh hnum
   clear hnum
   clear hc hx he hD hE hA hC
   go_wp2_with fail
   refine HNUM.out.mono ?_
   rintro e w2 ⟨rfl,hb2⟩
   have HB2:=zh (blN HB.out hb2)
   clear hb2
   go_wp2
   go_roundw
   case rel=>exact⟨k+1,by omega,by go_num,by rw[HC.out],HB2⟩
   case measure=>simp[intOf]; omega
  ·have htk:l.take k=l:=List.take_of_length_le (by have:=HN.out; omega)
   have HTK:=zh htk
   clear htk
   go_wp2
   go_ret
   exact⟨ret_s (by rw[HTK.out]),HB.out⟩
end
theorem hexL_snoc (l:List UInt8) (c:UInt8):hexL (l ++ [c])=hexL l ++ [hexD (c.toNat / 16)] ++ [hexD (c.toNat % 16)]:=by
 unfold hexL
 rw[List.flatMap_append,List.flatMap_cons,List.flatMap_nil,List.append_nil,List.append_assoc]
 rfl
theorem q26z (l:List UInt8):(hexL l).length=2*l.length:=by
 induction l with
 | nil=>rfl
 | cons a r ih=>
   unfold hexL at ih ⊢
   rw[List.flatMap_cons,List.length_append,ih]
   show 2+2*r.length=2*(r.length+1)
   omega
theorem hex_at (W:World):∀q:Nat,q<16→(Instr.index 9 (.string ⟨#[48,49,50,51,52,53,54,55,56,57,97,98,99,100,101,102]⟩) (.int .u8 (q:Int))).run Tryz.prog W = .ok (.int .u8 ((hexD q).toNat:Int)) W
 | 0,_=>by kernel_rfl
 | 1,_=>by kernel_rfl
 | 2,_=>by kernel_rfl
 | 3,_=>by kernel_rfl
 | 4,_=>by kernel_rfl
 | 5,_=>by kernel_rfl
 | 6,_=>by kernel_rfl
 | 7,_=>by kernel_rfl
 | 8,_=>by kernel_rfl
 | 9,_=>by kernel_rfl
 | 10,_=>by kernel_rfl
 | 11,_=>by kernel_rfl
 | 12,_=>by kernel_rfl
 | 13,_=>by kernel_rfl
 | 14,_=>by kernel_rfl
 | 15,_=>by kernel_rfl
 | k+16,h=>absurd h (by omega)
theorem u8_and (x:Nat) (h:x<256):bits .and .u8 (x:Int) 15=((x % 16:Nat):Int):=by
 have:∀y:Fin 256,bits .and .u8 ((y.val:Nat):Int) 15=((y.val % 16:Nat):Int):=by decide +kernel
 exact this ⟨x,h⟩
section
theorem dhex_any (w:World) (s:ByteArray) (hs:s.size≤1000000):Calls Tryz.prog 98 #[.string s] w fun e w'=>e = .returned (.string (ofL (hexL s.data.toList)))∧Below w.heap.size w w':=by
 obtain⟨n,hn⟩:=zx (s.size)
 rw[hn] at hs
 have hl:s.data.toList.length=n:=by rw[Array.length_toList]; exact hn
 obtain⟨W0,hW0⟩:=zx (w.alloc (.cells #[.pointer none,.slice none 0 0] 50))
 have hz0:W0.heap[w.heap.size]? = some (.cells #[.pointer none,.slice none 0 0] 50 (0,0)):=by rw[←hW0]; exact heapNew w _
 have hbl0:Below w.heap.size w W0:=by rw[←hW0]; exact bl2 _
 have hs0:W0.heap.size=w.heap.size+1:=by rw[←hW0]; simp
 obtain⟨cp,mk,hc1,hc2,hmk,hcv⟩:=run_text_bytes (P:=Tryz.prog) W0 s (by unfold maxLen; omega) Tryz.underlying9 Tryz.underlying36 Tryz.underlying5
 obtain⟨l0,hl0⟩:=zx (s.data.toList)
 rw[hl0] at hl hcv ⊢
 rw[hs0,hn] at hcv
 obtain⟨W1,hW1⟩:=zx (W0.drew.alloc (bytesO (l0 ++ zeros (cp-n)) 5 mk))
 have hb1:Below W0.heap.size W0 W1:=by rw[←hW1]; exact(below_drewN (Below.refl _ _) 1).alloc (Nat.le_refl _) _
 have hz1:W1.heap[w.heap.size+1]? = some (bytesO (l0 ++ zeros (cp-n)) 5 mk):=by rw[←hW1,←hs0]; exact heapNew W0.drew _
 have hs1:W1.heap.size=w.heap.size+2:=by rw[←hW1]; simp[hs0]
 rw[hW1] at hcv
 have HRow:=zh hz1
 have HBd:Hid (Bld (w.heap.size+2) w.heap.size [] W1):=Bld.fresh (by omega) (heapOld hb1 hz0)
 have HB1:Hid (Below w.heap.size w W1):=blN hbl0 hb1
 have HS1:=zh hs1
 have HL:=zh hl
 clear hz0 hbl0 hs0 hb1 hz1 hs1 hl hl0 hn hW1 hmk
 go_enter Tryz.func98,Tryz.ntmps98
 go_wp2_with fail
 have hlen:(l0 ++ zeros (cp-n)).length≥n:=by rw[List.length_append,HL.out]; omega
 have HLen:=zh hlen
 clear hlen
 go_loopw [9] (fun i wr=>∃k:Nat,k≤n∧i = .int .i64 k∧Hid (wr.heap[w.heap.size+1]? = some (bytesO (l0 ++ zeros (cp-n)) 5 mk))∧Hid (Bld (w.heap.size+2) w.heap.size (hexL (l0.take k)) wr)∧Hid (Below w.heap.size w wr)∧Hid (w.heap.size+2≤wr.heap.size)) (fun i _=>n-(intOf i).toNat)
 case atStart=>exact⟨0,Nat.zero_le _,rfl,HRow,HBd,HB1,zh (by rw[HS1.out]; exact Nat.le_refl _)⟩
 case round=>
  obtain⟨k,hk,rfl,HR,HBl,HB,HSz⟩:=hrel
  clear HRow HBd HB1 HS1 hcv
  by_cases hlt:k<n
  ·have hkl:k<l0.length:=by rw[HL.out]; exact hlt
   have c0:=bytes_cell HR.out (p:=k) (by have:=HLen.out; omega)
   rw[List.getElem_append_left hkl] at c0
   obtain⟨c,hc⟩:=zx (l0[k])
   rw[hc] at c0
   have hcb:=UInt8.toNat_lt c
   have hsn:hexL (l0.take k) ++ [hexD (c.toNat / 16)] ++ [hexD (c.toNat % 16)]=hexL (l0.take (k+1)):=by
    rw[←hexL_snoc,take_step (List.getElem?_eq_getElem hkl),hc]
   obtain⟨x,hx⟩:=zx (c.toNat)
   rw[hx] at c0 hcb hsn
   have hle:(hexL (l0.take k)).length≤2000000:=by
    rw[q26z]
    have:(l0.take k).length≤k:=List.length_take_le _ _
    omega
   have ha:bits .and .u8 (x:Int) 15=(x:Int) % 16:=u8_and x hcb
   have hi1:∀W:World,(Instr.index 9 (.string ⟨#[48,49,50,51,52,53,54,55,56,57,97,98,99,100,101,102]⟩) (.int .u8 ((x:Int) / 16))).run Tryz.prog W = .ok (.int .u8 ((hexD (x / 16)).toNat:Int)) W:=fun W=>hex_at W (x / 16) (by omega)
   have hi2:∀W:World,(Instr.index 9 (.string ⟨#[48,49,50,51,52,53,54,55,56,57,97,98,99,100,101,102]⟩) (.int .u8 ((x:Int) % 16))).run Tryz.prog W = .ok (.int .u8 ((hexD (x % 16)).toNat:Int)) W:=fun W=>hex_at W (x % 16) (by omega)
   have HW1:=zh (bbyte_any (w.heap.size+2) w.heap.size (hexL (l0.take k)) (hexD (x / 16)) wr HBl.out (by omega) HSz.out)
   have HSN:=zh hsn
   have HLe:=zh hle
   clear hkl hc hx hsn hle
   go_wp2_with fail
   refine HW1.out.mono ?_
   rintro e w2 ⟨rfl,hbd2,hk2⟩
   have HR2:=zh ((hk2.block (w.heap.size+1) (by omega) (by omega)).trans HR.out)
   have HB2:=zh (HB.out.trans (hk2.below (Nat.le_refl _) (by omega)))
   have HSz2:Hid (w.heap.size+2≤w2.heap.size):=Nat.le_trans HSz.out hk2.size
   have HW2:=zh (bbyte_any (w.heap.size+2) w.heap.size _ (hexD (x % 16)) w2 hbd2 (by rw[List.length_append]; have:=HLe.out; show _+1+1≤_; omega) HSz2.out)
   clear hbd2 hk2 hi1 HW1
   go_wp2_with fail
   with_reducible refine HW2.out.mono ?_
   rintro e w3 ⟨rfl,hbd3,hk3⟩
   rw[HSN.out] at hbd3
   have HR3:=zh ((hk3.block (w.heap.size+1) (by omega) (by omega)).trans HR2.out)
   have HB3:=zh (HB2.out.trans (hk3.below (Nat.le_refl _) (by omega)))
   have HSz3:Hid (w.heap.size+2≤w3.heap.size):=Nat.le_trans HSz2.out hk3.size
   have HBd3:=zh hbd3
   clear hbd3 hk3 hi2 HW2
   go_wp2
   go_roundw
   case rel=>exact⟨k+1,by omega,by go_num,HR3,HBd3,HB3,HSz3⟩
   case measure=>simp[intOf]; omega
  ·have htk:l0.take k=l0:=List.take_of_length_le (by rw[HL.out]; omega)
   have hb:=HBl.out
   rw[htk] at hb
   have HSt:=zh (bstring_any _ _ _ wr hb (by have:=HSz.out; omega))
   clear htk hb
   go_wp2_with fail
   refine HSt.out.mono ?_
   rintro e w2 ⟨rfl,hb2⟩
   have HB2:=zh (HB.out.trans hb2)
   clear hb2
   go_wp2
   go_ret
   exact⟨rfl,HB2.out⟩
theorem dkind_any (w:World) (k:Int):Calls Tryz.prog 85 #[.int .i64 k] w fun e w'=>e = .returned (.string (ofL (kindL k)))∧w=w':=by
 by_cases h1:k=1
 ·subst h1
  go_enter Tryz.func85,Tryz.ntmps85
  go_wp2
  go_ret
  exact⟨rfl,rfl⟩
 by_cases h2:k=2
 ·subst h2
  go_enter Tryz.func85,Tryz.ntmps85
  go_wp2
  go_ret
  exact⟨rfl,rfl⟩
 ·have hk:kindL k=wFree:=by unfold kindL; rw[if_neg h1,if_neg h2]
  have f1:(k == 1)=false:=beq_eq_false_iff_ne.2 h1
  have f2:(k == 2)=false:=beq_eq_false_iff_ne.2 h2
  rw[hk]
  clear h1 h2 hk
  go_enter Tryz.func85,Tryz.ntmps85
  go_wp2
  go_ret
  exact⟨rfl,rfl⟩
end
def badAt:List ByteArray→Int
 | []=>-1
 | s :: r=>if s.size≠64 then 0 else(if badAt r<0 then -1 else badAt r+1)
theorem badAt_neg (l:List ByteArray):badAt l<0↔∀s∈l,s.size=64:=by
 induction l with
 | nil=>simp[badAt]
 | cons a r ih=>
   unfold badAt
   by_cases h:a.size=64
   ·rw[if_neg (by simp[h])]
    split
    ·rename_i h2
     simp[h]
     exact ih.1 h2
    ·rename_i h2
     constructor
     ·intro h3; omega
     ·intro h3
      exact absurd (ih.2 (fun s hs=>h3 s (List.mem_cons_of_mem _ hs))) h2
   ·rw[if_pos (by simpa using h)]
    constructor
    ·intro h3; omega
    ·intro h3; exact absurd (h3 a (List.mem_cons_self ..)) h
theorem badAt_first:∀(l:List ByteArray) (k:Nat) (s:ByteArray),(∀t∈l.take k,t.size=64)→l[k]? = some s→s.size≠64→badAt l=(k:Int)
 | [],_,_,_,h,_=>by simp at h
 | a :: r,0,s,_,h,h2=>by
   have e:a=s:=by simpa using h
   unfold badAt
   rw[e,if_pos h2]
   rfl
 | a :: r,k+1,s,h0,h,h2=>by
   have ih:=badAt_first r k s (fun t ht=>h0 t (by rw[List.take_succ_cons]; exact List.mem_cons_of_mem _ ht)) (by simpa using h) h2
   have ha:a.size=64:=h0 a (by rw[List.take_succ_cons]; exact List.mem_cons_self ..)
   unfold badAt
   rw[if_neg (by simp[ha]),ih,if_neg (by omega)]
   omega
theorem badAt_none {l:List ByteArray} (h:∀t∈l,t.size=64):badAt l = -1:=by
 induction l with
 | nil=>rfl
 | cons a r ih=>
   have h1:=ih (fun t ht=>h t (List.mem_cons_of_mem _ ht))
   unfold badAt
   rw[if_neg (by simp[h a (List.mem_cons_self ..)]),h1]
   rfl
section
theorem dsec_any (w:World) (s:ByteArray):Calls Tryz.prog 63 #[.string s] w fun e w'=>e = .returned (.bool (!decide (s.size=64)))∧w=w':=by
 by_cases h:s.size=64
 ·have f1:((s.size:Int) == 64)=true:=by rw[h]; rfl
  have f2:((s.size:Int) != 64)=false:=by rw[h]; rfl
  rw[decide_eq_true h]
  clear h
  go_enter Tryz.func63,Tryz.ntmps63
  go_wp2
  go_ret
  exact⟨ret_b (by simp),rfl⟩
 ·have f1:((s.size:Int) == 64)=false:=beq_eq_false_iff_ne.2 (by omega)
  have f2:((s.size:Int) != 64)=true:=by rw[bne,f1]; rfl
  rw[decide_eq_false h]
  clear h
  go_enter Tryz.func63,Tryz.ntmps63
  go_wp2
  go_ret
  exact⟨ret_b (by simp),rfl⟩
theorem texts_facts {w:World} {v:Value} {l:List ByteArray} (h:Texts w v l):∃(ad:Option Addr) (n cap:Nat),v = .slice ad n cap∧Hid (n=l.length)∧n≤9223372036854775807 ∧
 Hid (∀j,j<n→∃b off x,ad=some ⟨b,off,none⟩∧b<w.heap.size∧l[j]? = some x∧w.cell? ⟨b,off+j,none⟩=some (.string x)):=by
 obtain⟨ad,cap,e,h1,h2,h3⟩:=h
 refine⟨ad,l.length,cap,e,rfl,by unfold maxLen at h2; omega,fun j hj=>?_⟩
 obtain⟨b,off,e2,hb,hc⟩:=h3 (by omega)
 exact⟨b,off,l[j],e2,hb,by simp,hc j _ (by simp)⟩
theorem dindex_any (w:World) (v:Value) (l:List ByteArray) (hv:Texts w v l):Calls Tryz.prog 114 #[v,.func (.func 63) #[] #[]] w fun e w'=>e = .returned (.int .i64 (badAt l))∧w=w':=by
 obtain⟨ad,n,cap,rfl,HN,hn2,HF⟩:=texts_facts hv
 clear hv
 have HS:Hid (∀(W:World) (s:ByteArray),Calls Tryz.prog 63 #[.string s] W fun e w'=>e = .returned (.bool (!decide (s.size=64)))∧W=w'):=fun W s=>dsec_any W s
 go_enter Tryz.func114,Tryz.ntmps114
 go_wp2
 go_loop [8] (fun i=>∃k:Nat,k≤n∧i = .int .i64 k∧Hid (∀t∈l.take k,t.size=64)) (fun i=>n-(intOf i).toNat)
 case atStart=>exact⟨0,Nat.zero_le _,rfl,zh (by simp)⟩
 case round=>
  obtain⟨k,hk,rfl,HA⟩:=hrel
  by_cases hlt:k<n
  ·obtain⟨b,o,x,rfl,hb,hx,hc⟩:=HF.out k hlt
   have hk0:(k:Int)<(n:Int):=by omega
   by_cases h64:x.size=64
   ·have HA2:=zh (take_all HA.out hx h64)
    have hcall:=HS.out w x
    rw[decide_eq_true h64] at hcall
    have HC:=zh hcall
    clear hx h64 hcall
    go_wp2_with fail
    refine HC.out.mono ?_
    rintro e w2 ⟨rfl,rfl⟩
    go_wp2
    go_round
    case rel=>exact⟨k+1,by omega,by go_num,HA2⟩
    case measure=>simp[intOf]; omega
   ·have HE:=zh (badAt_first l k x HA.out hx h64)
    have hcall:=HS.out w x
    rw[decide_eq_false h64] at hcall
    have HC:=zh hcall
    clear hx h64 hcall
    go_wp2_with fail
    refine HC.out.mono ?_
    rintro e w2 ⟨rfl,rfl⟩
    go_wp2
    go_ret
    exact⟨ret_i HE.out.symm,rfl⟩
  ·have htk:l.take k=l:=List.take_of_length_le (by have:=HN.out; omega)
   have ha:=HA.out
   rw[htk] at ha
   have HE:=zh (badAt_none ha)
   clear ha htk
   go_wp2
   go_ret
   exact⟨ret_i HE.out.symm,rfl⟩
theorem dcontains_any (w:World) (v:Value) (l:List ByteArray) (hv:Texts w v l):Calls Tryz.prog 62 #[v,.func (.func 63) #[] #[]] w fun e w'=>e = .returned (.bool (decide (0≤badAt l)))∧w=w':=by
 have hi:=dindex_any w v l hv
 obtain⟨c,hc⟩:=zx (badAt l)
 rw[hc] at hi ⊢
 have HI:=zh hi
 clear hi
 clear hc hv
 go_enter Tryz.func62,Tryz.ntmps62
 go_wp2_with fail
 refine HI.out.mono ?_
 rintro e w1 ⟨rfl,rfl⟩
 go_wp2
 go_ret
 exact⟨rfl,rfl⟩
theorem dshape_any (w:World) (g:Sp.Geom) (v:Value) (l:List ByteArray) (hv:Texts w v l):Calls Tryz.prog 25 #[gV g,v] w fun e w'=>e = .returned (.bool (decide (shapeP g l)))∧Below w.heap.size w w':=by
 have hb:=fun o:Obj=>dcontains_any (w.alloc o) v l (hv.below (bl2 o))
 have hc:=fun W:World=>gcheck_any W g
 have hz:=fun W:World=>gsize_any W g
 have hall:=badAt_neg l
 obtain⟨ad,n,cap,rfl,HN,hn2,_⟩:=texts_facts hv
 obtain⟨b,hbd⟩:=zx (decide (0≤badAt l))
 have hbi:b=false↔∀s∈l,s.size=64:=by
  rw[←hbd,←hall,decide_eq_false_iff_not]
  omega
 rw[hbd] at hb
 obtain⟨z,hz0⟩:=zx (g.size)
 rw[hz0] at hz
 have hD:∀q:Bool,(q=true↔(g.ok∧(n:Int)=z∧b=false))→q=decide (shapeP g l):=fun q hq=>by
  rw[Bool.eq_iff_iff,hq,decide_eq_true_iff,hbi]
  unfold shapeP
  rw[hz0,←HN.out]
 have HD:=zh hD
 obtain⟨R,hR⟩:=zx (decide (shapeP g l))
 rw[hR] at HD ⊢
 clear hD hR hbi hall hbd hz0 hv
 by_cases hg:g.ok
 rotate_left
 ·rw[Geom.check_no hg] at hc
  obtain rfl:false=R:=HD.out false (by simp[hg])
  obtain⟨ga,gb,gc⟩:=g
  unfold gV at hc hz ⊢
  have HB:=zh hb
  have HC:=zh hc
  have HZ:=zh hz
  clear hb hc hz
  clear hg HD
  go_enter Tryz.func25,Tryz.ntmps25
  go_wp2_with fail
  refine(HB.out _).mono ?_
  rintro e w1 ⟨rfl,rfl⟩
  go_wp2_with fail
  refine(HC.out _).mono ?_
  rintro e w2 ⟨rfl,hb2⟩
  have HB2:=zh (blN (bl2 _) hb2)
  clear hb2
  go_wp2
  go_ret
  exact⟨rfl,HB2.out⟩
 rw[Geom.check_ok hg] at hc
 by_cases hn:(n:Int)=z
 rotate_left
 ·obtain rfl:false=R:=HD.out false (by simp[hn])
  have f1:((n:Int) == z)=false:=beq_eq_false_iff_ne.2 hn
  obtain⟨ga,gb,gc⟩:=g
  unfold gV at hc hz ⊢
  have HB:=zh hb
  have HC:=zh hc
  have HZ:=zh hz
  clear hb hc hz
  clear hg HD hn
  go_enter Tryz.func25,Tryz.ntmps25
  go_wp2_with fail
  refine(HB.out _).mono ?_
  rintro e w1 ⟨rfl,rfl⟩
  go_wp2_with fail
  refine(HC.out _).mono ?_
  rintro e w2 ⟨rfl,hb2⟩
  obtain⟨z0,z1,z2⟩:=g_cells hb2
  have HB2:=zh (blN (bl2 _) hb2)
  clear hb2
  go_wp2_with fail
  clear z0 z1 z2
  refine(HZ.out _).mono ?_
  rintro e w3 ⟨rfl,hb3⟩
  have HB3:=zh (blN HB2.out hb3)
  clear hb3
  go_wp2
  go_ret
  exact⟨rfl,HB3.out⟩
 ·have HR:Hid ((!b)=R):=HD.out (!b) (by simp[hg,hn])
  have f1:((n:Int) == z)=true:=beq_iff_eq.2 hn
  obtain⟨ga,gb,gc⟩:=g
  unfold gV at hc hz ⊢
  have HB:=zh hb
  have HC:=zh hc
  have HZ:=zh hz
  clear hb hc hz
  clear hg HD hn
  go_enter Tryz.func25,Tryz.ntmps25
  go_wp2_with fail
  refine(HB.out _).mono ?_
  rintro e w1 ⟨rfl,rfl⟩
  go_wp2_with fail
  refine(HC.out _).mono ?_
  rintro e w2 ⟨rfl,hb2⟩
  obtain⟨z0,z1,z2⟩:=g_cells hb2
  have HB2:=zh (blN (bl2 _) hb2)
  clear hb2
  go_wp2_with fail
  clear z0 z1 z2
  refine(HZ.out _).mono ?_
  rintro e w3 ⟨rfl,hb3⟩
  have HB3:=zh (blN HB2.out hb3)
  clear hb3
  go_wp2
  go_ret
  exact⟨ret_b HR.out,HB3.out⟩
theorem ret_sb {T:ByteArray} {a b:Bool} (h:a=b):Ending.returned (.tuple #[.string T,.bool a]) = .returned (.tuple #[.string T,.bool b]):=by rw[h]
def MapL (word:List UInt8) (s:ByteArray) (n:Int):List UInt8:=word ++ listL (if mapC s n=0 then placesL s.data.toList n.toNat else [])
theorem dmapped_any (w:World) (word:List UInt8) (s:ByteArray) (n:Int) (hw:word.length≤100) (ht:TabOk w):Calls Tryz.prog 95 #[.string (ofL word),.string s,.int .i64 n] w fun e w'=>e = .returned (.tuple #[.string (ofL (MapL word s n)),.bool (decide (mapC s n=0))])∧Below w.heap.size w w':=by
 have hp:=fun W:World=>mplaces_any W s n
 have hnum:=fun(W:World) (v:Value) (l:List Nat) (hv:Ints W v (l.map (fun n:Nat=>(n:Int)))) (hl:l.length≤1000) (hall:∀n∈l,n<9223372036854775808) (ht:TabOk W)=>q34z W word v l hv (by omega) hl hall ht
 have hlb:∀x∈(if mapC s n=0 then placesL s.data.toList n.toNat else []),x<64:=fun x hx=>by
  split at hx
  ·rename_i h
   have hz:=mapC_zero h
   unfold placesL at hx
   have:=(List.mem_filter.1 hx).1
   rw[List.mem_range] at this
   omega
  ·cases hx
 have hll:(if mapC s n=0 then placesL s.data.toList n.toNat else []).length≤64:=by
  split
  ·rename_i h
   have hz:=mapC_zero h
   have:=placesL_length s.data.toList n.toNat
   omega
  ·simp
 unfold PlacesPost at hp
 unfold MapL
 obtain⟨c,hc⟩:=zx (mapC s n)
 obtain⟨L,hL⟩:=zx ((if mapC s n=0 then placesL s.data.toList n.toNat else []))
 rw[hL] at hlb hll ⊢
 simp only[hL] at hp
 rw[hc] at hp ⊢
 obtain⟨T,hT⟩:=zx (ofL (word ++ listL L))
 have hnum2:=fun(W:World) (v:Value) (hv:Ints W v (L.map (fun n:Nat=>(n:Int)))) (ht:TabOk W)=>hnum W v L hv (by omega) (fun n hn=>by have:=hlb n hn; omega) ht
 rw[hT] at hnum2 ⊢
 have HT:=zh ht
 have HNu:=zh hnum2
 have HP:=zh hp
 clear hp
 clear hnum hnum2 hlb hll hc hL hT ht hw
 go_enter Tryz.func95,Tryz.ntmps95
 go_wp2_with fail
 refine(HP.out _).mono ?_
 rintro e w1 ⟨v,rfl,hv,hb1⟩
 have HV:Hid (Ints w1 v (L.map (fun n:Nat=>(n:Int)))):=by
  have hv2:w1.ownsRow w.heap.size 3 1 v L.length (L.map (fun n:Nat=>Value.int .i64 (n:Int))):=hv
  refine ints_of_own (base:=w.heap.size) ?_
  rw[List.length_map,List.map_map]
  exact hv2
 have HB1:=zh hb1
 clear hv hb1
 go_wp2_with fail
 refine(HNu.out _ _ HV.out (HT.out.below HB1.out)).mono ?_
 rintro e w2 ⟨rfl,hb2⟩
 have HB2:=zh (blN HB1.out hb2)
 clear hb2
 by_cases h0:c=0
 ·subst h0
  go_wp2
  go_ret2
  exact⟨rfl,HB2.out⟩
 ·have f1:(c == 0)=false:=beq_eq_false_iff_ne.2 h0
  have HD:Hid (decide (c=0)=false):=decide_eq_false h0
  clear h0
  go_wp2
  go_ret2
  exact⟨ret_sb HD.out.symm,HB2.out⟩
end
