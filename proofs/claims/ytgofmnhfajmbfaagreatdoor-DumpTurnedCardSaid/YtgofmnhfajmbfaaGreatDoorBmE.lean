import Derived.Test.YtgofmnhfajmbfaaGreatDoorBmWrite
import Derived.Lib.AppendIntMem
set_option maxRecDepth 20000
set_option maxHeartbeats 4000000
namespace Go.Proofs.YtgofmnhfajmbfaaGreatDoor
open Go Go.RowKit Txt Sp
section
end
/-- All blocks below R, but b, are as they were. -/
structure Kept (R b:Nat) (w w':World):Prop where
 os:w'.os=w.os
 tape:w'.tape=w.tape
 output:w'.output=w.output
 size:w.heap.size≤w'.heap.size
 block:∀k,k<R→k≠b→w'.heap[k]? = w.heap[k]?
theorem Kept.refl (R b:Nat) (w:World):Kept R b w w:=⟨rfl,rfl,rfl,Nat.le_refl _,fun _ _ _=>rfl⟩
theorem Kept.alloc {R b:Nat} {w w1:World} (h:Kept R b w w1) (hR:R≤w1.heap.size) (o:Obj):Kept R b w (w1.alloc o):=by
 have h1:=bl2 (w:=w1) o
 exact⟨h.os,h.tape,h.output,Nat.le_trans h.size h1.size,fun k hk hn=>(h1.block k (Nat.lt_of_lt_of_le hk hR)).trans (h.block k hk hn)⟩
theorem Kept.setCell {R b:Nat} {w w1:World} (h:Kept R b w w1) {p:Addr} (hp:p.block=b∨R≤p.block) (v:Value):Kept R b w (w1.setCell p v):=by
 refine⟨h.os,h.tape,h.output,?_,fun k hk hn=>?_⟩
 ·have:=h.size
  simpa [World.setCell] using this
 ·refine(Below.heap_setCell _ _ _ _ ?_).trans (h.block k hk hn)
  rcases hp with hp | hp
  ·rw[hp]; exact hn
  ·omega
theorem Kept.below {B R b:Nat} {w w':World} (h:Kept R b w w') (hB:B≤b) (hR:B≤R):Below B w w':=⟨h.os,h.tape,h.output,h.size,fun k hk=>h.block k (by omega) (by omega)⟩
def BldP (R b:Nat) (p:Value) (l:List UInt8) (w:World):Prop:=b<R∧∃v,w.heap[b]? = some (.cells #[p,v] 222 (0,0))∧w.ownsRow R 5 1 v l.length (bytesV l)
def Bld (R b:Nat) (l:List UInt8) (w:World):Prop:=BldP R b (.pointer none) l w∨BldP R b (.pointer (some ⟨b,0,none⟩)) l w
theorem Bld.is {R b:Nat} {l:List UInt8} {w:World} (h:Bld R b l w):Lib.IsBuilder 222 5 b b (bytesV l) w:=by
 have hl:(bytesV l).length=l.length:=bytesV_length l
 have key:∀p,BldP R b p l w→Lib.BuilderAt 222 5 b b p (bytesV l) w:=fun p ⟨hR,v,hb,hown⟩=>by
  refine⟨Nat.le_refl _,v,hb,?_,Lib.ownBlock_ne hown hb (by decide)⟩
  rw[hl]
  rcases hown with ⟨h1,h | ⟨g,cap,cur,rfl,h2,h3⟩⟩
  ·exact⟨h1,Or.inl h⟩
  ·exact⟨h1,Or.inr ⟨g,cap,cur,rfl,by omega,h3⟩⟩
 rcases h with h | h
 ·exact Or.inl (key _ h)
 ·exact Or.inr (key _ h)
theorem BldP.below {R b:Nat} {p:Value} {l:List UInt8} {w w':World} (h:BldP R b p l w) (hb:Below w.heap.size w w'):BldP R b p l w':=by
 obtain⟨hR,v,hbk,hown⟩:=h
 refine⟨hR,v,q1z hb hbk,?_⟩
 obtain⟨h1,h | ⟨g,cap,cur,rfl,h2,h3,h4⟩⟩:=hown
 ·exact⟨h1,Or.inl h⟩
 ·exact⟨h1,Or.inr ⟨g,cap,cur,rfl,h2,q1z hb h3,h4⟩⟩
theorem Bld.below {R b:Nat} {l:List UInt8} {w w':World} (h:Bld R b l w) (hb:Below w.heap.size w w'):Bld R b l w':=by
 rcases h with h | h
 ·exact Or.inl (h.below hb)
 ·exact Or.inr (h.below hb)
theorem Bld.fresh {R b:Nat} {w:World} (hR:b<R) (h:w.heap[b]? = some (.cells #[.pointer none,.slice none 0 0] 222 (0,0))):Bld R b [] w:=Or.inl ⟨hR,_,h,World.ownsRow_nil _ _ _ _⟩
theorem BldP.used {R b:Nat} {p:Value} {l:List UInt8} {w:World} (h:BldP R b p l w) (q:Value):BldP R b q l (w.setCell ⟨b,0,none⟩ q):=by
 obtain⟨hR,v,hbk,hown⟩:=h
 refine⟨hR,v,q18z (k:=0) hbk q,?_⟩
 obtain⟨h1,h | ⟨g,cap,cur,rfl,h2,h3,h4⟩⟩:=hown
 ·exact⟨h1,Or.inl h⟩
 ·exact⟨h1,Or.inr ⟨g,cap,cur,rfl,h2,(q47z q (by omega)).trans h3,h4⟩⟩
section
theorem bcheck_any (R b:Nat) (l:List UInt8) (w:World) (h:Bld R b l w):Calls Tryz.prog 203 #[.pointer (some ⟨b,0,none⟩)] w fun e w'=>e = .returned (.tuple #[])∧BldP R b (.pointer (some ⟨b,0,none⟩)) l w'∧Kept R b w w':=by
 have hinfo:(Tryz.prog.info? 222).map (fun i=>i.size)=some 2:=by kernel_rfl
 obtain⟨j,hj,hj2⟩:=Option.map_eq_some_iff.1 hinfo
 have hself:=fun W:World=>Lib.run_neq_ptr_same (P:=Tryz.prog) W ⟨b,0,none⟩ Tryz.underlying220 hj
 rcases h with h | h
 ·obtain⟨hR,v,hbk,hown⟩:=id h
  have c0:w.cell? ⟨b,0,none⟩=some (.pointer none):=cellOf hbk rfl
  have f0:w.frozen? ⟨b,0,none⟩=false:=q4z hbk
  have hsh:w.shape? b=some (222,2):=by simp[World.shape?,hbk]
  have htu:=Lib.run_to_unsafe (P:=Tryz.prog) w ⟨b,0,none⟩ Tryz.underlying220 Tryz.underlying327 hj (by rw[hj2]; decide) hsh (by show 0<2; decide)
  have hfu:=Lib.run_from_unsafe (P:=Tryz.prog) w (u:=222) ⟨b,0,none⟩ Tryz.underlying327 Tryz.underlying220 hj hsh (by kernel_rfl)
  have HU:=zh (h.used (.pointer (some ⟨b,0,none⟩)))
  have HB:=zh ((Kept.refl R b w).setCell (p:=⟨b,0,none⟩) (Or.inl rfl) (.pointer (some ⟨b,0,none⟩)))
  have hno:∀W:World,(callFunc 259 #[.pointer (some ⟨b,0,none⟩)]).run Tryz.prog W = .ok (.value (.pointer (some ⟨b,0,none⟩))) W:=fun W=>by kernel_rfl
  clear h hj hj2 hinfo hbk hown hsh hR
  go_enter Tryz.func203,Tryz.ntmps203
  go_wp2
  go_end0
  exact⟨rfl,HU.out,HB.out⟩
 ·obtain⟨hR,v,hbk,hown⟩:=id h
  have c0:w.cell? ⟨b,0,none⟩=some (.pointer (some ⟨b,0,none⟩)):=cellOf hbk rfl
  have HU:=zh h
  have heq:(binOp .eql 220 (.pointer (some ⟨b,0,none⟩)) (.pointer none)).run Tryz.prog w = .ok (.bool false) w:=by kernel_rfl
  clear h hj hj2 hinfo hbk hown hR
  go_enter Tryz.func203,Tryz.ntmps203
  go_wp2
  go_end0
  exact⟨rfl,HU.out,Kept.refl _ _ _⟩
theorem bbyte_any (R b:Nat) (l:List UInt8) (c:UInt8) (w:World) (h:Bld R b l w) (hlen:l.length+1≤140737488355328) (hBw:R≤w.heap.size):Calls Tryz.prog 142 #[.pointer (some ⟨b,0,none⟩),.int .u8 (c.toNat:Int)] w fun e w'=>e = .returned .nilIface∧Bld R b (l ++ [c]) w'∧Kept R b w w':=by
 obtain⟨i0,hi,hz0,hz1,hz2⟩:=info_parts infoU8
 have hc:=bcheck_any R b l w h
 have hap:bytesV l ++ [.int .u8 (c.toNat:Int)]=bytesV (l ++ [c]):=by unfold bytesV; rw[List.map_append]; rfl
 have HAP:=zh hap
 have HC:=zh hc
 clear hc
 clear h hap
 go_enter Tryz.func142,Tryz.ntmps142
 go_wp2_with fail
 refine HC.out.mono ?_
 rintro e w1 ⟨rfl,h1,hb1⟩
 obtain⟨hR,v,hbk,hown⟩:=h1
 have c1:w1.cell? ⟨b,1,none⟩=some v:=cellOf hbk rfl
 have HOwn:=zh hown
 have HBk:=zh hbk
 have HB1:=zh hb1
 have hsz:R≤w1.heap.size:=Nat.le_trans hBw hb1.size
 clear hown hbk hb1
 go_wp2_with (at_builtin; refine wpList_append_lies _ rfl _ _ _ rfl R 5 i0 _ 1 1 Tryz.underlying47 hi hz0 hz1 hz2 rfl (by decide) _ _ _ rfl (HOwn.out.alloc _) ⟨w1.heap.size,0,none⟩ 1 1 [.int .u8 (c.toNat:Int)] rfl rfl (World.news_of_block (cs:=#[.int .u8 (c.toNat:Int)]) (t:=5) (fr:=(0,0)) (q5z w1 _)) (by simp[Value.oneCell']) (by omega) ?c1 ?c2 ?c3 (w1.heap.size+1) (by simp) ?_)
 case c1=>unfold maxLen; omega
 case c2=>omega
 case c3=>simp; omega
 intro g4 cap4 w4 hown4 hgrow4 hat4 hlt4
 have hlt:b<w1.heap.size:=(Array.getElem?_eq_some_iff.1 HBk.out).1
 have hge:∀q,v.ownBlock=some q→R≤q:=fun q hq=>(HOwn.out.lt q hq).1
 have hb4:w4.heap[b]? = some (.cells #[.pointer (some ⟨b,0,none⟩),v] 222 (0,0)):=by
  rw[hgrow4.block b (by simp; omega) (fun e=>by have:=hge b e.symm; omega)]
  exact(q1z (bl2 _) HBk.out)
 have d1:w4.cell? ⟨b,1,none⟩=some v:=cellOf hb4 rfl
 have f1:w4.frozen? ⟨b,1,none⟩=false:=q4z hb4
 have hg4:R≤g4:=by
  rcases hat4 with h | h
  ·exact hge g4 h
  ·omega
 have HFin:Hid (Bld R b (l ++ [c]) (w4.setCell ⟨b,1,none⟩ (.slice (some ⟨g4,0,none⟩) (l.length+1) cap4))):=by
  refine Or.inr ⟨hR,_,q18z (k:=1) hb4 _,?_⟩
  rw[List.length_append,←HAP.out]
  obtain⟨q1,h | ⟨g,cap,cur,he,q2,q3,q4⟩⟩:=hown4
  ·exact⟨q1,Or.inl h⟩
  ·exact⟨q1,Or.inr ⟨g,cap,cur,he,q2,(q47z _ (by omega)).trans q3,q4⟩⟩
 have HB4:Hid (Kept R b w (w4.setCell ⟨b,1,none⟩ (.slice (some ⟨g4,0,none⟩) (l.length+1) cap4))):=by
  refine zh (Kept.setCell (p:=⟨b,1,none⟩) ?_ (Or.inl rfl) _)
  have k1:=HB1.out.alloc hsz (.cells #[.int .u8 (c.toNat:Int)] 5)
  refine⟨hgrow4.os.trans k1.os,hgrow4.tape.trans k1.tape,hgrow4.output.trans k1.output,Nat.le_trans k1.size hgrow4.size,fun j hj hn=>?_⟩
  exact(hgrow4.block j (by simp; omega) (fun e=>by have:=hge j e.symm; omega)).trans (k1.block j hj hn)
 clear hown4 hgrow4 hat4 hlt4 hb4 hlt hge hg4
 go_wp2
 go_ret
 exact⟨rfl,HFin.out,HB4.out⟩
theorem btext_any (R b:Nat) (l:List UInt8) (s:ByteArray) (w:World) (h:Bld R b l w) (hlen:l.length+s.size≤140737488355328) (hBw:R≤w.heap.size):Calls Tryz.prog 141 #[.pointer (some ⟨b,0,none⟩),.string s] w fun e w'=>e = .returned (.tuple #[.int .i64 s.size,.nilIface])∧Bld R b (l ++ s.data.toList) w'∧Kept R b w w':=by
 obtain⟨i0,hi,hz0,hz1,hz2⟩:=info_parts infoU8
 have hc:=bcheck_any R b l w h
 have hap:bytesV l ++ Lib.strCells s=bytesV (l ++ s.data.toList):=by unfold bytesV Lib.strCells; rw[List.map_append]
 have HAP:=zh hap
 have HC:=zh hc
 clear hc
 clear h hap
 go_enter Tryz.func141,Tryz.ntmps141
 go_wp2_with fail
 refine HC.out.mono ?_
 rintro e w1 ⟨rfl,h1,hb1⟩
 obtain⟨hR,v,hbk,hown⟩:=h1
 have c1:w1.cell? ⟨b,1,none⟩=some v:=cellOf hbk rfl
 have HOwn:=zh hown
 have HBk:=zh hbk
 have HB1:=zh hb1
 have hsz:R≤w1.heap.size:=Nat.le_trans hBw hb1.size
 clear hown hbk hb1
 go_wp2_with (at_builtin; refine Lib.wpList_append_own_string _ rfl _ _ 47 9 rfl R 5 i0 Tryz.underlying47 Tryz.underlying9 hi hz0 hz1 hz2 _ _ _ rfl HOwn.out s rfl ?c3 ?c4 ?c5 ?_)
 case c3=>unfold maxLen; omega
 case c4=>omega
 case c5=>exact hsz
 intro v' w4 hown4 hgrow4 _
 have hlt:b<w1.heap.size:=(Array.getElem?_eq_some_iff.1 HBk.out).1
 have hge:∀q,v.ownBlock=some q→R≤q:=fun q hq=>(HOwn.out.lt q hq).1
 have hb4:w4.heap[b]? = some (.cells #[.pointer (some ⟨b,0,none⟩),v] 222 (0,0)):=by
  rw[hgrow4.block b hlt (fun e=>by have:=hge b e.symm; omega)]
  exact HBk.out
 have d1:w4.cell? ⟨b,1,none⟩=some v:=cellOf hb4 rfl
 have f1:w4.frozen? ⟨b,1,none⟩=false:=q4z hb4
 have HFin:Hid (Bld R b (l ++ s.data.toList) (w4.setCell ⟨b,1,none⟩ v')):=by
  refine Or.inr ⟨hR,_,q18z (k:=1) hb4 _,?_⟩
  have hss:s.data.toList.length=s.size:=Array.length_toList
  rw[List.length_append,←HAP.out,hss]
  obtain⟨q1,h | ⟨g,cap,cur,he,q2,q3,q4⟩⟩:=hown4
  ·exact⟨q1,Or.inl h⟩
  ·exact⟨q1,Or.inr ⟨g,cap,cur,he,q2,(q47z _ (by omega)).trans q3,q4⟩⟩
 have HB4:Hid (Kept R b w (w4.setCell ⟨b,1,none⟩ v')):=by
  refine zh (Kept.setCell (p:=⟨b,1,none⟩) ?_ (Or.inl rfl) _)
  have k1:=HB1.out
  refine⟨hgrow4.os.trans k1.os,hgrow4.tape.trans k1.tape,hgrow4.output.trans k1.output,Nat.le_trans k1.size hgrow4.size,fun j hj hn=>?_⟩
  exact(hgrow4.block j (by omega) (fun e=>by have:=hge j e.symm; omega)).trans (k1.block j hj hn)
 obtain⟨ao,n',cap,hv⟩:∃ao n' cap,v' = .slice ao n' cap:=by
  rcases hown4.2 with ⟨hv,_⟩ | ⟨g,cap,cur,hv,_⟩
  ·exact⟨_,_,_,hv⟩
  ·exact⟨_,_,_,hv⟩
 subst hv
 clear hown4 hgrow4 hb4 hlt hge
 go_wp2
 go_ret2
 exact⟨rfl,HFin.out,HB4.out⟩
theorem bstring_any (R b:Nat) (l:List UInt8) (w:World) (h:Bld R b l w) (hb:b≤w.heap.size):Calls Tryz.prog 143 #[.pointer (some ⟨b,0,none⟩)] w fun e w'=>e = .returned (.string (ofL l))∧Below b w w':=
 Tryz.Builder_String_any b b l w h.is hb
end
section
end
