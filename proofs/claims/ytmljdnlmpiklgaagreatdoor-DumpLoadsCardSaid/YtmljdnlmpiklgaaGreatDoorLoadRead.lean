import Derived.Test.YtmljdnlmpiklgaaGreatDoorLoadLib
import Derived.Test.YtmljdnlmpiklgaaGreatDoorSpLoadS
set_option maxRecDepth 20000
namespace Go.Proofs.YtmljdnlmpiklgaaGreatDoor
open Go Go.RowKit Txt Sp
def q53z (o:Option Nat) (w:World) (e:Ending) (w':World):Prop:=
 e = .returned (.tuple #[.int .i64 ((o.getD 0:Nat):Int),.bool o.isSome])∧Below w.heap.size w w'
theorem num_no {o:Option Nat} {w w':World} (h:o=none) (hb:Below w.heap.size w w'):q53z o w (.returned (.tuple #[.int .i64 0,.bool false])) w':=by
 subst h
 exact⟨rfl,hb⟩
theorem num_yes {o:Option Nat} {n:Nat} {w w':World} (h:o=some n) (hb:Below w.heap.size w w'):q53z o w (.returned (.tuple #[.int .i64 (n:Int),.bool true])) w':=by
 subst h
 exact⟨rfl,hb⟩
theorem empty_iff (s:ByteArray):s.toList.isEmpty=decide (s.size=0):=by
 rw[Lib.toList_data,Lib.size_eq,Bool.eq_iff_iff,List.isEmpty_iff,decide_eq_true_iff,List.length_eq_zero_iff]
theorem head_at {s:ByteArray} (h:0<s.size):s.data.toList.head? = some (s[0]'h):=by
 rw[List.head?_eq_getElem?]
 exact at_data s 0 h
section
set_option maxHeartbeats 8000000
theorem dread_any (w:World) (s:ByteArray) (hs:s.size≤4000000000):Calls Tryz.prog 86 #[.string s] w (q53z (numP s.data.toList) w):=by
 have hno:=fun(h:s.data.toList=[]∨12<s.data.toList.length∨Lib.trimS s.data.toList digs≠[]∨(1<s.data.toList.length∧s.data.toList.head? = some 48)) (w':World) (hb:Below w.heap.size w w')=>num_no (q57z h) hb
 have hyes:=fun(n:Nat) (h:numP s.data.toList=some n) (w':World) (hb:Below w.heap.size w w')=>num_yes h hb
 have hl:s.data.toList.length=s.size:=(Lib.size_eq s).symm
 obtain⟨Q,hQ⟩:=zx (q53z (numP s.data.toList) w)
 rw[hQ] at hno hyes ⊢
 have q0:=empty_iff s
 by_cases h0:s.size=0
 ·have HN:=zh (hno (Or.inl (List.length_eq_zero_iff.1 (by omega))))
  rw[decide_eq_true h0] at q0
  clear hno hyes hl hQ h0 hs
  go_enter Tryz.func86,Tryz.ntmps86
  go_wp2
  first | exact HN.out _ (Below.refl _ _) | (go_ret2; exact HN.out _ (Below.refl _ _))
 rw[decide_eq_false h0] at q0
 by_cases h12:12<s.size
 ·have HN:=zh (hno (Or.inr (Or.inl (by omega))))
  have f1:decide ((s.size:Int) > 12)=true:=decide_eq_true (by omega)
  have f2:(12:Int)<(s.size:Int):=by omega
  clear hno hyes hl hQ h0 hs
  go_enter Tryz.func86,Tryz.ntmps86
  go_wp2
  first | exact HN.out _ (Below.refl _ _) | (go_ret2; exact HN.out _ (Below.refl _ _))
 have f1:decide ((s.size:Int) > 12)=false:=decide_eq_false (by omega)
 have f2:¬(12:Int)<(s.size:Int):=by omega
 have htr:=fun W:World=>trim_digs s W hs
 have q1:=empty_iff (ofL (Lib.trimS s.data.toList digs))
 rw[ofL_size] at q1
 by_cases ht:Lib.trimS s.data.toList digs=[]
 rotate_left
 ·have HN:=zh (hno (Or.inr (Or.inr (Or.inl ht))))
  rw[decide_eq_false (fun h=>ht (List.length_eq_zero_iff.1 h))] at q1
  obtain⟨T,hT⟩:=zx (ofL (Lib.trimS s.data.toList digs))
  rw[hT] at htr q1
  have HTR:=zh htr
  clear htr
  clear hno hyes hl hQ h0 hs ht hT
  go_enter Tryz.func86,Tryz.ntmps86
  go_wp2_with fail
  refine(HTR.out _).mono ?_
  rintro e w1 ⟨rfl,hb1⟩
  have HB1:=zh (blN (Below.refl _ _) hb1)
  clear hb1
  go_wp2
  first | exact HN.out _ HB1.out | (go_ret2; exact HN.out _ HB1.out)
 rw[decide_eq_true (by rw[ht]; rfl)] at q1
 have hpos:0<s.size:=by omega
 have hhd:=head_at hpos
 obtain⟨c,hc⟩:=zx (s[0]'hpos)
 rw[hc] at hhd
 have q2:((c.toNat:Int) == 48)=decide (c=48):=u8_eq c 48 (by decide)
 have hx:∀W:World,(Instr.index 9 (.string s) (.int .i64 0)).run Tryz.prog W = .ok (.int .u8 (c.toNat:Int)) W:=fun W=>by
  have:=text_lit W (s:=s) (n:=0) hpos
  rw[hc] at this
  exact this
 by_cases h48:1<s.size∧c=48
 ·have HN:=zh (hno (Or.inr (Or.inr (Or.inr ⟨by omega,by rw[hhd,h48.2]⟩))))
  rw[decide_eq_true h48.2] at q2
  have f3:decide ((s.size:Int) > 1)=true:=decide_eq_true (by omega)
  have f4:(1:Int)<(s.size:Int):=by omega
  obtain⟨T,hT⟩:=zx (ofL (Lib.trimS s.data.toList digs))
  rw[hT] at htr q1
  obtain⟨x,hx2⟩:=zx ((c.toNat:Int))
  simp only[hx2] at hx q2
  have HTR:=zh htr
  clear htr
  clear hno hyes hl hQ h0 hs ht hT hhd hc h48 hx2 h12
  go_enter Tryz.func86,Tryz.ntmps86
  go_wp2_with fail
  refine(HTR.out _).mono ?_
  rintro e w1 ⟨rfl,hb1⟩
  have HB1:=zh (blN (Below.refl _ _) hb1)
  clear hb1
  go_wp2
  first | exact HN.out _ HB1.out | (go_ret2; exact HN.out _ HB1.out)
 have hl0:s.data.toList≠[]:=fun h=>by rw[h] at hl; simp at hl; omega
 obtain⟨n,hn,hat⟩:=numP_yes hl0 (by omega) ht (fun h=>h48 ⟨by omega,by rw[hhd] at h; exact Option.some.inj h.2⟩)
 have hato:=fun W:World=>atoi_num s n W (by omega) hat
 have HY:=zh (hyes n hn)
 obtain⟨T,hT⟩:=zx (ofL (Lib.trimS s.data.toList digs))
 rw[hT] at htr q1
 obtain⟨x,hx2⟩:=zx ((c.toNat:Int))
 simp only[hx2] at hx q2
 by_cases h1:1<s.size
 ·rw[decide_eq_false (fun h=>h48 ⟨h1,h⟩)] at q2
  have f3:decide ((s.size:Int) > 1)=true:=decide_eq_true (by omega)
  have f4:(1:Int)<(s.size:Int):=by omega
  have HTR:=zh htr
  have HATO:=zh hato
  clear htr hato
  clear hno hyes hl hQ h0 hs ht hT hhd hc h48 hx2 h12 hl0 hn hat h1
  go_enter Tryz.func86,Tryz.ntmps86
  go_wp2_with fail
  refine(HTR.out _).mono ?_
  rintro e w1 ⟨rfl,hb1⟩
  have HB1:=zh (blN (Below.refl _ _) hb1)
  clear hb1
  go_wp2_with fail
  refine(HATO.out _).mono ?_
  rintro e w2 ⟨rfl,hb2⟩
  have HB2:=zh (blN HB1.out hb2)
  clear hb2
  go_wp2_with fail
  go_region_held3 (fun _=>True) (trivial) (fail)
  all_goals
   go_wp2
   first | exact HY.out _ (blD HB2.out) | (go_ret2; exact HY.out _ (blD HB2.out))
 ·have f3:decide ((s.size:Int) > 1)=false:=decide_eq_false (by omega)
  have f4:¬(1:Int)<(s.size:Int):=by omega
  clear q2
  have HTR:=zh htr
  have HATO:=zh hato
  clear htr hato
  clear hno hyes hl hQ h0 hs ht hT hhd hc h48 hx2 h12 hl0 hn hat h1 hx
  go_enter Tryz.func86,Tryz.ntmps86
  go_wp2_with fail
  refine(HTR.out _).mono ?_
  rintro e w1 ⟨rfl,hb1⟩
  have HB1:=zh (blN (Below.refl _ _) hb1)
  clear hb1
  go_wp2_with fail
  refine(HATO.out _).mono ?_
  rintro e w2 ⟨rfl,hb2⟩
  have HB2:=zh (blN HB1.out hb2)
  clear hb2
  go_wp2_with fail
  go_region_held3 (fun _=>True) (trivial) (fail)
  all_goals
   go_wp2
   first | exact HY.out _ (blD HB2.out) | (go_ret2; exact HY.out _ (blD HB2.out))
def numC (n:Nat):List Value:=[.int .i64 (n:Int)]
def OwnN (base:Nat) (w:World) (v:Value) (l:List Nat):Prop:=OwnR 3 1 numC base w v l
def q24z (o:Option (List Nat)) (w:World) (e:Ending) (w':World):Prop:=
 ∃v,e = .returned (.tuple #[v,.bool o.isSome])∧OwnN w.heap.size w' v (o.getD [])∧Below w.heap.size w w'
theorem nums_no {o:Option (List Nat)} {w w':World} (h:o=none) (hb:Below w.heap.size w w'):q24z o w (.returned (.tuple #[.slice none 0 0,.bool false])) w':=by
 subst h
 exact⟨_,rfl,OwnR.void _ _,hb⟩
theorem nums_yes {o:Option (List Nat)} {l:List Nat} {v:Value} {w w':World} (h:o=some l) (hv:OwnN w.heap.size w' v l) (hb:Below w.heap.size w w'):q24z o w (.returned (.tuple #[v,.bool true])) w':=by
 subst h
 exact⟨_,rfl,hv,hb⟩
theorem OwnN.ints {base:Nat} {w:World} {v:Value} {l:List Nat} (h:OwnN base w v l):Ints w v (l.map (fun n:Nat=>(n:Int))):=by
 have:=OwnR.row (size:=1) (f:=numC) (fun _ _=>rfl) h
 unfold Ints
 rw[List.map_map]
 exact this
theorem dreads_any (w:World) (v:Value) (ws:List (List UInt8)) (hv:Texts w v (ws.map ofL)) (hs:∀x∈ws,x.length≤4000000000) (hl:ws.length≤4000000):Calls Tryz.prog 84 #[v] w (q24z (numsP ws) w):=by
 obtain⟨ad,n,cap,rfl,HN,hn2,HF⟩:=texts_facts hv
 have hN:n=ws.length:=by have:=HN.out; rw[List.length_map] at this; exact this
 have hno:=fun(h:numsP ws=none) (w':World) (hb:Below w.heap.size w w')=>nums_no h hb
 have hyes:=fun(l:List Nat) (h:numsP ws=some l) (w':World) (v:Value) (hv:OwnN w.heap.size w' v l) (hb:Below w.heap.size w w')=>nums_yes h hv hb
 have hread:=fun(W:World) (x:List UInt8) (hx:x∈ws)=>dread_any W (ofL x) (by rw[ofL_size]; exact hs x hx)
 simp only[ofL_data] at hread
 obtain⟨Q,hQ⟩:=zx (q24z (numsP ws) w)
 rw[hQ] at hno hyes ⊢
 have HNN:=zh hN
 have HL:=zh hl
 have HNO:=zh hno
 have HYES:=zh hyes
 have HREAD:=zh hread
 clear hno hyes hread
 clear hQ hv hs hl hN
 go_enter Tryz.func84,Tryz.ntmps84
 go_wp2_with fail
 go_loopw [4,7,8,11] (fun out _ _ i wr=>∃(k:Nat) (l:List Nat),k≤n∧i = .int .i64 k∧Hid (numsP (ws.take k)=some l)∧Hid (l.length=k)∧Hid (OwnN w.heap.size wr out l)∧Hid (Below w.heap.size w wr)) (fun _ _ _ i _=>n-(intOf i).toNat)
 case atStart=>exact⟨0,[],Nat.zero_le _,rfl,rfl,rfl,OwnR.void _ _,Below.refl _ _⟩
 case round=>
  obtain⟨k,l,hk,rfl,HP,HLn,HO,HB⟩:=hrel
  by_cases hlt:k<n
  ·obtain⟨b,o,x,rfl,hb,hx,hc⟩:=HF.out k hlt
   rw[List.getElem?_map] at hx
   obtain⟨y,hy,rfl⟩:=Option.map_eq_some_iff.1 hx
   have c0:=(HB.out.cell (p:=⟨b,o+k,none⟩) hb).trans hc
   have hmem:=List.mem_of_getElem? hy
   have hrd:=fun W:World=>HREAD.out W y hmem
   have htk:=take_step hy
   obtain⟨X,hX⟩:=zx (ofL y)
   rw[hX] at c0 hrd
   cases hnum:numP y with
   | none=>
     have HX:=zh (HNO.out (q46z hmem hnum))
     rw[hnum] at hrd
     unfold q53z at hrd
     have HRD:=zh hrd
     clear hrd
     clear hx hc hb hy hmem hX hnum htk
     go_wp2_with fail
     refine(HRD.out _).mono ?_
     rintro e w1 ⟨rfl,hb1⟩
     have HB1:=zh (blN HB.out hb1)
     clear hb1
     go_wp2
     first | exact HX.out _ HB1.out | (go_ret2; exact HX.out _ HB1.out)
   | some m=>
     have HS:Hid (numsP (ws.take (k+1))=some (l ++ [m])):=by
      rw[htk]
      exact q38z HP.out hnum
     rw[hnum] at hrd
     unfold q53z at hrd
     have HRD:=zh hrd
     clear hrd
     clear hx hc hb hy hmem hX hnum htk
     go_wp2_with fail
     refine(HRD.out _).mono ?_
     rintro e w1 ⟨rfl,hb1⟩
     have HB1:=zh (blN HB.out hb1)
     have HO1:Hid (OwnN w.heap.size w1 _ l):=OwnR.below HO.out hb1
     clear hb1
     have hll:l.length≤4000000:=by have:=HLn.out; have:=HNN.out; have:=HL.out; omega
     obtain⟨ia2,ib2,ic2,id2,ie2⟩:=info_parts infoInt
     have hrow2:=HO1.out
     unfold OwnR at hrow2
     have HRow2:=zh hrow2
     clear hrow2
     have HIb2:=zh ib2
     have HIc2:=zh ic2
     have HId2:=zh id2
     have HIe2:=zh ie2
     clear ib2 ic2 id2 ie2
     go_wp2_with (at_builtin; refine wpList_append_lies _ rfl _ _ _ rfl w.heap.size 3 ia2 _ 1 8 Tryz.underlying79 HIb2.out HIc2.out HId2.out HIe2.out rfl (by decide) _ _ _ rfl (HRow2.out.alloc _) ⟨w1.heap.size,0,none⟩ 1 1 [.int .i64 (m:Int)] rfl rfl (World.news_of_block (cs:=#[.int .i64 (m:Int)]) (t:=3) (fr:=(0,0)) (heapNew w1 _)) (by simp[Value.oneCell']) (by omega) ?c1 ?c2 ?c3 (w1.heap.size+1) (by simp) ?_)
     case c1=>unfold maxLen; omega
     case c2=>omega
     case c3=>have:=HB1.out.size; simp; omega
     intro g2 cap2 w2 hown2 hgrow2 hat2 hlt2
     have HO2:=zh (OwnR.snoc (f:=numC) (x:=m) hown2 rfl rfl)
     have HB2:Hid (Below w.heap.size _ w2):=Below.grown (bl1 HB1.out _) hgrow2 (bl1 HB1.out _).size (fun q hq=>(HRow2.out.lt q hq).1)
     clear hown2 hgrow2 hat2 hlt2 HRow2
     have HLn2:Hid ((l ++ [m]).length=k+1):=by show _=_; rw[List.length_append,HLn.out]; rfl
     clear c0
     go_wp2
     go_roundw
     case rel=>exact⟨k+1,l ++ [m],by omega,by go_num,HS,HLn2,HO2,HB2⟩
     case measure=>simp[intOf]; omega
  ·have htk:ws.take k=ws:=List.take_of_length_le (by have:=HNN.out; omega)
   have hp:=HP.out
   rw[htk] at hp
   have HX:=zh (HYES.out l hp _ _ HO.out HB.out)
   obtain⟨oad,ocap,rfl⟩:=HO.out.form
   clear hp htk
   go_wp2
   first | exact HX.out | (go_ret2; exact HX.out)
end
