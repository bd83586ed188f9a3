import Derived.Test.YtmljdnlmpiklgaaGreatDoorSuperA
import Derived.Shelf.Strings.SlTrimAscii
import Derived.Deep.AppendLies
import Derived.Test.YtmljdnlmpiklgaaGreatDoorNamesA
set_option maxRecDepth 20000
set_option maxHeartbeats 8000000
namespace Go.Proofs.YtmljdnlmpiklgaaGreatDoor
open Go Go.RowKit Txt Sp
def manyC (n p:Int):Int:=if n<1∨64<n∨p<0∨n≤p then 1 else 0
theorem drop_nil (p:UInt8→Bool):∀l:List UInt8,l.dropWhile p=[]↔l.all p=true
 | []=>by simp
 | a :: r=>by
   have ih:=drop_nil p r
   rw[List.dropWhile_cons,List.all_cons]
   by_cases h:p a=true
   ·rw[if_pos h,h,Bool.true_and]
    exact ih
   ·rw[if_neg h,Bool.not_eq_true _ |>.mp h]
    simp
theorem all_drop (p:UInt8→Bool):∀l:List UInt8,(l.dropWhile p).all p=l.all p
 | []=>rfl
 | a :: r=>by
   rw[List.dropWhile_cons,List.all_cons]
   by_cases h:p a=true
   ·rw[if_pos h,h,Bool.true_and,all_drop p r]
   ·rw[if_neg h,List.all_cons]
theorem trim_nil (l cs:List UInt8):(Lib.trimS l cs).isEmpty=l.all (fun b=>cs.contains b):=by
 rw[Bool.eq_iff_iff,List.isEmpty_iff]
 unfold Lib.trimS Lib.trimLeftS Lib.trimRightS
 rw[drop_nil,List.all_reverse,all_drop,List.all_reverse]
theorem empty_text (l:List UInt8):(ofL l).toList.isEmpty=l.isEmpty:=by
 rw[Lib.toList_data,ofL_data]
theorem eq_empty (T:ByteArray):(T.toList == (ByteArray.mk #[]).toList)=T.toList.isEmpty:=by
 have h:(ByteArray.mk #[]).toList=[]:=by rw[Lib.toList_data]
 rw[h]
 cases T.toList <;> rfl
section
theorem mmany_any (w:World) (n p:Int):Calls Tryz.prog 75 #[.int .i64 n,.int .i64 p] w fun e w'=>e = .returned (.int .i64 (manyC n p))∧w' = w:=by
 by_cases h1:n<1
 ·have HNo:Hid (manyC n p=1):=if_pos (Or.inl h1)
  rw[HNo.out]
  go_enter Tryz.func75,Tryz.ntmps75
  go_wp2
  go_ret
  exact⟨rfl,rfl⟩
 by_cases h2:64<n
 ·have HNo:Hid (manyC n p=1):=if_pos (Or.inr (Or.inl h2))
  rw[HNo.out]
  go_enter Tryz.func75,Tryz.ntmps75
  go_wp2
  go_ret
  exact⟨rfl,rfl⟩
 by_cases h3:p<0
 ·have HNo:Hid (manyC n p=1):=if_pos (Or.inr (Or.inr (Or.inl h3)))
  rw[HNo.out]
  go_enter Tryz.func75,Tryz.ntmps75
  go_wp2
  go_ret
  exact⟨rfl,rfl⟩
 by_cases h4:n≤p
 ·have HNo:Hid (manyC n p=1):=if_pos (Or.inr (Or.inr (Or.inr h4)))
  rw[HNo.out]
  go_enter Tryz.func75,Tryz.ntmps75
  go_wp2
  go_ret
  exact⟨rfl,rfl⟩
 ·have HNo:Hid (manyC n p=0):=if_neg (by omega)
  rw[HNo.out]
  go_enter Tryz.func75,Tryz.ntmps75
  go_wp2
  go_ret
  exact⟨rfl,rfl⟩
theorem mcheck_any (w:World) (s:ByteArray) (n:Int):Calls Tryz.prog 178 #[.string s,.int .i64 n] w fun e w'=>e = .returned (.int .i64 (mapC s n))∧Below w.heap.size w w':=by
 have hm:=fun W:World=>mmany_any W n 0
 by_cases hn:n<1∨64<n
 ·have hc:mapC s n=1:=if_pos hn
  rw[show manyC n 0=1 from if_pos (by omega)] at hm
  rw[hc]
  have HM:=zh hm
  clear hm hn hc
  go_enter Tryz.func178,Tryz.ntmps178
  go_wp2_with fail
  refine(HM.out _).mono ?_
  rintro e w1 ⟨rfl,rfl⟩
  go_wp2
  go_ret
  exact⟨rfl,Below.refl _ _⟩
 rw[show manyC n 0=0 from if_neg (by omega)] at hm
 have HM:=zh hm
 have hc0:mapC s n=if s.size=64∧mapP s.data.toList n.toNat=true then 0 else 3:=if_neg hn
 rw[hc0]
 by_cases hs:s.size=64
 rotate_left
 ·rw[if_neg (fun h=>hs h.1)]
  have f:((s.size:Int) == 64)=false:=beq_eq_false_iff_ne.2 (by omega)
  clear hm hn hc0
  go_enter Tryz.func178,Tryz.ntmps178
  go_wp2_with fail
  refine(HM.out _).mono ?_
  rintro e w1 ⟨rfl,rfl⟩
  go_wp2
  go_ret
  exact⟨rfl,Below.refl _ _⟩
 obtain⟨k,rfl⟩:∃k:Nat,n=(k:Int):=⟨n.toNat,by omega⟩
 have hk1:1≤k:=by omega
 have hk2:k≤64:=by omega
 have ht1:=fun W:World=>Any.strings_Trim_laid Tryz.lays160 (by kernel_rfl) (s.extract 0 k) ⟨#[0,1]⟩ W (by simp; omega) (by decide) (ascii_of_all (by decide))
 have ht2:=fun W:World=>Any.strings_Trim_laid Tryz.lays160 (by kernel_rfl) (s.extract k s.size) ⟨#[0]⟩ W (by simp; omega) (by decide) (ascii_of_all (by decide))
 obtain⟨T1,hT1⟩:=zx ((⟨(Lib.trimS (s.extract 0 k).data.toList (⟨#[0,1]⟩:ByteArray).data.toList).toArray⟩:ByteArray))
 obtain⟨T2,hT2⟩:=zx ((⟨(Lib.trimS (s.extract k s.size).data.toList (⟨#[0]⟩:ByteArray).data.toList).toArray⟩:ByteArray))
 have hE1:T1.toList.isEmpty=(s.data.toList.take k).all (fun b=>b == 0||b == 1):=by
  rw[←hT1]
  show(ofL (Lib.trimS (s.extract 0 k).data.toList [0,1])).toList.isEmpty=_
  rw[empty_text,trim_nil,Lib.extract_data]
  simp
  rfl
 have hE2:T2.toList.isEmpty=(s.data.toList.drop k).all (fun b=>b == 0):=by
  rw[←hT2]
  show(ofL (Lib.trimS (s.extract k s.size).data.toList [0])).toList.isEmpty=_
  rw[empty_text,trim_nil,Lib.extract_to_end]
  simp
  rfl
 rw[hT1] at ht1
 rw[hT2] at ht2
 have H1:=zh ht1
 have H2:=zh ht2
 have hP:mapP s.data.toList ((k:Int).toNat)=((s.data.toList.take k).all (fun b=>b == 0||b == 1) && (s.data.toList.drop k).all (fun b=>b == 0)):=rfl
 rw[hP]
 rw[hs] at H2
 obtain⟨b1,hb1⟩:∃b,(s.data.toList.take k).all (fun b=>b == 0||b == 1)=b:=⟨_,rfl⟩
 obtain⟨b2,hb2⟩:∃b,(s.data.toList.drop k).all (fun b=>b == 0)=b:=⟨_,rfl⟩
 rw[hb1] at hE1 ⊢
 rw[hb2] at hE2 ⊢
 have q1:(T1.toList == (ByteArray.mk #[]).toList)=b1:=by rw[←hE1]; exact eq_empty T1
 have q2:(T2.toList == (ByteArray.mk #[]).toList)=b2:=by rw[←hE2]; exact eq_empty T2
 clear hm hn hc0 ht1 ht2 hT1 hT2 hP hb1 hb2
 cases b1 with
 | false=>
   have r1:¬T1.toList=[]:=fun h=>by rw[h] at hE1; cases hE1
   have r2:(!T1.toList.isEmpty)=true:=by rw[hE1]; rfl
   rw[if_neg (by simp)]
   clear q2 hE2
   go_enter Tryz.func178,Tryz.ntmps178
   go_wp2_with fail
   refine(HM.out _).mono ?_
   rintro e w1 ⟨rfl,rfl⟩
   go_wp2_with fail
   refine(H1.out _).mono ?_
   rintro e w2 ⟨rfl,hb2⟩
   have HB2:=zh hb2
   clear hb2
   go_wp2
   go_ret
   exact⟨rfl,HB2.out⟩
 | true=>
   have r1:T1.toList=[]:=List.isEmpty_iff.1 hE1
   cases b2 with
   | false=>
     have r2:¬T2.toList=[]:=fun h=>by rw[h] at hE2; cases hE2
     have r3:(!T2.toList.isEmpty)=true:=by rw[hE2]; rfl
     rw[if_neg (by simp)]
     go_enter Tryz.func178,Tryz.ntmps178
     go_wp2_with fail
     refine(HM.out _).mono ?_
     rintro e w1 ⟨rfl,rfl⟩
     go_wp2_with fail
     refine(H1.out _).mono ?_
     rintro e w2 ⟨rfl,hb2⟩
     have HB2:=zh hb2
     clear hb2
     go_wp2_with fail
     refine(H2.out _).mono ?_
     rintro e w3 ⟨rfl,hb3⟩
     have HB3:=zh (blN HB2.out hb3)
     clear hb3
     go_wp2
     go_ret
     exact⟨rfl,HB3.out⟩
   | true=>
     have r2:T2.toList=[]:=List.isEmpty_iff.1 hE2
     rw[if_pos ⟨hs,rfl⟩]
     go_enter Tryz.func178,Tryz.ntmps178
     go_wp2_with fail
     refine(HM.out _).mono ?_
     rintro e w1 ⟨rfl,rfl⟩
     go_wp2_with fail
     refine(H1.out _).mono ?_
     rintro e w2 ⟨rfl,hb2⟩
     have HB2:=zh hb2
     clear hb2
     go_wp2_with fail
     refine(H2.out _).mono ?_
     rintro e w3 ⟨rfl,hb3⟩
     have HB3:=zh (blN HB2.out hb3)
     clear hb3
     go_wp2
     go_ret
     exact⟨rfl,HB3.out⟩
end
def OwnInts (base:Nat) (w:World) (v:Value) (l:List Nat):Prop:=w.ownsRow base 3 1 v l.length (l.map (fun n:Nat=>Value.int .i64 (n:Int)))
theorem ownInts_nil (base:Nat) (w:World):OwnInts base w (.slice none 0 0) []:=World.ownsRow_nil _ _ _ _
theorem placesL_snoc (l:List UInt8) (k:Nat):placesL l (k+1)=placesL l k ++ if l.getD k 0 == 1 then [k] else []:=by
 unfold placesL
 rw[List.range_succ,List.filter_append,List.filter_cons,List.filter_nil]
theorem placesL_length (l:List UInt8) (k:Nat):(placesL l k).length≤k:=by
 unfold placesL
 have:=List.length_filter_le (fun i=>l.getD i 0 == 1) (List.range k)
 rw[List.length_range] at this
 exact this
theorem infoInt:(Tryz.prog.info? 3).map (fun i=>(i.zero,i.size,i.bytes))=some (some (.int .i64 0),1,8):=by kernel_rfl
def PlacesPost (s:ByteArray) (n:Int) (w:World) (e:Ending) (w':World):Prop:=
 ∃v,e = .returned (.tuple #[v,.int .i64 (mapC s n)])∧OwnInts w.heap.size w' v (if mapC s n=0 then placesL s.data.toList n.toNat else [])∧Below w.heap.size w w'
theorem mapC_zero {s:ByteArray} {n:Int} (h:mapC s n=0):1≤n∧n≤64∧s.size=64:=by
 unfold mapC at h
 split at h
 ·cases h
 ·split at h
  ·rename_i h1 h2
   exact⟨by omega,by omega,h2.1⟩
  ·cases h
section
theorem mplaces_any (w:World) (s:ByteArray) (n:Int):Calls Tryz.prog 137 #[.string s,.int .i64 n] w (PlacesPost s n w):=by
 obtain⟨i0,hi,hz0,hz1,hz2⟩:=info_parts infoInt
 have hc:=fun W:World=>mcheck_any W s n
 have hz:=mapC_zero (s:=s) (n:=n)
 obtain⟨c,hcc⟩:=zx (mapC s n)
 rw[hcc] at hc hz
 have HC:=zh hc
 have HCc:=zh hcc
 have HZ:=zh hz
 clear hc hcc hz
 by_cases h0:c=0
 rotate_left
 ·have f:(c == 0)=false:=beq_eq_false_iff_ne.2 h0
  have f2:(c != 0)=true:=by simp[h0]
  have HP:Hid (∀w',Below w.heap.size w w'→PlacesPost s n w (.returned (.tuple #[.slice none 0 0,.int .i64 c])) w'):=fun w' hb=>by
   refine⟨_,by rw[HCc.out],?_,hb⟩
   rw[HCc.out,if_neg h0]
   exact ownInts_nil _ _
  clear h0
  go_enter Tryz.func137,Tryz.ntmps137
  go_wp2_with fail
  refine(HC.out _).mono ?_
  rintro e w1 ⟨rfl,hb⟩
  have HB:=zh hb
  clear hb
  go_wp2
  go_ret2
  exact HP.out _ HB.out
 obtain⟨h1,h2,h3⟩:=HZ.out h0
 obtain⟨m,rfl⟩:∃k:Nat,n=(k:Int):=⟨n.toNat,by omega⟩
 subst h0
 have HSz:=zh h3
 clear h3 HZ
 go_enter Tryz.func137,Tryz.ntmps137
 go_wp2_with fail
 refine(HC.out _).mono ?_
 rintro e w1 ⟨rfl,hb⟩
 have HB:=zh hb
 clear hb
 go_wp2
 go_loopw [7,16] (fun out i wr=>∃(k:Nat),k≤m∧i = .int .i64 k∧Hid (OwnInts w.heap.size wr out (placesL s.data.toList k))∧Hid (Below w.heap.size w wr)) (fun _ i _=>m-(intOf i).toNat)
 case atStart=>exact⟨0,Nat.zero_le _,rfl,zh (ownInts_nil _ _),HB⟩
 case round=>
  obtain⟨k,hk,rfl,HO,HB2⟩:=hrel
  clear HB
  by_cases hlt:k<m
  ·have hks:k<s.size:=by rw[HSz.out]; omega
   have hx:∀W:World,(Instr.index 9 (.string s) (.int .i64 (k:Int))).run Tryz.prog W = .ok (.int .u8 (s[k].toNat:Int)) W:=fun W=>text_lit W hks
   have hsn:=placesL_snoc s.data.toList k
   have hgd:s.data.toList.getD k 0=s[k]:=by
    have hl:k<s.data.toList.length:=by rw[Array.length_toList]; exact hks
    rw[List.getD_eq_getElem?_getD,List.getElem?_eq_getElem hl]
    rfl
   rw[hgd] at hsn
   have hpl:=placesL_length s.data.toList k
   obtain⟨x,hxx⟩:=zx ((s[k].toNat:Int))
   rw[hxx] at hx
   by_cases h1:x=1
   ·have e1:(s[k] == 1)=true:=beq_iff_eq.2 (UInt8.toNat_inj.1 (by
     have h:s[k].toNat=1:=by omega
     rw[h]
     rfl))
    rw[e1,if_pos rfl] at hsn
    have HSn:=zh hsn
    have f1:(x == 1)=true:=beq_iff_eq.2 h1
    obtain⟨j,hj⟩:=zx ((placesL s.data.toList k).length)
    have hown:=HO.out
    unfold OwnInts at hown
    rw[hj] at hown hpl
    have HOwn:=zh hown
    have HJ:=zh hj
    subst h1
    clear hsn hgd hxx e1 hks hown hj HO
    go_wp2_with (at_builtin; refine wpList_append_lies _ rfl _ _ _ rfl w.heap.size 3 i0 (.int .i64 0) 1 8 Tryz.underlying79 hi hz0 hz1 hz2 rfl (by decide) _ _ _ rfl (HOwn.out.alloc _) ⟨wr.heap.size,0,none⟩ 1 1 [.int .i64 (k:Int)] rfl rfl (World.news_of_block (cs:=#[.int .i64 (k:Int)]) (t:=3) (fr:=(0,0)) (heapNew wr _)) (by simp[Value.oneCell']) (by omega) ?c1 ?c2 ?c3 (wr.heap.size+1) (by simp) ?_)
    case c1=>unfold maxLen; omega
    case c2=>omega
    case c3=>have:=HB2.out.size; simp; omega
    intro g4 cap4 w4 hown4 hgrow4 hat4 hlt4
    have HO4:Hid (OwnInts w.heap.size w4 (.slice (some ⟨g4,0,none⟩) (j+1) cap4) (placesL s.data.toList (k+1))):=by
     show OwnInts _ _ _ _
     rw[HSn.out]
     unfold OwnInts
     rw[List.length_append,HJ.out,List.map_append]
     exact hown4
    have HB4:Hid (Below w.heap.size w w4):=Below.grown (bl1 HB2.out _) hgrow4 (bl1 HB2.out _).size (fun q hq=>(HOwn.out.lt q hq).1)
    clear hown4 hgrow4 hat4 hlt4
    go_wp2
    go_roundw
    case rel=>exact⟨k+1,by omega,by go_num,HO4,HB4⟩
    case measure=>simp[intOf]; omega
   ·have e1:(s[k] == 1)=false:=beq_eq_false_iff_ne.2 (fun h=>h1 (by rw[←hxx,h]; rfl))
    rw[e1,if_neg (by simp),List.append_nil] at hsn
    have HSn:=zh hsn
    have f1:(x == 1)=false:=beq_eq_false_iff_ne.2 h1
    clear hsn hgd hxx e1 hks h1 hpl
    go_wp2
    go_roundw
    case rel=>exact⟨k+1,by omega,by go_num,by show OwnInts _ _ _ _; rw[HSn.out]; exact HO.out,HB2⟩
    case measure=>simp[intOf]; omega
  ·have hkm:k=m:=by omega
   have HP:Hid (PlacesPost s (m:Int) w (.returned (.tuple #[u7,.int .i64 0])) wr):=by
    refine⟨_,by rw[HCc.out],?_,HB2.out⟩
    rw[HCc.out,if_pos rfl]
    show OwnInts _ _ _ (placesL _ m)
    rw[←hkm]
    exact HO.out
   clear hkm
   go_wp2
   go_ret2
   exact HP.out
end
def eV (x:Sp.Entry):Value:=.agg #[.int .i64 x.inode,.string x.name]
theorem ret_b {a b:Bool} (h:a=b):Ending.returned (.bool a) = .returned (.bool b):=by rw[h]
section
theorem emay_any (w:World) (x:Sp.Entry) (hm:MaxOk w) (hs:x.name.size≤maxLen):Calls Tryz.prog 133 #[eV x] w fun e w'=>e = .returned (.bool (decide x.may))∧Below w.heap.size w w':=by
 obtain⟨n,s⟩:=x
 show Calls Tryz.prog 133 #[.agg #[.int .i64 n,.string s]] w _
 have hname:∀W:World,MaxOk W→Calls Tryz.prog 176 #[.string s] W fun e w'=>e = .returned (.bool (nameB s))∧W=w':=fun W h=>name_any s W h hs
 obtain⟨b,hb⟩:=zx (nameB s)
 rw[hb] at hname
 have HN:=zh hname
 have HM:=zh hm
 by_cases h0:n=0
 ·have HR:Hid ((s.toList.isEmpty)=decide (Sp.Entry.may ⟨n,s⟩)):=by
   refine zh ?_
   rw[Bool.eq_iff_iff,decide_eq_true_iff,List.isEmpty_iff,Lib.toList_data]
   unfold Sp.Entry.may
   show _↔((n=0∧s.size=0)∨_)
   constructor
   ·intro h; exact Or.inl ⟨h0,by rw[Lib.size_eq,h]; rfl⟩
   ·rintro(⟨_,h⟩ | ⟨h,_⟩)
    ·exact List.length_eq_zero_iff.1 (by rw[←Lib.size_eq]; exact h)
    ·change 1≤n at h
     omega
  obtain⟨r,hr⟩:=zx (decide (Sp.Entry.may ⟨n,s⟩))
  rw[hr] at HR ⊢
  clear hname hm hb hr
  subst h0
  go_enter Tryz.func133,Tryz.ntmps133
  go_wp2
  go_ret
  exact⟨ret_b (by first | exact HR.out | (rw[←HR.out]; exact eq_empty s)),by first | exact Below.refl _ _ | exact bl2 _⟩
 ·have hR:decide (Sp.Entry.may ⟨n,s⟩)=(decide (1≤n) && (decide (n≤65535) && b)):=by
   rw[Bool.eq_iff_iff]
   unfold Sp.Entry.may
   simp[h0,hb]
  rw[hR]
  have hMW:∀o,MaxOk (w.alloc o):=fun o=>hm.below (bl2 o)
  have HMW:=zh hMW
  clear hname hm hb hR hMW
  by_cases h1:n<1
  ·have f:decide (1≤n)=false:=decide_eq_false (by omega)
   rw[f]
   have f2:¬0<n:=by omega
   clear f
   go_enter Tryz.func133,Tryz.ntmps133
   go_wp2
   go_ret
   exact⟨rfl,by first | exact Below.refl _ _ | exact bl2 _⟩
  by_cases h2:65535<n
  ·have f:decide (n≤65535)=false:=decide_eq_false (by omega)
   rw[f]
   have f2:0<n:=by omega
   have f3:¬n≤65535:=by omega
   have HF:Hid ((decide (1≤n) && (false && b))=false):=zh (by simp)
   rw[HF.out]
   clear f HF
   go_enter Tryz.func133,Tryz.ntmps133
   go_wp2
   go_ret
   exact⟨rfl,by first | exact Below.refl _ _ | exact bl2 _⟩
  ·have f2:0<n:=by omega
   have f3:n≤65535:=by omega
   rw[decide_eq_true (show 1≤n by omega),decide_eq_true f3]
   go_enter Tryz.func133,Tryz.ntmps133
   go_wp2_with fail
   refine(HN.out _ (by first | exact HM.out | exact HMW.out _)).mono ?_
   rintro e w1 ⟨rfl,rfl⟩
   go_wp2
   go_ret
   exact⟨rfl,by first | exact Below.refl _ _ | exact bl2 _⟩
end
theorem ofL_size (l:List UInt8):(ofL l).size=l.length:=by
 show(List.toArray l).size=_
 rw[List.size_toArray]
def RowAt (w:World) (v:Value) (k:Nat) (vs:List (List Value)):Prop:=
 ∃(ad:Option Addr) (cap:Nat),v = .slice ad vs.length cap∧vs.length≤cap∧cap≤maxLen ∧
  (0<vs.length→∃b off,ad=some ⟨b,off,none⟩∧b<w.heap.size∧∀(j:Nat) (x:List Value),vs[j]? = some x→∀(i:Nat) (y:Value),x[i]? = some y→w.cell? ⟨b,off+j*k+i,none⟩=some y)
theorem RowAt.below {w w':World} {v:Value} {k:Nat} {l:List (List Value)} (h:RowAt w v k l) (hb:Below w.heap.size w w'):RowAt w' v k l:=by
 obtain⟨ad,cap,hv,h1,h2,h3⟩:=h
 refine⟨ad,cap,hv,h1,h2,fun hp=>?_⟩
 obtain⟨b,off,e,hlt,hc⟩:=h3 hp
 have:=hb.size
 exact⟨b,off,e,by omega,fun j x hx i y hy=>(hb.cell (p:=⟨b,off+j*k+i,none⟩) hlt).trans (hc j x hx i y hy)⟩
theorem RowAt.void (w:World) (k:Nat):RowAt w (.slice Option.none 0 0) k []:=⟨Option.none,0,rfl,Nat.le_refl _,Nat.zero_le _,fun h=>absurd h (by simp)⟩
theorem flat_get {k:Nat}:∀{vs:List (List Value)},(∀x∈vs,x.length=k)→∀{j:Nat} {x:List Value},vs[j]? = some x→∀{i:Nat} {y:Value},x[i]? = some y→vs.flatten[j*k+i]? = some y
 | [],_,_,_,hx,_,_,_=>by cases hx
 | z :: r,hl,0,x,hx,i,y,hy=>by
   have e:z=x:=by simpa using hx
   subst e
   rw[List.flatten_cons,Nat.zero_mul,Nat.zero_add,List.getElem?_append_left (List.getElem?_eq_some_iff.1 hy).1]
   exact hy
 | z :: r,hl,j+1,x,hx,i,y,hy=>by
   have hz:z.length=k:=hl z (List.mem_cons_self ..)
   have hr:r[j]? = some x:=by simpa using hx
   rw[List.flatten_cons,List.getElem?_append_right (by rw[hz,Nat.succ_mul]; omega),hz,show(j+1)*k+i-k=j*k+i by rw[Nat.succ_mul]; omega]
   exact flat_get (fun x hx=>hl x (List.mem_cons_of_mem _ hx)) hr hy
theorem RowAt.own {w:World} {base k:Nat} {e:TypeId} {v:Value} {vs:List (List Value)} (hk:∀x∈vs,x.length=k) (h:w.ownsRow base e k v vs.length vs.flatten):RowAt w v k vs:=by
 rcases h.2 with ⟨rfl,h0⟩ | ⟨g,cap,cur,rfl,hb,hh,hle,hm,hsz,hcur⟩
 ·rw[List.length_eq_zero_iff.1 h0]
  exact RowAt.void w k
 ·refine⟨_,cap,rfl,hle,hm,fun hp=>⟨g,0,rfl,(Array.getElem?_eq_some_iff.1 hh).1,fun j x hx i y hy=>?_⟩⟩
  have hj:=(List.getElem?_eq_some_iff.1 hx).1
  have hi:=(List.getElem?_eq_some_iff.1 hy).1
  have hlt:j*k+i<vs.length*k:=by
   have h1:i<k:=by rw[hk x (List.mem_of_getElem? hx)] at hi; exact hi
   have h2:(j+1)*k≤vs.length*k:=Nat.mul_le_mul_right _ hj
   rw[Nat.succ_mul] at h2
   omega
  rw[Nat.zero_add,h.cellAt (j*k+i) hlt]
  exact flat_get hk hx hy
theorem RowAt.block {w:World} {b k cap:Nat} {cs:Array Value} {t:TypeId} {fr:Nat×Nat} {vs:List (List Value)} (hk:∀x∈vs,x.length=k) (h:w.heap[b]? = some (.cells cs t fr)) (hc:cs.toList.take (vs.length*k)=vs.flatten) (h1:vs.length≤cap) (h2:cap≤maxLen):RowAt w (.slice (some ⟨b,0,none⟩) vs.length cap) k vs:=by
 refine⟨_,cap,rfl,h1,h2,fun hp=>⟨b,0,rfl,(Array.getElem?_eq_some_iff.1 h).1,fun j x hx i y hy=>?_⟩⟩
 rw[Nat.zero_add]
 refine cellOf h ?_
 have hg:=flat_get hk hx hy
 rw[←hc,List.getElem?_take] at hg
 split at hg
 ·rw[←Array.getElem?_toList]; exact hg
 ·cases hg
def Ints (w:World) (v:Value) (l:List Int):Prop:=RowAt w v 1 (l.map fun n=>[Value.int .i64 n])
def patC (p:Int×ByteArray):List Value:=[.int .i64 p.1,.string p.2]
def Pats (w:World) (v:Value) (l:List (Int×ByteArray)):Prop:=RowAt w v 2 (l.map patC)
def leaC (p:Int×Int):List Value:=[.int .i64 p.1,.int .i64 p.2]
def Leases (w:World) (v:Value) (l:List (Int×Int)):Prop:=RowAt w v 2 (l.map leaC)
theorem RowAt.facts {α:Type} {f:α→List Value} {w:World} {v:Value} {k:Nat} {l:List α} (h:RowAt w v k (l.map f)):∃(ad:Option Addr) (n cap:Nat),v = .slice ad n cap∧Hid (n=l.length)∧n≤9223372036854775807 ∧
 Hid (∀j,j<n→∃b off x,ad=some ⟨b,off,none⟩∧b<w.heap.size∧l[j]? = some x∧∀(i:Nat) (y:Value),(f x)[i]? = some y→w.cell? ⟨b,off+j*k+i,none⟩=some y):=by
 obtain⟨ad,cap,e,h1,h2,h3⟩:=h
 rw[List.length_map] at e h1 h3
 refine⟨ad,l.length,cap,e,rfl,by unfold maxLen at h2; omega,fun j hj=>?_⟩
 obtain⟨b,off,e2,hb,hc⟩:=h3 (by omega)
 exact⟨b,off,l[j],e2,hb,by simp,fun i y hy=>hc j _ (by rw[List.getElem?_map,List.getElem?_eq_getElem hj]; rfl) i y hy⟩
def bytesV (l:List UInt8):List Value:=l.map (fun b=>Value.int .u8 (b.toNat:Int))
def bytesO (l:List UInt8) (e:TypeId) (m:Nat×Nat):Obj:=.cells (bytesV l).toArray e m
def markOk (n:Nat) (m:Nat×Nat):Prop:=m=(0,0)∨m=(n,n+1)
section
variable {P:Program}
theorem bytesV_length (l:List UInt8):(bytesV l).length=l.length:=List.length_map _
theorem bytesV_one {l:List UInt8}:∀v∈bytesV l,v.oneCell' = true:=by
 intro v hv
 obtain⟨b,_,rfl⟩:=List.mem_map.1 hv
 rfl
theorem markOk_free {n k:Nat} {m:Nat×Nat} (h:markOk n m) (hk:k<n):(decide (m.1≤k) && decide (k<m.2))=false:=by
 rcases h with rfl | rfl
 ·simp
 ·rw[Bool.and_eq_false_iff]
  exact Or.inl (decide_eq_false (by simp; omega))
theorem run_storeCells_mark (g o:Nat) (t:TypeId) (m:Nat×Nat):∀(vs:List Value) (i:Nat) (cur:Array Value) (w:World),w.heap[g]? = some (.cells cur t m)→markOk cur.size m→o+i+vs.length≤cur.size→(∀v∈vs,v.oneCell' = true) →
 (storeCells ⟨g,o,none⟩ vs i).run P w = .ok () (w.setRow g (cur.toList.take (o+i) ++ vs ++ cur.toList.drop (o+i+vs.length)).toArray)
 | [],i,cur,w,hg,_,_,_=>by
   simp only[storeCells,List.append_nil,List.length_nil,Nat.add_zero,List.take_append_drop,Array.toArray_toList]
   rw[setRow_self w g cur t m hg]
   rfl
 | v :: rest,i,cur,w,hg,hm,hl,h1=>by
   have hi:o+i<cur.size:=by simp at hl; omega
   have hadd:(⟨g,o,none⟩:Addr).add i=⟨g,o+i,none⟩:=by unfold Addr.add; split <;> simp_all
   have hcell:w.cell? ⟨g,o+i,none⟩=some cur[o+i]:=by simp[World.cell?,hg,hi]
   have hfro:w.frozen? ⟨g,o+i,none⟩=false:=by
    obtain⟨lo,hi'⟩:=m
    have:=markOk_free hm hi
    simpa [World.frozen?,hg] using this
   have hst:(store ((⟨g,o,none⟩:Addr).add i) v).run P w = .ok () (w.setRow g (cur.setIfInBounds (o+i) v)):=by
    rw[hadd,run_store P w _ v _ (h1 v (by simp)),hcell]
    simp[hfro,setCell_eq_setRow w g (o+i) cur t m v hg]
   have ih:=run_storeCells_mark g o t m rest (i+1) (cur.setIfInBounds (o+i) v) (w.setRow g (cur.setIfInBounds (o+i) v)) (setRow_heap w g cur _ t _ hg) (by simpa using hm) (by simp at hl ⊢; omega) (fun x hx=>h1 x (by simp[hx]))
   simp only[storeCells,Sem.run_bind,hst,Result.andThen_ok,ih,setRow_setRow]
   congr 3
   have e:=list_seg_step cur.toList (o+i) v rest (by simp at hl ⊢; omega)
   simpa [Array.toList_setIfInBounds,Nat.add_assoc] using e
theorem run_make_bytes (w:World) {t e:TypeId} {i:TypeInfo} (ht:P.underlying t=some (.slice e)) (hi:P.info? e=some i) (hz:i.zero=some (.int .u8 0)) (h1:i.size=1) (hb:i.bytes=1) (n:Nat) (hn:n≤4000000000) :
 (Instr.makeSlice t (.int .i64 (n:Int)) (.int .i64 (n:Int))).run P w = .ok (.slice (some ⟨w.heap.size,0,none⟩) n n) (w.alloc (bytesO (zeros n) e (0,0))):=by
 have h:=run_make (P:=P) w t e i _ ht hi hz .i64 .i64 (n:Int) (n:Int) (by omega) (Int.le_refl _) (by rw[hb]; omega) (by omega)
 rw[h,h1,Int.toNat_natCast,Nat.mul_one]
 have:madeCells (Value.int .u8 0).cells n=(bytesV (zeros n)).toArray:=by
  apply Array.toList_inj.1
  show(madeCells #[Value.int .u8 0] n).toList=_
  rw[toList_madeCells_one]
  simp[bytesV,zeros]
 rw[this]
 rfl
theorem run_text_bytes (w:World) {src dst e:TypeId} (s:ByteArray) (hsm:s.size≤maxLen) (hs:P.underlying src=some .string) (hd:P.underlying dst=some (.slice e)) (he:P.underlying e=some (.int .u8)) :
 ∃(cap:Nat) (m:Nat×Nat),s.size≤cap∧cap≤maxLen∧markOk cap m∧(convert src dst (.string s)).run P w = .ok (.slice (some ⟨w.heap.size,0,none⟩) s.size cap) (w.drew.alloc (bytesO (s.data.toList ++ zeros (cap-s.size)) e m)):=by
 have h:=run_bytes_of_string (P:=P) w src dst e s hs hd he
 have hc:s.size≤grownCap w s.size 0 e:=grownCap_ge w s.size 0 e
 have hc2:=grownCap_le_maxLen w s.size 0 e hsm
 obtain⟨c,hcc⟩:=zx (grownCap w s.size 0 e)
 rw[hcc] at h hc hc2
 have hr:bytesRow s c=(bytesV (s.data.toList ++ zeros (c-s.size))).toArray:=by
  apply Array.toList_inj.1
  unfold bytesRow bytesV zeros
  simp
 have hsz:(bytesRow s c).size=c:=by
  unfold bytesRow
  simp
  show s.size+(c-s.size)=c
  omega
 rw[hsz,hr] at h
 exact⟨c,(c,c+1),hc,hc2,Or.inr rfl,h⟩
theorem run_copy_at (w:World) {dT sT ty e:TypeId} {m:Nat×Nat} (hu:P.underlying dT=some (.slice e)) (hs:(P.info? e).map (·.size)=some 1) {g off:Nat} {l:List UInt8} (hg:w.heap[g]? = some (bytesO l e m)) (hm:markOk l.length m) (s:ByteArray) {n:Nat} (hn:s.size≤n) (hf:off+n≤l.length) (cap:Nat) :
 (Builtin.copy_ #[dT,sT] ty #[.slice (some ⟨g,off,none⟩) n cap,.string s]).run P w =
   .ok (goInt (s.size:Nat)) (w.setRow g (bytesV (patchL l off s.data.toList)).toArray):=by
 have hsz:s.data.toList.length=s.size:=Array.length_toList
 have hcs:List.take s.size (List.map (fun b:UInt8=>Value.int .u8 (b.toNat:Int)) s.data.toList)=bytesV s.data.toList:=by
  rw[List.take_of_length_le (by rw[List.length_map,hsz]; exact Nat.le_refl _)]
  rfl
 have hst:=run_storeCells_mark (P:=P) g off e m (bytesV s.data.toList) 0 (bytesV l).toArray w hg (by simpa [bytesV_length] using hm) (by rw[bytesV_length,hsz]; simp[bytesV_length]; omega) bytesV_one
 have hres:(bytesV l).take off ++ bytesV s.data.toList ++ (bytesV l).drop (off+(bytesV s.data.toList).length)=bytesV (patchL l off s.data.toList):=by
  unfold bytesV patchL
  rw[List.map_append,List.map_append,List.length_map,←List.map_drop,←List.map_take]
 cases hq:P.info? e with
 | none=>simp[hq] at hs
 | some i=>
   simp only[Nat.add_zero] at hst hres
   rw[hres] at hst
   have hmin:s.size.min n=s.size:=Nat.min_eq_left hn
   simp[Builtin.copy_,run_underlying hu,Builtin.lenOf,Builtin.firstCells,sizeOf,typeInfo,hq,hcs,hst,hmin]
theorem run_bytes_text (w:World) {src dst e:TypeId} {m:Nat×Nat} (hs:P.underlying src=some (.slice e)) (he:P.underlying e=some (.int .u8)) (hd:P.underlying dst=some .string) {g:Nat} {l z:List UInt8} (hg:w.heap[g]? = some (bytesO (l ++ z) e m)) {n:Nat} (hn:n=l.length) (cap:Nat) :
 (convert src dst (.slice (some ⟨g,0,none⟩) n cap)).run P w = .ok (.string (ofL l)) w:=by
 subst hn
 exact run_convert_bytes_back w src dst e ⟨g,0,none⟩ cap l hs he hd (fun j hj=>by
  have hadd:(⟨g,0,none⟩:Addr).add j=⟨g,j,none⟩:=by unfold Addr.add; split <;> simp_all
  rw[hadd]
  refine cellOf hg ?_
  unfold bytesV
  rw[List.getElem?_toArray,List.getElem?_map,List.getElem?_append_left hj,List.getElem?_eq_getElem hj]
  rfl)
theorem setRow_bytes {w:World} {g:Nat} {l:List UInt8} {e:TypeId} {m:Nat×Nat} (hg:w.heap[g]? = some (bytesO l e m)) (l2:List UInt8):(w.setRow g (bytesV l2).toArray).heap[g]? = some (bytesO l2 e m):=setRow_heap w g _ _ e m hg
end
end Go.Proofs.YtmljdnlmpiklgaaGreatDoor
namespace Go.Proofs.YtmljdnlmpiklgaaGreatDoor.BM
open Go Go.RowKit Txt
def ptr (b:Bool):Value:=.bool b
def ptrO:Option Bool→Value
 | none=>.bool false
 | some b=>ptr b
theorem nodup_of_map {α β:Type} (f:α→β):∀{l:List α},(l.map f).Nodup→l.Nodup
 | [],_=>by simp
 | x :: r,h=>by
   rw[List.map_cons,List.nodup_cons] at h
   rw[List.nodup_cons]
   exact⟨fun hm=>h.1 (List.mem_map.2 ⟨x,hm,rfl⟩),nodup_of_map f h.2⟩
def getM (l:List (ByteArray×Bool)) (s:ByteArray):Option Bool:=(l.find? (fun x=>decide (x.1=s))).map (·.2)
def setM (l:List (ByteArray×Bool)) (s:ByteArray) (b:Bool):List (ByteArray×Bool):=if(getM l s).isSome then l.map (fun x=>if x.1=s then(s,b) else x) else l ++ [(s,b)]
def encE (x:ByteArray×Bool):Value×Value:=(.string x.1,ptr x.2)
def IsMap (o:Obj) (l:List (ByteArray×Bool)):Prop:=
 ∃es clock,o = .map es clock∧MapKept.Stamped es clock∧es.toList.map (fun e=>(e.key,e.val))=l.map encE
def MapAt (w:World) (m:Nat) (l:List (ByteArray×Bool)):Prop:=∃o,w.heap[m]? = some o∧IsMap o l
theorem IsMap.new:IsMap (.map #[] 0) []:=⟨#[],0,rfl,MapKept.stamped_empty 0,rfl⟩
section
variable {es:Array MapEntry} {l:List (ByteArray×Bool)}
theorem ents_key (h:es.toList.map (fun e=>(e.key,e.val))=l.map encE):∀x∈es.toList,MapKept.IsKey .string x.key:=by
 intro x hx
 have:(x.key,x.val)∈l.map encE:=by rw[←h]; exact List.mem_map.2 ⟨x,hx,rfl⟩
 obtain⟨y,_,e⟩:=List.mem_map.1 this
 have:=(Prod.mk.inj e).1
 rw[←this]
 trivial
theorem ents_at (h:es.toList.map (fun e=>(e.key,e.val))=l.map encE) {j:Nat} {e:MapEntry} (he:es.toList[j]? = some e):∃x,l[j]? = some x∧e.key = .string x.1∧e.val=ptr x.2:=by
 have h1:(es.toList.map (fun e=>(e.key,e.val)))[j]? = some (e.key,e.val):=by rw[List.getElem?_map,he]; rfl
 rw[h,List.getElem?_map] at h1
 obtain⟨x,hx,e1⟩:=Option.map_eq_some_iff.1 h1
 exact⟨x,hx,(Prod.mk.inj e1).1.symm,(Prod.mk.inj e1).2.symm⟩
theorem ents_keys (h:es.toList.map (fun e=>(e.key,e.val))=l.map encE):es.toList.map (·.key)=l.map (fun x=>Value.string x.1):=by
 have:=congrArg (List.map Prod.fst) h
 rw[List.map_map,List.map_map] at this
 exact this
theorem keys_nodup (h:es.toList.map (fun e=>(e.key,e.val))=l.map encE) {clock:Nat} (hs:MapKept.Stamped es clock):(l.map (·.1)).Nodup:=by
 have h1:=hs.2.2
 rw[ents_keys h] at h1
 have:l.map (fun x=>Value.string x.1)=(l.map (·.1)).map Value.string:=by rw[List.map_map]; rfl
 rw[this] at h1
 exact nodup_of_map _ h1
theorem getM_at (hn:(l.map (·.1)).Nodup) {j:Nat} {x:ByteArray×Bool} (hx:l[j]? = some x):getM l x.1=some x.2:=by
 induction l generalizing j with
 | nil=>simp at hx
 | cons y r ih=>
   rw[List.map_cons,List.nodup_cons] at hn
   unfold getM
   rw[List.find?_cons]
   cases j with
   | zero=>
     simp at hx
     subst hx
     simp
   | succ j=>
     have hxr:r[j]? = some x:=by simpa using hx
     have hne:y.1≠x.1:=fun e=>hn.1 (by rw[e]; exact List.mem_map.2 ⟨x,List.mem_of_getElem? hxr,rfl⟩)
     rw[decide_eq_false hne]
     exact ih hn.2 hxr
theorem getM_none {s:ByteArray} (h:∀x∈l,x.1≠s):getM l s=none:=by
 unfold getM
 rw[List.find?_eq_none.2 (fun x hx=>by simp[h x hx])]
 rfl
end
section
variable {P:Program} {w:World} {T K E:TypeId} {m:Nat} {l:List (ByteArray×Bool)}
theorem run_lookup_bool (ht:P.underlying T=some (.map K E)) (hk:P.underlying K=some .string) (hz:(zeroValue E).run P w = .ok (.bool false) w) (h:MapAt w m l) (s:ByteArray) :
 (Instr.lookup T (.map (some m)) (.string s) false).run P w = .ok (ptrO (getM l s)) w:=by
 obtain⟨o,hb,es,clock,rfl,hst,hen⟩:=h
 have hkey:MapKept.IsKey .string (.string s):=trivial
 have hn:=keys_nodup hen hst
 rcases MapKept.findNow_spec hkey es.toList 0 (ents_key hen) with ⟨h1,h2⟩ | ⟨j,e0,h1,h2,h3⟩
 ·have:getM l s=none:=getM_none (fun x hx e=>by
   obtain⟨j,hj⟩:=List.getElem?_of_mem hx
   have h4:(es.toList.map (·.key))[j]? = some (.string s):=by rw[ents_keys hen,List.getElem?_map,hj,←e]; rfl
   rw[List.getElem?_map] at h4
   obtain⟨y,hy,e2⟩:=Option.map_eq_some_iff.1 h4
   exact h2 y (List.mem_of_getElem? hy) e2)
  rw[this]
  simp[Instr.lookup,run_underlying ht,MapKept.run_getObj_map hb,MapKept.run_checkKey hk hkey,MapKept.run_findKey hk h1,hz,Result.andThen,ptrO]
 ·obtain⟨x,hx,e1,e2⟩:=ents_at hen h2
  rw[h3] at e1
  have es1:s=x.1:=by injection e1
  have:=getM_at hn hx
  rw[←es1] at this
  rw[this]
  simp[Instr.lookup,run_underlying ht,MapKept.run_getObj_map hb,MapKept.run_checkKey hk hkey,MapKept.run_findKey hk h1,Result.andThen,ptrO,e2]
theorem list_set_ents {j:Nat} {es:List MapEntry} {l:List (ByteArray×Bool)} (h:es.map (fun e=>(e.key,e.val))=l.map encE) {x:ByteArray×Bool} (hx:l[j]? = some x) (hn:(l.map (·.1)).Nodup) (e':MapEntry) {s:ByteArray} {b:Bool} (hs:s=x.1) (h1:e'.key = .string s) (h2:e'.val=ptr b) :
 (es.set j e').map (fun e=>(e.key,e.val))=(l.map (fun y=>if y.1=s then(s,b) else y)).map encE:=by
 rw[List.map_set,h,h1,h2]
 apply List.ext_getElem?
 intro i
 rw[List.getElem?_set,List.getElem?_map,List.getElem?_map,List.getElem?_map]
 by_cases hij:j=i
 ·subst hij
  have hl:=(List.getElem?_eq_some_iff.1 hx).1
  rw[if_pos rfl,if_pos (by simpa using hl),hx]
  simp[hs,encE]
 ·rw[if_neg hij]
  cases hy:l[i]? with
  | none=>rfl
  | some y=>
    have hne:y.1≠s:=by
     intro e
     have a1:(l.map (·.1))[j]? = some s:=by rw[List.getElem?_map,hx,hs]; rfl
     have a2:(l.map (·.1))[i]? = some s:=by rw[List.getElem?_map,hy,←e]; rfl
     exact hij ((List.getElem?_inj (List.getElem?_eq_some_iff.1 a1).1 hn).1 (a1.trans a2.symm))
    simp[hne]
theorem run_update_bool (ht:P.underlying T=some (.map K E)) (hk:P.underlying K=some .string) (h:MapAt w m l) (s:ByteArray) (b:Bool) :
 ∃o',(Instr.mapUpdate T (.map (some m)) (.string s) (ptr b)).run P w = .ok () (ChangeMaps.setBlock w m o')∧IsMap o' (setM l s b):=by
 obtain⟨o,hb,es,clock,rfl,hst,hen⟩:=h
 have hkey:MapKept.IsKey .string (.string s):=trivial
 have hn:=keys_nodup hen hst
 rcases MapKept.findNow_spec hkey es.toList 0 (ents_key hen) with ⟨h1,h2⟩ | ⟨j,e0,h1,h2,h3⟩
 ·have hnone:getM l s=none:=getM_none (fun x hx e=>by
   obtain⟨j,hj⟩:=List.getElem?_of_mem hx
   have h4:(es.toList.map (·.key))[j]? = some (.string s):=by rw[ents_keys hen,List.getElem?_map,hj,←e]; rfl
   rw[List.getElem?_map] at h4
   obtain⟨y,hy,e2⟩:=Option.map_eq_some_iff.1 h4
   exact h2 y (List.mem_of_getElem? hy) e2)
  refine⟨.map (es.push ⟨.string s,ptr b,clock⟩) (clock+1),?_,_,_,rfl,MapKept.stamped_push hst h2,?_⟩
  ·simp[Instr.mapUpdate,run_underlying ht,MapKept.run_getObj_map hb,MapKept.run_checkKey hk hkey,MapKept.run_findKey hk h1,MapKept.run_setObj_map _ hb,Result.andThen,ChangeMaps.setBlock]
  ·unfold setM
   rw[hnone]
   simp[hen,encE]
 ·obtain⟨x,hx,e1,e2⟩:=ents_at hen h2
  rw[h3] at e1
  have es1:s=x.1:=by injection e1
  have hget:=getM_at hn hx
  rw[←es1] at hget
  have hj:es[j]? = some e0:=by simpa using h2
  have hkeyf:∀e',es[j]? = some e'→({ e' with key:=.string s,val:=ptr b }:MapEntry).key=e'.key:=fun e' he'=>by rw[hj] at he'; cases he'; exact h3.symm
  refine⟨.map (es.modify j (fun e'=>{ e' with key:=.string s,val:=ptr b })) clock,?_,_,_,rfl,MapKept.stamped_modify hst _ _ (fun _ _=>rfl) (fun e' _ he'=>hkeyf e' he'),?_⟩
  ·simp[Instr.mapUpdate,run_underlying ht,MapKept.run_getObj_map hb,MapKept.run_checkKey hk hkey,MapKept.run_findKey hk h1,hj,h3,MapKept.run_keyThatStays hkey,MapKept.run_setObj_map _ hb,Result.andThen,ChangeMaps.setBlock]
  ·unfold setM
   rw[hget]
   simp only[Option.isSome_some,if_true]
   rw[Array.toList_modify,ChangeMaps.modify_eq_set _ _ _ _ h2]
   exact list_set_ents hen hx hn _ es1 rfl rfl
end
theorem getM_set (l:List (ByteArray×Bool)) (s:ByteArray) (b:Bool) (r:ByteArray):getM (setM l s b) r=if r=s then some b else getM l r:=by
 unfold setM
 cases hs:getM l s with
 | none=>
   simp only[Option.isSome_none,Bool.false_eq_true,if_false]
   unfold getM at hs ⊢
   rw[List.find?_append]
   by_cases h:r=s
   ·subst h
    rw[if_pos rfl]
    cases hf:l.find? (fun x=>decide (x.1=r)) with
    | none=>simp
    | some y=>rw[hf] at hs; cases hs
   ·rw[if_neg h]
    cases hf:l.find? (fun x=>decide (x.1=r)) with
    | none=>simp[Ne.symm h]
    | some y=>simp
 | some c=>
   simp only[Option.isSome_some,if_true]
   obtain⟨y,hy,rfl⟩:=Option.map_eq_some_iff.1 hs
   have hy1:y.1=s:=of_decide_eq_true (List.find?_some (p:=fun x:ByteArray×Bool=>decide (x.1=s)) hy)
   have hym:=List.mem_of_find?_eq_some hy
   unfold getM
   rw[List.find?_map]
   by_cases h:r=s
   ·subst h
    rw[if_pos rfl]
    have e:((fun x:ByteArray×Bool=>decide (x.1=r)) ∘ fun x=>if x.1=r then(r,b) else x)=fun x=>decide (x.1=r):=by
     funext x
     simp only[Function.comp_apply]
     by_cases hx:x.1=r <;> simp[hx]
    rw[e,hy]
    simp[hy1]
   ·rw[if_neg h]
    have e:((fun x:ByteArray×Bool=>decide (x.1=r)) ∘ fun x=>if x.1=s then(s,b) else x)=fun x=>decide (x.1=r):=by
     funext x
     simp only[Function.comp_apply]
     by_cases hx:x.1=s
     ·simp[hx]
     ·simp[hx]
    rw[e]
    cases hf:l.find? (fun x=>decide (x.1=r)) with
    | none=>rfl
    | some z=>
      have hz1:z.1=r:=of_decide_eq_true (List.find?_some (p:=fun x:ByteArray×Bool=>decide (x.1=r)) hf)
      have:z.1≠s:=by rw[hz1]; exact h
      simp[this]
theorem heap_setBlock_at {w:World} {m:Nat} (o:Obj) (h:m<w.heap.size):(ChangeMaps.setBlock w m o).heap[m]? = some o:=by simp[ChangeMaps.setBlock,h]
theorem heap_setBlock_ne {w:World} {m k:Nat} (o:Obj) (h:k≠m):(ChangeMaps.setBlock w m o).heap[k]? = w.heap[k]?:=by simp[ChangeMaps.setBlock,Ne.symm h]
theorem size_setBlock (w:World) (m:Nat) (o:Obj):(ChangeMaps.setBlock w m o).heap.size=w.heap.size:=by simp[ChangeMaps.setBlock]
theorem MapAt.lt {w:World} {m:Nat} {l:List (ByteArray×Bool)} (h:MapAt w m l):m<w.heap.size:=by
 obtain⟨o,h,_⟩:=h
 exact(Array.getElem?_eq_some_iff.1 h).1
theorem MapAt.old {w w':World} {m:Nat} {l:List (ByteArray×Bool)} (h:MapAt w m l) (hs:w'.heap[m]? = w.heap[m]?):MapAt w' m l:=by
 obtain⟨o,h,h2⟩:=h
 exact⟨o,hs.trans h,h2⟩
