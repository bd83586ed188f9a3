import Derived.Test.YtmljdnlmpiklgaaGreatDoorRefEntryD
import Derived.Test.YtmljdnlmpiklgaaGreatDoorDumpC
set_option maxRecDepth 20000
set_option maxHeartbeats 8000000
namespace Go.Proofs.YtmljdnlmpiklgaaGreatDoor
open Go Go.RowKit Txt Sp
theorem digits_small {n:Nat} (h:n<10):digitsL n=[UInt8.ofNat (48+n)]:=by
 unfold digitsL
 rw[Lib.decDigits,dif_pos h]
theorem digits_big {n:Nat} (h:¬n<10):digitsL n=digitsL (n / 10) ++ [UInt8.ofNat (48+n % 10)]:=by
 unfold digitsL
 rw[Lib.decDigits,dif_neg h]
def preL (n:Nat):List UInt8:=if n<10 then [] else digitsL (n / 10)
theorem digits_pre (n:Nat):digitsL n=preL n ++ [UInt8.ofNat (48+n % 10)]:=by
 unfold preL
 by_cases h:n<10
 ·rw[if_pos h,digits_small h,Nat.mod_eq_of_lt h]
  rfl
 ·rw[if_neg h,digits_big h]
theorem one_byte {w:World} {c:Nat} (hc:c<256):(convert 36 9 (.slice (some ⟨w.heap.size,0,none⟩) 1 1)).run Tryz.prog (w.alloc (.cells #[.int .u8 (c:Int)] 5)) = .ok (.string (ofL [UInt8.ofNat c])) (w.alloc (.cells #[.int .u8 (c:Int)] 5)):=
 bytes_text (l:=[UInt8.ofNat c]) Tryz.underlying36 Tryz.underlying5 Tryz.underlying9 (heapNew w _) (fun j hj=>by
  match j,hj with
  | 0,_=>
    show some (Value.int .u8 (c:Int))=some (.int .u8 ((UInt8.ofNat c).toNat:Int))
    rw[UInt8.toNat_ofNat',Nat.mod_eq_of_lt (by omega)]) 1
section
theorem rdigits_any (w:World) (n:Nat) (hn:n<9223372036854775808):Calls Tryz.prog 22 #[.int .i64 (n:Int)] w fun e w'=>e = .returned (.string (ofL (digitsL n)))∧Below w.heap.size w w':=by
 have hle:=q9z hn
 have H1:Hid (∀(W:World) (c:Nat),c<256→(convert 36 9 (.slice (some ⟨W.heap.size,0,none⟩) 1 1)).run Tryz.prog (W.alloc (.cells #[.int .u8 (c:Int)] 5)) = .ok (.string (ofL [UInt8.ofNat c])) (W.alloc (.cells #[.int .u8 (c:Int)] 5))):=fun W c hc=>one_byte hc
 obtain⟨c,hc⟩:=zx (48+n % 10)
 have t1:(n:Int).tmod 10=((n % 10:Nat):Int):=by rw[Int.tmod_eq_emod_of_nonneg (by omega)]; omega
 have e1:IntKind.i64.wrap ((n % 10:Nat):Int)=((n % 10:Nat):Int):=IntWalk.i64_in _ (by omega)
 have e2:IntKind.i64.wrap (48+(n:Int) % 10)=(c:Int):=by rw[IntWalk.i64_in _ (by omega)]; omega
 have e3:IntKind.u8.wrap (c:Int)=(c:Int):=IntWalk.u8_in _ (by omega)
 have hcv:=fun W:World=>H1.out W c (by omega)
 have HD0:Hid (digitsL n=preL n ++ [UInt8.ofNat c]):=by rw[←hc]; exact digits_pre n
 have HLe:=zh hle
 have HN:=zh hn
 have HB0:Hid (Below w.heap.size w (w.alloc (.cells #[.int .u8 (c:Int)] 5))):=bl2 _
 clear hle hc hn
 go_enter Tryz.func22,Tryz.ntmps22
 go_wp2
 go_loopw [0,3] (fun a t wr=>∃(m:Nat) (R:List UInt8),a = .int .i64 (m:Int)∧t = .string (ofL R)∧Hid (digitsL n=preL m ++ R∧m<9223372036854775808)∧Hid (Below w.heap.size w wr)) (fun a _ _=>(intOf a).toNat)
 case atStart=>exact⟨n,_,rfl,rfl,⟨HD0.out,HN.out⟩,HB0⟩
 case round=>
  obtain⟨m,R,rfl,rfl,HR,HB⟩:=hrel
  by_cases h10:10≤m
  ·have f1:decide ((m:Int)≥10)=true:=decide_eq_true (by omega)
   obtain⟨q,hq⟩:=zx (m / 10)
   obtain⟨c,hc⟩:=zx (48+q % 10)
   have hm:=HR.out.2
   have d1:(m:Int).tdiv 10=(q:Int):=by rw[Int.tdiv_eq_ediv_of_nonneg (by omega)]; omega
   have d2:(m:Int) / 10=(q:Int):=by omega
   have d3:IntKind.i64.wrap (q:Int)=(q:Int):=IntWalk.i64_in _ (by omega)
   have e2:IntKind.i64.wrap (48+(q:Int) % 10)=(c:Int):=by rw[IntWalk.i64_in _ (by omega)]; omega
   have e3:IntKind.u8.wrap (c:Int)=(c:Int):=IntWalk.u8_in _ (by omega)
   have hcv:=H1.out wr c (by omega)
   have hd:=HR.out.1
   have hpm:preL m=preL q ++ [UInt8.ofNat c]:=by
    unfold preL
    rw[if_neg (by omega),hq,←hc]
    exact digits_pre q
   have HR2:Hid (digitsL n=preL q ++ (UInt8.ofNat c :: R)∧q<9223372036854775808):=⟨by rw[hd,hpm,List.append_assoc]; rfl,by omega⟩
   have hcat:=text_cat [UInt8.ofNat c] R
   have hRl:(ofL R).size≤19:=by
    have h1:=congrArg List.length hd
    have h2:=HLe.out
    rw[List.length_append] at h1
    rw[ofL_size]
    omega
   have hCl:(ofL [UInt8.ofNat c]).size=1:=by rw[ofL_size]; rfl
   obtain⟨C,hC⟩:=zx (ofL [UInt8.ofNat c])
   obtain⟨X,hX⟩:=zx (ofL R)
   obtain⟨Y,hY⟩:=zx (ofL (UInt8.ofNat c :: R))
   change ofL [UInt8.ofNat c] ++ ofL R=ofL (UInt8.ofNat c :: R) at hcat
   rw[hC] at hcat hcv hCl
   rw[hX] at hcat hRl ⊢
   rw[hY] at hcat
   have hlim:¬9223372036854775807<C.size+X.size:=by omega
   have HY:=zh hY
   have HB2:Hid (Below w.heap.size w (wr.alloc (.cells #[.int .u8 (c:Int)] 5))):=bl1 HB.out _
   have HQ:=zh hq
   clear hC hX hY hd hpm hc hq hRl hCl hm
   go_wp2
   go_roundw
   case rel=>exact⟨q,_,rfl,by rw[HY.out],HR2,HB2⟩
   case measure=>have:=HQ.out; simp[intOf]; omega
  ·have f1:decide ((m:Int)≥10)=false:=decide_eq_false (by omega)
   have he:R=digitsL n:=by
    rw[HR.out.1]
    unfold preL
    rw[if_pos (by omega)]
    rfl
   subst he
   go_wp2
   go_ret
   exact⟨rfl,HB.out⟩
theorem q49z (w:World) (v:Value) (l:List Nat) (hv:Ints w v (l.map (fun n:Nat=>(n:Int)))) (hl:l.length≤1000) (hall:∀n∈l,n<9223372036854775808):Calls Tryz.prog 58 #[v] w fun e w'=>e = .returned (.string (ofL (listL l)))∧Below w.heap.size w w':=by
 unfold Ints at hv
 rw[List.map_map] at hv
 obtain⟨ad,n,cap,rfl,HN,hn2,HF⟩:=RowAt.facts (f:=(fun n:Int=>[Value.int .i64 n]) ∘ fun n:Nat=>(n:Int)) hv
 clear hv
 have hn1000:n≤1000:=by rw[HN.out]; exact hl
 have HAll:=zh hall
 have HSz:Hid (∀k,(listL (l.take k)).length≤20000):=fun k=>by
  have h1:=q19z (l.take k) (fun n hn=>hall n (List.mem_of_mem_take hn))
  have h2:(l.take k).length≤l.length:=List.length_take_le' _ _
  omega
 have HW:Hid ((⟨#[]⟩:ByteArray)=ofL (listL (l.take 0))):=rfl
 have HB0:Hid (Below w.heap.size w w):=Below.refl _ _
 clear hall hl
 go_enter Tryz.func58,Tryz.ntmps58
 go_wp2
 go_loopw [3,4] (fun t i wr=>∃k:Nat,k≤n∧i = .int .i64 (k:Int)∧t = .string (ofL (listL (l.take k)))∧Hid (Below w.heap.size w wr)) (fun _ i _=>n-(intOf i).toNat)
 case atStart=>exact⟨0,Nat.zero_le _,rfl,congrArg Value.string HW.out,HB0⟩
 case round=>
  obtain⟨k,hk,rfl,rfl,HB⟩:=hrel
  clear HW
  by_cases hlt:k<n
  ·obtain⟨b,o,x,rfl,hb,hx,hc⟩:=HF.out k hlt
   have c0:wr.cell? ⟨b,o+k,none⟩=some (.int .i64 (x:Int)):=by
    have h:=(HB.out.cell (p:=⟨b,o+k*1+0,none⟩) hb).trans (hc 0 _ rfl)
    simpa using h
   have hnum:=fun W:World=>rdigits_any W x (HAll.out x (List.mem_of_getElem? hx))
   have hcat1:=text_cat [32] (digitsL x)
   have hcat2:=text_cat (listL (l.take k)) (32 :: digitsL x)
   have he:listL (l.take k) ++ 32 :: digitsL x=listL (l.take (k+1)):=by rw[take_step hx,listL_snoc]
   rw[he] at hcat2
   have hz1:=HSz.out k
   rw[←ofL_size] at hz1
   have hz3:(ofL (digitsL x)).size≤19:=by rw[ofL_size]; exact q9z (HAll.out x (List.mem_of_getElem? hx))
   have hz4:(ofL (32 :: digitsL x)).size≤20:=by rw[ofL_size,List.length_cons]; have:=q9z (HAll.out x (List.mem_of_getElem? hx)); omega
   obtain⟨D,hD⟩:=zx (ofL (digitsL x))
   obtain⟨E,hE⟩:=zx (ofL (32 :: digitsL x))
   change ofL [32] ++ ofL (digitsL x)=ofL (32 :: digitsL x) at hcat1
   rw[hD] at hnum hcat1 hz3
   rw[hE] at hcat1 hcat2 hz4
   obtain⟨A,hA⟩:=zx (ofL (listL (l.take k)))
   obtain⟨C,hC⟩:=zx (ofL (listL (l.take (k+1))))
   rw[hA] at hcat2 hz1 ⊢
   rw[hC] at hcat2
   change (⟨#[32]⟩:ByteArray) ++ D=E at hcat1
   have HC:=zh hC
   have HNUM:=zh hnum
   clear hnum
   clear hc hx he hD hE hA hC
   go_wp2_with fail
   refine(HNUM.out _).mono ?_
   rintro e w2 ⟨rfl,hb2⟩
   have HB2:=zh (blN HB.out hb2)
   clear hb2
   go_wp2
   go_roundw
   case rel=>exact⟨k+1,by omega,by go_num,by rw[HC.out],HB2⟩
   case measure=>simp[intOf]; omega
  ·have htk:l.take k=l:=List.take_of_length_le (by have:=HN.out; omega)
   have HTK:=zh htk
   clear htk
   go_wp2
   go_ret
   exact⟨ret_s (by rw[HTK.out]),HB.out⟩
theorem rkind_any (w:World) (k:Int):Calls Tryz.prog 151 #[.int .i64 k] w fun e w'=>e = .returned (.string (ofL (kindL k)))∧w=w':=by
 by_cases h1:k=1
 ·subst h1
  go_enter Tryz.func151,Tryz.ntmps151
  go_wp2
  go_ret
  exact⟨rfl,rfl⟩
 by_cases h2:k=2
 ·subst h2
  go_enter Tryz.func151,Tryz.ntmps151
  go_wp2
  go_ret
  exact⟨rfl,rfl⟩
 ·have hk:kindL k=wFree:=by unfold kindL; rw[if_neg h1,if_neg h2]
  have f1:(k == 1)=false:=beq_eq_false_iff_ne.2 h1
  have f2:(k == 2)=false:=beq_eq_false_iff_ne.2 h2
  rw[hk]
  clear h1 h2 hk
  go_enter Tryz.func151,Tryz.ntmps151
  go_wp2
  go_ret
  exact⟨rfl,rfl⟩
end
theorem hexL_take (l:List UInt8) {k:Nat} {c:UInt8} (h:l[k]? = some c):hexL (l.take (k+1))=hexL (l.take k) ++ [hexD (c.toNat / 16)] ++ [hexD (c.toNat % 16)]:=by
 rw[take_step h,hexL_snoc]
section
theorem rhex_any (w:World) (s:ByteArray) (hs:s.size≤1000000):Calls Tryz.prog 61 #[.string s] w fun e w'=>e = .returned (.string (ofL (hexL s.data.toList)))∧Below w.heap.size w w':=by
 obtain⟨n,hn⟩:=zx (s.size)
 have HN:=zh hn
 have HL:Hid (s.data.toList.length=n):=by rw[←hn]; exact Array.length_toList
 have HS:Hid (n≤1000000):=by rw[←hn]; exact hs
 have HO0:Hid (Bytes w.heap.size w (.slice none 0 0) (hexL (s.data.toList.take 0))):=OwnR.void _ _
 have HB0:Hid (Below w.heap.size w w):=Below.refl _ _
 clear hn hs
 go_enter Tryz.func61,Tryz.ntmps61
 go_wp2
 go_loopw [4,5] (fun v i wr=>∃k:Nat,k≤n∧i = .int .i64 (k:Int)∧Hid (Bytes w.heap.size wr v (hexL (s.data.toList.take k)))∧Hid (Below w.heap.size w wr)) (fun _ i _=>n-(intOf i).toNat)
 case atStart=>exact⟨0,Nat.zero_le _,rfl,HO0,HB0⟩
 case round=>
  obtain⟨k,hk,rfl,HO,HB⟩:=hrel
  have hn6:=HS.out
  by_cases hlt:k<n
  ·have hks:k<s.size:=by rw[HN.out]; exact hlt
   have f1:decide ((k:Int)<(s.size:Int))=true:=decide_eq_true (by omega)
   have hx:∀W:World,(Instr.index 9 (.string s) (.int .i64 (k:Int))).run Tryz.prog W = .ok (.int .u8 (s[k].toNat:Int)) W:=fun W=>text_lit W hks
   have hget:s.data.toList[k]? = some s[k]:=by
    rw[List.getElem?_eq_getElem (by rw[HL.out]; exact hlt)]
    rfl
   have hsn:=hexL_take s.data.toList hget
   have hlen:(hexL (s.data.toList.take k)).length≤2000000:=by
    rw[q26z]
    have:(s.data.toList.take k).length≤k:=List.length_take_le _ _
    have:=HS.out
    omega
   have hcb:=UInt8.toNat_lt s[k]
   obtain⟨x,hxx⟩:∃x:Nat,s[k].toNat=x:=⟨_,rfl⟩
   rw[hxx] at hx hsn hcb
   have d1:(x:Int).tdiv 16=((x / 16:Nat):Int):=by rw[Int.tdiv_eq_ediv_of_nonneg (by omega)]; omega
   have d2:(x:Int).tmod 16=((x % 16:Nat):Int):=by rw[Int.tmod_eq_emod_of_nonneg (by omega)]; omega
   have d3:IntKind.u8.wrap ((x:Int) / 16)=(x:Int) / 16:=IntWalk.u8_in _ (by omega)
   have d4:IntKind.u8.wrap ((x:Int) % 16)=(x:Int) % 16:=IntWalk.u8_in _ (by omega)
   have hi1:∀W:World,(Instr.index 9 (.string ⟨#[48,49,50,51,52,53,54,55,56,57,97,98,99,100,101,102]⟩) (.int .u8 ((x:Int) / 16))).run Tryz.prog W = .ok (.int .u8 ((hexD (x / 16)).toNat:Int)) W:=fun W=>hex_at W (x / 16) (by omega)
   have hi2:∀W:World,(Instr.index 9 (.string ⟨#[48,49,50,51,52,53,54,55,56,57,97,98,99,100,101,102]⟩) (.int .u8 ((x:Int) % 16))).run Tryz.prog W = .ok (.int .u8 ((hexD (x % 16)).toNat:Int)) W:=fun W=>hex_at W (x % 16) (by omega)
   obtain⟨c1,hc1⟩:=zx (hexD (x / 16))
   obtain⟨c2,hc2⟩:=zx (hexD (x % 16))
   rw[hc1] at hi1 hsn
   rw[hc2] at hi2 hsn
   obtain⟨L,hL⟩:=zx (hexL (s.data.toList.take k))
   rw[hL] at hsn hlen HO
   have HSn:=zh hsn
   obtain⟨ia,ib,ic,id,ie⟩:=info_parts infoU8
   clear hsn hget hxx hc1 hc2 hL
   go_upto_region 6 with fail
   refine wp_region_held_drew (S:=fun _:World=>True) (by kernel_rfl) trivial (fun hHeld=>?_)
   refine tkH 0 ?_; simp only[Act.put,ps0]
   refine tkH 1 ?_; simp only[Act.put,ps0]
   refine tkH 2 ?_; simp only[Act.put,ps0]
   refine tkH 3 ?_; simp only[Act.put,ps0]
   refine tkH 4 ?_; simp only[Act.put,ps0]
   refine tkH 5 ?_; simp only[Act.put,ps0]
   refine tkH 6 ?_; simp only[Act.put,ps0]
   refine tkH 7 ?_; simp only[Act.put,ps0]
   refine tkH 8 ?_; simp only[Act.put,ps0]
   refine tkH 9 ?_; simp only[Act.put,ps0]
   refine tkH 10 ?_; simp only[Act.put,ps0]
   refine tkH 11 ?_; simp only[Act.put,ps0]
   refine tkH 12 ?_; simp only[Act.put,ps0]
   refine wpAnyH_ready (rs:=[13]) (by kernel_rfl) (by simp) ?_
   refine AllReadyH.cons rfl (fun K hK=>?_) ?_
   ·try simp only[gg0]
    go_simp
    refine hK.out _ _ trivial (fun hHeld=>?_)
    clear hK K
    try simp only[Act.put,ps0]
    refine wpAnyH_ready (rs:=[14]) (by kernel_rfl) (by simp) ?_
    refine AllReadyH.cons rfl (fun K hK=>?_) ?_
    ·refine step_append_lies _ (by rfl) _ _ _ (by rfl) w.heap.size 5 ia _ 1 1 Tryz.underlying36 ib ic id ie rfl (by decide) u4 L.length (L.flatMap byC) (by rfl) (OwnR.below HO.out (blD (bl2 _))) ⟨wr.heap.size,0,none⟩ 2 2 [.int .u8 (c1.toNat:Int),.int .u8 (c2.toNat:Int)] (by rfl) (by rfl) (World.news_of_block (cs:=#[.int .u8 (c1.toNat:Int),.int .u8 (c2.toNat:Int)]) (t:=5) (fr:=(0,0)) (heapNew wr _)) (by simp[Value.oneCell']) (by decide) ?_ ?_ ?_ (wr.heap.size+1) (by simp) ?_
     ·unfold maxLen; omega
     ·omega
     ·have:=HB.out.size; simp; omega
     intro g4 cap4 w4 hown4 hgrow4 hat4 hlt4
     have HB4:Hid (Below w.heap.size w w4):=Below.grown (blD (bl1 HB.out _)) hgrow4 (blD (bl1 HB.out _)).size (fun q hq=>(World.ownsRow.lt HO.out q hq).1)
     have HO4:Hid (Bytes w.heap.size w4 (.slice (some ⟨g4,0,none⟩) (L.length+2) cap4) (hexL (s.data.toList.take (k+1)))):=by
      rw[HSn.out]
      show OwnR _ _ _ _ _ _ _
      unfold OwnR
      rw[List.append_assoc,List.length_append,List.flatMap_append]
      exact hown4
     clear hown4 hgrow4 hat4 hlt4
     refine hK.out _ _ trivial (fun hHeld=>?_)
     clear hK K
     try simp only[Act.put,ps0]
     refine tkH 15 ?_; simp only[Act.put,ps0]
     refine wpAnyH_done (by kernel_rfl) ?_ _
     clear hHeld
     go_wp2
     go_roundw
     case rel=>exact⟨k+1,by omega,by go_num,HO4,HB4⟩
     case measure=>simp[intOf]; omega
    exact AllReadyH.nil
   exact AllReadyH.nil
  ·have f1:decide ((k:Int)<(s.size:Int))=false:=decide_eq_false (by rw[HN.out]; omega)
   have f2:¬k<s.size:=by rw[HN.out]; omega
   have htk:s.data.toList.take k=s.data.toList:=List.take_of_length_le (by rw[HL.out]; omega)
   have HO2:=HO.out
   rw[htk] at HO2
   have hcv:=bytes_of HO2
   clear HO2 htk
   go_wp2
   go_ret
   exact⟨rfl,HB.out⟩
theorem rplaced_any (w:World) (word:List UInt8) (s:ByteArray) (n:Int) (hw:word.length≤100):Calls Tryz.prog 111 #[.string (ofL word),.string s,.int .i64 n] w (q2z (if mapC s n=0 then some (word ++ listL (placesL s.data.toList n.toNat)) else none) w):=by
 have hp:=fun W:World=>rplaces_any W s n
 unfold RPlacesPost at hp
 by_cases hc:mapC s n=0
 rotate_left
 ·rw[if_neg hc]
  have HN:Hid (∀w',Below w.heap.size w w'→q2z none w (.returned (.tuple #[.string ⟨#[]⟩,.bool false])) w'):=fun w' hb=>q23z rfl rfl (fun L hL=>absurd hL (by simp)) hb
  obtain⟨Q,hQ⟩:=zx (q2z none w)
  rw[hQ] at HN ⊢
  obtain⟨c,hcc⟩:=zx (mapC s n)
  rw[hcc] at hp hc
  have f1:(c == 0)=false:=beq_eq_false_iff_ne.2 hc
  have f2:(c != 0)=true:=by simp[hc]
  obtain⟨W,hW⟩:=zx (ofL word)
  rw[hW]
  have HP:=zh hp
  clear hp
  clear hQ hcc hc hW hw
  go_enter Tryz.func111,Tryz.ntmps111
  go_wp2_with fail
  refine(HP.out _).mono ?_
  rintro e w1 ⟨v,rfl,ho,hb1⟩
  obtain⟨ad,cap,rfl⟩:=OwnR.form ho
  have HB1:=zh hb1
  clear ho hb1
  go_wp2
  all_goals first | exact HN.out _ HB1.out | (go_ret2; exact HN.out _ HB1.out)
 ·rw[if_pos hc]
  simp only[hc,if_true] at hp
  have hpl:=placesL_length s.data.toList n.toNat
  have hn64:=mapC_zero hc
  obtain⟨L,hL⟩:=zx (placesL s.data.toList n.toNat)
  have hall:∀x∈L,x<9223372036854775808:=fun x hx=>by
   rw[←hL] at hx
   have:=List.mem_range.1 (List.mem_filter.1 hx).1
   omega
  rw[hL] at hp hpl ⊢
  have hli:=fun(W:World) (v:Value) (h:Ints W v (L.map (fun n:Nat=>(n:Int))))=>q49z W v L h (by omega) hall
  have hcat:=text_cat word (listL L)
  have hz1:(ofL word).size≤100:=by rw[ofL_size]; exact hw
  have hz2:(ofL (listL L)).size≤20*64:=by
   rw[ofL_size]
   have:=q19z L hall
   omega
  have HY:Hid (∀w',Below w.heap.size w w'→q2z (some (word ++ listL L)) w (.returned (.tuple #[.string (ofL (word ++ listL L)),.bool true])) w'):=fun w' hb=>q23z rfl rfl (fun M hM=>by rw[Option.some.inj hM]) hb
  obtain⟨Q,hQ⟩:=zx (q2z (some (word ++ listL L)) w)
  rw[hQ] at HY ⊢
  obtain⟨A,hA⟩:=zx (ofL word)
  obtain⟨B,hB⟩:=zx (ofL (listL L))
  obtain⟨C,hC⟩:=zx (ofL (word ++ listL L))
  rw[hA] at hcat hz1 ⊢
  rw[hB] at hcat hz2 hli
  rw[hC] at hcat HY
  have hlim:¬9223372036854775807<A.size+B.size:=by omega
  have HP:=zh hp
  have HLI:=zh hli
  clear hp hli
  clear hQ hA hB hC hL hall hpl hn64 hc hz1 hz2 hw
  go_enter Tryz.func111,Tryz.ntmps111
  go_wp2_with fail
  refine(HP.out _).mono ?_
  rintro e w1 ⟨v,rfl,ho,hb1⟩
  have HB1:=zh hb1
  have hrow:=OwnR.row (f:=inC) (fun _ _=>rfl) ho
  have hin:Ints w1 v (L.map (fun n:Nat=>(n:Int))):=by
   unfold Ints
   rw[List.map_map]
   exact hrow
  obtain⟨ad,cap,rfl⟩:=OwnR.form ho
  have HIn:=zh hin
  clear ho hb1 hrow hin
  go_wp2_with fail
  refine(HLI.out _ _ HIn.out).mono ?_
  rintro e w2 ⟨rfl,hb2⟩
  have HB2:=zh (blN HB1.out hb2)
  clear hb2
  go_wp2
  first | exact HY.out _ HB2.out | (go_ret2; exact HY.out _ HB2.out)
end
theorem slotsL_all {s:ByteArray} (hs:s.size=64):ofL (q12z s 4)=s:=by
 have hl:s.data.toList.length=64:=by rw[Array.length_toList]; exact hs
 rw[slotsL_take,List.take_of_length_le (by omega)]
 rfl
section
theorem rdir_any (w:World) (s:ByteArray) (hs:s.size=64):Calls Tryz.prog 113 #[.string s] w (q2z (if isDirS s then some (q11z s 4) else none) w):=by
 have hd:=fun W:World=>redecode_any W s
 unfold EDec at hd
 by_cases hdir:isDirS s
 rotate_left
 ·rw[if_neg hdir,if_neg hdir] at hd
  have HNo:Hid (∀w',Below w.heap.size w w'→q2z (if isDirS s then some (q11z s 4) else none) w (.returned (.tuple #[.string ⟨#[]⟩,.bool false])) w'):=fun w' hb=>told_no hdir hb
  obtain⟨Q,hQ⟩:=zx (q2z (if isDirS s then some (q11z s 4) else none) w)
  rw[hQ] at HNo ⊢
  have h0:dirA s 0=#[.int .i64 0,.string ⟨#[]⟩,.int .i64 0,.string ⟨#[]⟩,.int .i64 0,.string ⟨#[]⟩,.int .i64 0,.string ⟨#[]⟩]:=rfl
  rw[h0] at hd
  have HD:=zh hd
  clear hd
  clear hdir hQ hs h0
  go_enter Tryz.func113,Tryz.ntmps113
  go_wp2_with fail
  refine(HD.out _).mono ?_
  rintro e w1 ⟨rfl,hb1⟩
  go_wp2
  first | exact HNo.out _ (bl1 hb1 _) | (go_ret2; exact HNo.out _ (bl1 hb1 _))
 rw[if_pos hdir,if_pos hdir] at hd
 have HYes:Hid (∀w',Below w.heap.size w w'→q2z (if isDirS s then some (q11z s 4) else none) w (.returned (.tuple #[.string (ofL (q11z s 4)),.bool true])) w'):=fun w' hb=>told_yes hdir hb
 obtain⟨Q,hQ⟩:=zx (q2z (if isDirS s then some (q11z s 4) else none) w)
 rw[hQ] at HYes ⊢
 have HS:=zh hs
 have HDir:=zh hdir
 have HW:Hid ((⟨#[100,105,114]⟩:ByteArray)=ofL (q11z s 0)):=rfl
 have HT0:Hid ((⟨#[]⟩:ByteArray)=ofL (q12z s 0)):=rfl
 have HCe:Hid (∀k,k<4→(dirA s 4)[k*2]? = some (.int .i64 (slotOf s k).inode)∧(dirA s 4)[k*2+1]? = some (.string (slotOf s k).name)):=fun k hk=>dir_cell hk (Nat.le_refl _)
 obtain⟨DA,hDA⟩:=zx (dirA s 4)
 have hd2:=hd
 rw[hDA] at HCe
 unfold dirA dirL at hd
 simp only[if_pos (show 0<4 by omega),if_pos (show 1<4 by omega),if_pos (show 2<4 by omega),if_pos (show 3<4 by omega)] at hd
 have hDA2:(#[.int .i64 (slotOf s 0).inode,.string (slotOf s 0).name,.int .i64 (slotOf s 1).inode,.string (slotOf s 1).name,.int .i64 (slotOf s 2).inode,.string (slotOf s 2).name,.int .i64 (slotOf s 3).inode,.string (slotOf s 3).name]:Array Value)=DA:=hDA
 have HDA:=zh hDA2
 have HD:=zh hd
 clear hd
 clear hQ hdir hs hd2 hDA hDA2
 go_enter Tryz.func113,Tryz.ntmps113
 go_wp2_with fail
 refine(HD.out _).mono ?_
 rintro e w1 ⟨rfl,hb1⟩
 obtain⟨W2,hW2⟩:=zx (w1.alloc (.cells #[.int .i64 (slotOf s 0).inode,.string (slotOf s 0).name,.int .i64 (slotOf s 1).inode,.string (slotOf s 1).name,.int .i64 (slotOf s 2).inode,.string (slotOf s 2).name,.int .i64 (slotOf s 3).inode,.string (slotOf s 3).name] 155))
 have HB2:Hid (Below w.heap.size w W2):=by rw[←hW2]; exact bl1 hb1 _
 have HZ2:Hid (W2.heap[w1.heap.size]? = some (.cells DA 155 (0,0))):=by rw[←HDA.out,←hW2]; exact heapNew w1 _
 have HBr:Hid (Below W2.heap.size W2 W2):=Below.refl _ _
 clear hb1
 go_wp2_with fail
 clear hW2
 go_loopw [6,7,8] (fun l t i wr=>∃k:Nat,k≤4∧i = .int .i64 (k:Int)∧l = .string (ofL (q11z s k))∧t = .string (ofL (q12z s k))∧Hid (Below W2.heap.size W2 wr)) (fun _ _ i _=>4-(intOf i).toNat)
 case atStart=>exact⟨0,Nat.zero_le _,rfl,congrArg Value.string HW.out,congrArg Value.string HT0.out,HBr⟩
 case round=>
  obtain⟨k,hk,rfl,rfl,rfl,HB⟩:=hrel
  by_cases hlt:k<4
  ·have hlt2:(k:Int)<4:=by omega
   have hk0:(0:Int)≤(k:Int):=by omega
   have hok:=(HDir.out.2 k hlt).1
   have hmay:=hok.2.1
   have hsl:=hok.2.2
   obtain⟨hn0,hn1,hnz⟩:=may_bd hmay
   have hce:=HCe.out k hlt
   have hln:=slotAt_length HS.out hlt
   have hlk:=slotsL_length HS.out (show k≤4 by omega)
   have hwn:=wordsL_snoc s k
   have hsn:=slotsL_snoc s k
   obtain⟨⟨n,N⟩,hx⟩:∃x,slotOf s k=x:=⟨_,rfl⟩
   rw[hx] at hmay hsl hn0 hn1 hnz hce hwn
   rw[←hsl] at hln hsn
   simp only at hn0 hn1 hnz hce
   obtain⟨n,rfl⟩:∃q:Nat,n=(q:Int):=⟨n.toNat,by omega⟩
   have hput:=fun(W:World)=>reput_any W (k:Int) ⟨(n:Int),N⟩ (by unfold maxLen; show N.size≤_; omega)
   unfold EPut eV at hput
   rw[if_neg (by omega),if_pos hmay] at hput
   obtain⟨p,hp⟩:∃p:Int,(k:Int)*16=p:=⟨_,rfl⟩
   rw[hp] at hput
   have hct:=text_cat (q12z s k) (slotL ⟨(n:Int),N⟩)
   rw[←hsn] at hct
   have z1:(ofL (q12z s k)).size≤64:=by rw[ofL_size,hlk]; omega
   have z2:(ofL (slotL ⟨(n:Int),N⟩)).size=16:=by rw[ofL_size,hln]
   have hzw:=wordsL_le s k
   have hzs:=slotW_le s k
   rw[hx] at hzs
   have z3:(ofL (q11z s k)).size≤1000:=by rw[ofL_size]; omega
   have hcat2:=text_cat (q11z s k) (32 :: slotW ⟨(n:Int),N⟩)
   rw[←hwn] at hcat2
   have hw0:n=0→ofL (32 :: slotW ⟨(n:Int),N⟩)=(⟨#[32,45]⟩:ByteArray):=fun h=>by rw[h]; rfl
   have hw1:0<n→(⟨#[32]⟩:ByteArray) ++ ofL (digitsL n) ++ (⟨#[58]⟩:ByteArray) ++ ofL (hexL N.data.toList)=ofL (32 :: slotW ⟨(n:Int),N⟩):=fun h=>by
    rw[slotW_one h]
    show ofL [32] ++ ofL (digitsL n) ++ ofL [58] ++ ofL (hexL N.data.toList)=_
    rw[text_cat,text_cat,text_cat]
    congr 1
    simp only[List.append_assoc,List.cons_append,List.nil_append]
   obtain⟨S,hS⟩:=zx (ofL (slotL ⟨(n:Int),N⟩))
   obtain⟨T,hT⟩:=zx (ofL (q12z s k))
   obtain⟨T2,hT2⟩:=zx (ofL (q12z s (k+1)))
   obtain⟨X,hX⟩:=zx (ofL (32 :: slotW ⟨(n:Int),N⟩))
   obtain⟨L,hL⟩:=zx (ofL (q11z s k))
   obtain⟨M,hM⟩:=zx (ofL (q11z s (k+1)))
   rw[hS] at hput hct z2
   rw[hT] at hct z1 ⊢
   rw[hT2] at hct
   rw[hX] at hcat2 hw0 hw1
   rw[hL] at hcat2 z3 ⊢
   rw[hM] at hcat2
   have zX:X.size≤101:=by rw[←hX,ofL_size,List.length_cons]; omega
   have hl1:¬9223372036854775807<L.size+X.size:=by omega
   have hl2:¬9223372036854775807<T.size+S.size:=by omega
   have HMM:=zh hM
   have HTT:=zh hT2
   have HN:=zh hnz
   have HW0:=zh hw0
   have HW1:=zh hw1
   have HKX:Hid (∀W,Below W2.heap.size W2 W→W.cell? ⟨w1.heap.size,k*2,none⟩=some (.int .i64 (n:Int))∧W.cell? ⟨w1.heap.size,k*2+1,none⟩=some (.string N)):=fun W hW=>⟨cellOf (heapOld hW HZ2.out) hce.1,cellOf (heapOld hW HZ2.out) hce.2⟩
   obtain⟨x0,x1⟩:=HKX.out wr HB.out
   have HPUT:=zh hput
   clear hput
   clear hn0 hS hT hT2 hX hL hM hzw hzs hwn hsl hok hmay hx hln hlk hsn hp hw0 hw1 hnz z1 z2 z3 zX hce
   by_cases hn:0<n
   rotate_left
   focus
    have hX0:=HW0.out (by omega)
    have f0:((n:Int) == 0)=true:=beq_iff_eq.2 (by omega)
    have hc0:L ++ (⟨#[32,45]⟩:ByteArray)=M:=by rw[←hX0]; exact hcat2
    have hl0:¬9223372036854775807<L.size+2:=by rw[hX0] at hl1; exact hl1
    go_wp2_with fail
    clear hc0 hX0
    obtain⟨w5,hw5⟩:=zx (wr)
    have HB5:Hid (Below W2.heap.size W2 w5):=by rw[←hw5]; exact HB
    rw[hw5]
    clear hw5
   rotate_left
   focus
    have f0:((n:Int) == 0)=false:=beq_eq_false_iff_ne.2 (by omega)
    have hnum:=fun(W:World)=>rdigits_any W n (by omega)
    have hhex:=fun W:World=>rhex_any W N (by have:=HN.out; omega)
    have hc1:=text_cat [32] (digitsL n)
    have hc2:=text_cat (32 :: digitsL n) [58]
    have q1:(ofL (digitsL n)).size≤19:=by rw[ofL_size]; exact q9z (by omega)
    have q2:(ofL (32 :: digitsL n)).size≤20:=by rw[ofL_size,List.length_cons]; rw[ofL_size] at q1; omega
    have q4:(ofL (32 :: digitsL n ++ [58])).size≤21:=by rw[ofL_size,List.length_append,List.length_cons,List.length_singleton]; rw[ofL_size] at q1; omega
    have q3:(ofL (hexL N.data.toList)).size≤26:=by
     rw[ofL_size,q26z]
     have:N.data.toList.length=N.size:=Array.length_toList
     have:=HN.out
     omega
    have hc3:=HW1.out hn
    change ofL [32] ++ ofL (digitsL n) ++ ofL [58] ++ ofL (hexL N.data.toList)=X at hc3
    change ofL [32] ++ ofL (digitsL n)=ofL (32 :: digitsL n) at hc1
    rw[hc1,hc2] at hc3
    obtain⟨D,hD⟩:=zx (ofL (digitsL n))
    obtain⟨D1,hD1⟩:=zx (ofL (32 :: digitsL n))
    obtain⟨DX,hDX⟩:=zx (ofL (32 :: digitsL n ++ [58]))
    obtain⟨H,hH⟩:=zx (ofL (hexL N.data.toList))
    rw[hD] at hnum hc1 q1
    rw[hD1] at hc1 hc2 q2
    rw[hDX] at hc2 hc3 q4
    rw[hH] at hhex hc3 q3
    change (⟨#[32]⟩:ByteArray) ++ D=D1 at hc1
    change D1 ++ (⟨#[58]⟩:ByteArray)=DX at hc2
    have hl5:¬9223372036854775807<1+D.size:=by omega
    have hl3:¬9223372036854775807<D1.size+1:=by omega
    have hl4:¬9223372036854775807<DX.size+H.size:=by omega
    have HNUM:=zh hnum
    have HHEX:=zh hhex
    clear hnum hhex
    clear hD hD1 hDX hH q1 q2 q3 q4
    go_upto_region 11 with fail
    clear x0 x1
    go_region_held3 (fun W=>W.cell? ⟨w1.heap.size,k*2,none⟩=some (.int .i64 (n:Int))∧W.cell? ⟨w1.heap.size,k*2+1,none⟩=some (.string N))
     ((refine HKX.out _ ?_; repeat' first | with_reducible exact HB.out | with_reducible exact HBa.out | with_reducible exact HB5.out | with_reducible refine blD ?_ | with_reducible refine bl1 ?_ _))
     (first
       | (go_at_call 22
          refine(HNUM.out _).mono ?_
          rintro e wa ⟨rfl,hba⟩
          have HBa:Hid (Below W2.heap.size W2 wa):=blN (by repeat' first | with_reducible exact HB.out | with_reducible refine blD ?_ | with_reducible refine bl1 ?_ _) hba
          clear hba
          simp only)
       | (go_at_call 61
          refine(HHEX.out _).mono ?_
          rintro e w5 ⟨rfl,hb5⟩
          have HB5:Hid (Below W2.heap.size W2 w5):=blN (by repeat' first | with_reducible exact HBa.out | with_reducible refine blD ?_ | with_reducible refine bl1 ?_ _) hb5
          clear hb5
          simp only))
    all_goals
     obtain⟨x0,x1⟩:=HKX.out w5 HB5.out
     go_wp2_with fail
   all_goals
    refine(HPUT.out _).mono ?_
    rintro e w6 ⟨rfl,hb6⟩
    have HB6:=zh (blN HB5.out hb6)
    clear hb6
    obtain⟨W7,hW7⟩:=zx (w6.alloc (.cells #[.int .i64 p,.string S] 99))
    have HB7:Hid (Below W2.heap.size W2 W7):=by rw[←hW7]; exact bl1 HB6.out _
    have hz7:W7.heap[w6.heap.size]? = some (.cells #[.int .i64 p,.string S] 99 (0,0)):=by rw[←hW7]; exact heapNew w6 _
    have p1:=zc 1 hz7
    clear hz7
    go_wp2
    go_roundw
    case rel=>exact⟨k+1,by omega,by go_num,by rw[HMM.out],by rw[HTT.out],HB7⟩
    case measure=>simp[intOf]; omega
  ·obtain rfl:k=4:=by omega
   have hlt2:¬(4:Int)<4:=by omega
   rw[slotsL_all HS.out]
   have fs:(s.toList == s.toList)=true:=beq_self_eq_true _
   go_wp2
   first | exact HYes.out _ (blN HB2.out HB.out) | (go_ret2; exact HYes.out _ (blN HB2.out HB.out))
end
