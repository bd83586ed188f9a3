import Derived.Test.YtgofmnhfajmbfaaGreatDoorBmE
set_option maxRecDepth 20000
set_option maxHeartbeats 4000000
namespace Go.Proofs.YtgofmnhfajmbfaaGreatDoor
open Go Go.RowKit Txt Sp
def TabOk (w : World) : Prop := Lib.TabIs Tryz.prog w "internal/strconv.uint64pow10" .u64 Lib.pow10Tab
theorem TabOk.below {w w':World} (h:TabOk w) (hb:Below w.heap.size w w'):TabOk w':=(Lib.tabBelow_of_tabIs h) w' hb
theorem nDigits_le:∀(k u:Nat),1≤k→u<10 ^ k→Lib.nDigits u≤k
 | 0,_,h,_=>absurd h (by decide)
 | 1,u,_,hu=>by rw[Lib.nDigits_small (by simpa using hu)]; exact Nat.le_refl _
 | k+2,u,_,hu=>by
   by_cases h:u<10
   ·rw[Lib.nDigits_small h]; omega
   ·rw[Lib.nDigits_big h]
    have:=nDigits_le (k+1) (u / 10) (by omega) (by rw[Nat.pow_succ] at hu; omega)
    omega
theorem q41z {n:Nat} (h:n<9223372036854775808):(q3z n).length≤19:=by
 unfold q3z
 rw[Lib.decDigits_length]
 exact nDigits_le 19 n (by decide) (Nat.lt_of_lt_of_le h (by decide))
theorem q74z:∀l:List Nat,(∀n∈l,n<9223372036854775808)→(listL l).length≤20*l.length
 | [],_=>by simp[listL]
 | a :: r,h=>by
   have h1:=q41z (h a (List.mem_cons_self ..))
   have h2:=q74z r (fun n hn=>h n (List.mem_cons_of_mem _ hn))
   unfold listL at h2 ⊢
   rw[List.flatMap_cons,List.length_append,List.length_cons,List.length_cons]
   omega
theorem listL_snoc (l:List Nat) (n:Nat):listL (l ++ [n])=listL l ++ 32 :: q3z n:=by
 unfold listL
 rw[List.flatMap_append,List.flatMap_cons,List.flatMap_nil,List.append_nil]
section
theorem dnumber_any (w:World) (n:Nat) (hn:n<9223372036854775808) (ht:TabOk w):Calls Tryz.prog 159 #[.int .i64 (n:Int)] w fun e w'=>e = .returned (.string (ofL (q3z n)))∧Below w.heap.size w w':=by
 have h:=Tryz.strconv_Itoa (n:Int) (by omega) (by omega) w ht
 rw[Lib.itoa_nonneg] at h
 change Calls _ _ _ _ fun e w'=>e = .returned (.string (ofL (q3z n)))∧_ at h
 obtain⟨T,hT⟩:=zx (ofL (q3z n))
 rw[hT] at h ⊢
 have H:=zh h
 clear h
 clear hT hn ht
 go_enter Tryz.func159,Tryz.ntmps159
 go_wp2_with fail
 refine H.out.mono ?_
 rintro e w1 ⟨rfl,k,os,hw1⟩
 have HB:Hid (Below w.heap.size w w1):=by rw[hw1]; exact Lib.below_grow _ _ (Nat.le_refl _) _ _
 clear hw1
 go_wp2
 go_ret
 exact⟨rfl,HB.out⟩
theorem q69z (w:World) (s:List UInt8) (v:Value) (l:List Nat) (hv:Ints w v (l.map (fun n:Nat=>(n:Int)))) (hs:s.length≤4000) (hl:l.length≤1000) (hall:∀n∈l,n<9223372036854775808) (ht:TabOk w):Calls Tryz.prog 221 #[.string (ofL s),v] w fun e w'=>e = .returned (.string (ofL (s ++ listL l)))∧Below w.heap.size w w':=by
 unfold Ints at hv
 rw[List.map_map] at hv
 obtain⟨ad,n,cap,rfl,HN,hn2,HF⟩:=RowAt.facts (f:=(fun n:Int=>[Value.int .i64 n]) ∘ fun n:Nat=>(n:Int)) hv
 clear hv
 have hn1000:n≤1000:=by rw[HN.out]; exact hl
 have HAll:=zh hall
 have HT:=zh ht
 have HSz:Hid (∀k,(s ++ listL (l.take k)).length≤24000):=fun k=>by
  have h1:=q74z (l.take k) (fun n hn=>hall n (List.mem_of_mem_take hn))
  have h2:(l.take k).length≤l.length:=List.length_take_le' _ _
  rw[List.length_append]
  omega
 have HW:Hid (ofL s=ofL (s ++ listL (l.take 0))):=by
  show _=_
  rw[List.take_zero]
  unfold listL
  rw[List.flatMap_nil,List.append_nil]
 clear hall ht hs hl
 rw[HW.out]
 go_enter Tryz.func221,Tryz.ntmps221
 go_wp2
 go_loopw [0,9] (fun t i wr=>∃k:Nat,k≤n∧i = .int .i64 k∧t = .string (ofL (s ++ listL (l.take k)))∧Hid (Below w.heap.size w wr)) (fun _ i _=>n-(intOf i).toNat)
 case atStart=>exact⟨0,Nat.zero_le _,rfl,rfl,zh (Below.refl _ _)⟩
 case round=>
  obtain⟨k,hk,rfl,rfl,HB⟩:=hrel
  clear HW
  by_cases hlt:k<n
  ·obtain⟨b,o,x,rfl,hb,hx,hc⟩:=HF.out k hlt
   have c0:wr.cell? ⟨b,o+k,none⟩=some (.int .i64 (x:Int)):=by
    have h:=(HB.out.cell (p:=⟨b,o+k*1+0,none⟩) hb).trans (hc 0 _ rfl)
    simpa using h
   have hnum:=dnumber_any wr x (HAll.out x (List.mem_of_getElem? hx)) (HT.out.below HB.out)
   have hcat1:=q20z [32] (q3z x)
   have hcat2:=q20z (s ++ listL (l.take k)) (32 :: q3z x)
   have he:s ++ listL (l.take k) ++ 32 :: q3z x=s ++ listL (l.take (k+1)):=by
    rw[q72z hx,listL_snoc,List.append_assoc]
   rw[he] at hcat2
   have hz1:=HSz.out k
   have hz2:=HSz.out (k+1)
   rw[←q9z] at hz1 hz2
   have hz3:(ofL (q3z x)).size≤19:=by rw[q9z]; exact q41z (HAll.out x (List.mem_of_getElem? hx))
   have hz4:(ofL (32 :: q3z x)).size≤20:=by rw[q9z,List.length_cons]; have:=q41z (HAll.out x (List.mem_of_getElem? hx)); omega
   obtain⟨D,hD⟩:=zx (ofL (q3z x))
   obtain⟨E,hE⟩:=zx (ofL (32 :: q3z x))
   change ofL [32] ++ ofL (q3z x)=ofL (32 :: q3z x) at hcat1
   rw[hD] at hnum hcat1 hz3
   rw[hE] at hcat1 hcat2 hz4
   obtain⟨A,hA⟩:=zx (ofL (s ++ listL (l.take k)))
   obtain⟨C,hC⟩:=zx (ofL (s ++ listL (l.take (k+1))))
   rw[hA] at hcat2 hz1 ⊢
   rw[hC] at hcat2 hz2
   change (⟨#[32]⟩:ByteArray) ++ D=E at hcat1
   have HC:=zh hC
   have HNUM:=zh hnum
   clear hnum
   clear hc hx he hD hE hA hC
   go_wp2_with fail
   refine HNUM.out.mono ?_
   rintro e w2 ⟨rfl,hb2⟩
   have HB2:=zh (blN HB.out hb2)
   clear hb2
   go_wp2
   go_roundw
   case rel=>exact⟨k+1,by omega,by go_num,by rw[HC.out],HB2⟩
   case measure=>simp[intOf]; omega
  ·have htk:l.take k=l:=List.take_of_length_le (by have:=HN.out; omega)
   have HTK:=zh htk
   clear htk
   go_wp2
   go_ret
   exact⟨ret_s (by rw[HTK.out]),HB.out⟩
end
theorem hexL_snoc (l:List UInt8) (c:UInt8):hexL (l ++ [c])=hexL l ++ [hexD (c.toNat / 16)] ++ [hexD (c.toNat % 16)]:=by
 unfold hexL
 rw[List.flatMap_append,List.flatMap_cons,List.flatMap_nil,List.append_nil,List.append_assoc]
 rfl
theorem q92z (l:List UInt8):(hexL l).length=2*l.length:=by
 induction l with
 | nil=>rfl
 | cons a r ih=>
   unfold hexL at ih ⊢
   rw[List.flatMap_cons,List.length_append,ih]
   show 2+2*r.length=2*(r.length+1)
   omega
theorem hex_at (W:World):∀q:Nat,q<16→(Instr.index 9 (.string ⟨#[48,49,50,51,52,53,54,55,56,57,97,98,99,100,101,102]⟩) (.int .u8 (q:Int))).run Tryz.prog W = .ok (.int .u8 ((hexD q).toNat:Int)) W
 | 0,_=>by kernel_rfl
 | 1,_=>by kernel_rfl
 | 2,_=>by kernel_rfl
 | 3,_=>by kernel_rfl
 | 4,_=>by kernel_rfl
 | 5,_=>by kernel_rfl
 | 6,_=>by kernel_rfl
 | 7,_=>by kernel_rfl
 | 8,_=>by kernel_rfl
 | 9,_=>by kernel_rfl
 | 10,_=>by kernel_rfl
 | 11,_=>by kernel_rfl
 | 12,_=>by kernel_rfl
 | 13,_=>by kernel_rfl
 | 14,_=>by kernel_rfl
 | 15,_=>by kernel_rfl
 | k+16,h=>absurd h (by omega)
theorem u8_and (x:Nat) (h:x<256):bits .and .u8 (x:Int) 15=((x % 16:Nat):Int):=by
 have:∀y:Fin 256,bits .and .u8 ((y.val:Nat):Int) 15=((y.val % 16:Nat):Int):=by decide +kernel
 exact this ⟨x,h⟩
section
theorem dhex_any (w:World) (s:ByteArray) (hs:s.size≤1000000):Calls Tryz.prog 227 #[.string s] w fun e w'=>e = .returned (.string (ofL (hexL s.data.toList)))∧Below w.heap.size w w':=by
 obtain⟨n,hn⟩:=zx (s.size)
 rw[hn] at hs
 have hl:s.data.toList.length=n:=by rw[Array.length_toList]; exact hn
 obtain⟨W0,hW0⟩:=zx (w.alloc (.cells #[.pointer none,.slice none 0 0] 222))
 have hz0:W0.heap[w.heap.size]? = some (.cells #[.pointer none,.slice none 0 0] 222 (0,0)):=by rw[←hW0]; exact q5z w _
 have hbl0:Below w.heap.size w W0:=by rw[←hW0]; exact bl2 _
 have hs0:W0.heap.size=w.heap.size+1:=by rw[←hW0]; simp
 obtain⟨cp,mk,hc1,hc2,hmk,hcv⟩:=run_text_bytes (P:=Tryz.prog) W0 s (by unfold maxLen; omega) Tryz.underlying9 Tryz.underlying47 Tryz.underlying5
 obtain⟨l0,hl0⟩:=zx (s.data.toList)
 rw[hl0] at hl hcv ⊢
 rw[hs0,hn] at hcv
 obtain⟨W1,hW1⟩:=zx (W0.drew.alloc (q31z (l0 ++ zeros (cp-n)) 5 mk))
 have hb1:Below W0.heap.size W0 W1:=by rw[←hW1]; exact(below_drewN (Below.refl _ _) 1).alloc (Nat.le_refl _) _
 have hz1:W1.heap[w.heap.size+1]? = some (q31z (l0 ++ zeros (cp-n)) 5 mk):=by rw[←hW1,←hs0]; exact q5z W0.drew _
 have hs1:W1.heap.size=w.heap.size+2:=by rw[←hW1]; simp[hs0]
 rw[hW1] at hcv
 have HRow:=zh hz1
 have HBd:Hid (Bld (w.heap.size+2) w.heap.size [] W1):=Bld.fresh (by omega) (q1z hb1 hz0)
 have HB1:Hid (Below w.heap.size w W1):=blN hbl0 hb1
 have HS1:=zh hs1
 have HL:=zh hl
 clear hz0 hbl0 hs0 hb1 hz1 hs1 hl hl0 hn hW1 hmk
 go_enter Tryz.func227,Tryz.ntmps227
 go_wp2_with fail
 have hlen:(l0 ++ zeros (cp-n)).length≥n:=by rw[List.length_append,HL.out]; omega
 have HLen:=zh hlen
 clear hlen
 go_loopw [9] (fun i wr=>∃k:Nat,k≤n∧i = .int .i64 k∧Hid (wr.heap[w.heap.size+1]? = some (q31z (l0 ++ zeros (cp-n)) 5 mk))∧Hid (Bld (w.heap.size+2) w.heap.size (hexL (l0.take k)) wr)∧Hid (Below w.heap.size w wr)∧Hid (w.heap.size+2≤wr.heap.size)) (fun i _=>n-(intOf i).toNat)
 case atStart=>exact⟨0,Nat.zero_le _,rfl,HRow,HBd,HB1,zh (by rw[HS1.out]; exact Nat.le_refl _)⟩
 case round=>
  obtain⟨k,hk,rfl,HR,HBl,HB,HSz⟩:=hrel
  clear HRow HBd HB1 HS1 hcv
  by_cases hlt:k<n
  ·have hkl:k<l0.length:=by rw[HL.out]; exact hlt
   have c0:=bytes_cell HR.out (p:=k) (by have:=HLen.out; omega)
   rw[List.getElem_append_left hkl] at c0
   obtain⟨c,hc⟩:=zx (l0[k])
   rw[hc] at c0
   have hcb:=UInt8.toNat_lt c
   have hsn:hexL (l0.take k) ++ [hexD (c.toNat / 16)] ++ [hexD (c.toNat % 16)]=hexL (l0.take (k+1)):=by
    rw[←hexL_snoc,q72z (List.getElem?_eq_getElem hkl),hc]
   obtain⟨x,hx⟩:=zx (c.toNat)
   rw[hx] at c0 hcb hsn
   have hle:(hexL (l0.take k)).length≤2000000:=by
    rw[q92z]
    have:(l0.take k).length≤k:=List.length_take_le _ _
    omega
   have ha:bits .and .u8 (x:Int) 15=(x:Int) % 16:=u8_and x hcb
   have hi1:∀W:World,(Instr.index 9 (.string ⟨#[48,49,50,51,52,53,54,55,56,57,97,98,99,100,101,102]⟩) (.int .u8 ((x:Int) / 16))).run Tryz.prog W = .ok (.int .u8 ((hexD (x / 16)).toNat:Int)) W:=fun W=>hex_at W (x / 16) (by omega)
   have hi2:∀W:World,(Instr.index 9 (.string ⟨#[48,49,50,51,52,53,54,55,56,57,97,98,99,100,101,102]⟩) (.int .u8 ((x:Int) % 16))).run Tryz.prog W = .ok (.int .u8 ((hexD (x % 16)).toNat:Int)) W:=fun W=>hex_at W (x % 16) (by omega)
   have HW1:=zh (bbyte_any (w.heap.size+2) w.heap.size (hexL (l0.take k)) (hexD (x / 16)) wr HBl.out (by omega) HSz.out)
   have HSN:=zh hsn
   have HLe:=zh hle
   clear hkl hc hx hsn hle
   go_wp2_with fail
   refine HW1.out.mono ?_
   rintro e w2 ⟨rfl,hbd2,hk2⟩
   have HR2:=zh ((hk2.block (w.heap.size+1) (by omega) (by omega)).trans HR.out)
   have HB2:=zh (HB.out.trans (hk2.below (Nat.le_refl _) (by omega)))
   have HSz2:Hid (w.heap.size+2≤w2.heap.size):=Nat.le_trans HSz.out hk2.size
   have HW2:=zh (bbyte_any (w.heap.size+2) w.heap.size _ (hexD (x % 16)) w2 hbd2 (by rw[List.length_append]; have:=HLe.out; show _+1+1≤_; omega) HSz2.out)
   clear hbd2 hk2 hi1 HW1
   go_wp2_with fail
   with_reducible refine HW2.out.mono ?_
   rintro e w3 ⟨rfl,hbd3,hk3⟩
   rw[HSN.out] at hbd3
   have HR3:=zh ((hk3.block (w.heap.size+1) (by omega) (by omega)).trans HR2.out)
   have HB3:=zh (HB2.out.trans (hk3.below (Nat.le_refl _) (by omega)))
   have HSz3:Hid (w.heap.size+2≤w3.heap.size):=Nat.le_trans HSz2.out hk3.size
   have HBd3:=zh hbd3
   clear hbd3 hk3 hi2 HW2
   go_wp2
   go_roundw
   case rel=>exact⟨k+1,by omega,by go_num,HR3,HBd3,HB3,HSz3⟩
   case measure=>simp[intOf]; omega
  ·have htk:l0.take k=l0:=List.take_of_length_le (by rw[HL.out]; omega)
   have hb:=HBl.out
   rw[htk] at hb
   have HSt:=zh (bstring_any _ _ _ wr hb (by have:=HSz.out; omega))
   clear htk hb
   go_wp2_with fail
   refine HSt.out.mono ?_
   rintro e w2 ⟨rfl,hb2⟩
   have HB2:=zh (HB.out.trans hb2)
   clear hb2
   go_wp2
   go_ret
   exact⟨rfl,HB2.out⟩
theorem dkind_any (w:World) (k:Int):Calls Tryz.prog 269 #[.int .i64 k] w fun e w'=>e = .returned (.string (ofL (kindL k)))∧w=w':=by
 by_cases h1:k=1
 ·subst h1
  go_enter Tryz.func269,Tryz.ntmps269
  go_wp2
  go_ret
  exact⟨rfl,rfl⟩
 by_cases h2:k=2
 ·subst h2
  go_enter Tryz.func269,Tryz.ntmps269
  go_wp2
  go_ret
  exact⟨rfl,rfl⟩
 ·have hk:kindL k=wFree:=by unfold kindL; rw[if_neg h1,if_neg h2]
  have f1:(k == 1)=false:=beq_eq_false_iff_ne.2 h1
  have f2:(k == 2)=false:=beq_eq_false_iff_ne.2 h2
  rw[hk]
  clear h1 h2 hk
  go_enter Tryz.func269,Tryz.ntmps269
  go_wp2
  go_ret
  exact⟨rfl,rfl⟩
end
