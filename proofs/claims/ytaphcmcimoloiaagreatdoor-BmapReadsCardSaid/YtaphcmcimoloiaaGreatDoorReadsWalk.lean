/-
 BmapReads: the walk.
-/
import Derived.Test.YtaphcmcimoloiaaGreatDoorTk
import Derived.Test.YtaphcmcimoloiaaGreatDoorReadsMem
import Derived.Test.YtaphcmcimoloiaaGreatDoorOpenDos
namespace Go.Proofs.YtaphcmcimoloiaaGreatDoor
open Go Go.RowKit Txt Sp
theorem TxtV.text {w:World} {lo:Nat} {D:Nat→Prop} {v:Value} {t:List UInt8} (h:TxtV w lo D v t):(convert 53 9 v).run Tryz.prog w = .ok (.string (ofL t)) w:=by
 rcases h with ⟨rfl,rfl⟩ | ⟨b,rfl,h1,-,-⟩
 ·kernel_rfl
 ·exact run_bytes_text (P:=Tryz.prog) w (src:=53) (dst:=9) (z:=[]) (l:=t) (n:=t.length) Tryz.underlying53 Tryz.underlying5 Tryz.underlying9 (by rw [List.append_nil]; exact h1) rfl t.length
theorem RM.text {w wr:World} {B Bd tb gb:Nat} {g:Sp.Geom} {S:Sp.Side} {D:Nat→Prop} {t0 t1:List UInt8} (h:RM w B Bd tb gb g S D t0 t1 wr) (k:Bool):∃v,wr.cell? ⟨tb,if k then 1 else 0,none⟩=some v∧(convert 53 9 v).run Tryz.prog wr = .ok (.string (ofL (if k then t1 else t0))) wr:=by
 obtain ⟨ad,h1,h2⟩:=h.tm.read k
 exact ⟨_,h1,h2.text⟩
section
set_option maxHeartbeats 8000000
set_option maxRecDepth 20000 in
theorem reads_any (w:World) (two:Bool) (v:Value) (l:List Do4) (ha:DosAt w v l):Calls Tryz.prog 8 #[.bool two,v] w fun e w'=>e = .returned (.bool true)∧Below w.heap.size w w':=by
 obtain ⟨ad,len,cap,rfl,HN,hn2,HFa⟩:=RowAt.facts ha.1
 have HIn:=Lib.hid ha.2
 have hgr:=fun W:World=>ground_any W two
 obtain ⟨g,hg0⟩:∃g,ground16 two=g:=⟨_,rfl⟩
 have hg:g.ok:=by rw [←hg0]; cases two <;> decide
 have h3:3≤g.inodes:=by rw [←hg0]; cases two <;> decide
 obtain ⟨n,hn,hn1⟩:∃n:Nat,g.groups=(n:Int)∧n≤1000:=by
  rw [←hg0]
  cases two
  ·exact ⟨1,rfl,by omega⟩
  ·exact ⟨2,rfl,by omega⟩
 rw [hg0] at hgr
 have hld:=fun W:World=>laid16z_any W hg h3
 have hwk:=fun W:World=>works16_any W
 have hst:=texts_start hg h3
 obtain ⟨S0,hS0⟩:∃S,plainS (laid16L g) 0 0=S:=⟨_,rfl⟩
 have hdl:S0.disk.last=0:=by rw [←hS0]; rfl
 rw [hS0] at hld hst
 have heq:=eql_disk_nil
 have heq2:=eql_soft_nil
 -- the law's calls
 have hdone:=fun (wr:World) (B Bd tb gb:Nat) (S:Sp.Side) (D:Nat→Prop) (t0 t1:List UInt8) (m:Nat) (h:RM w B Bd tb gb g S D t0 t1 wr) (ht:Texts2 g S t0 t1 m) (hm:m<12) (k:Bool) (off:Int) (x:ByteArray) (p:Value)=>h.done hg h3 ht hm k off x p n hn hn1
 have hflush:=fun (wr:World) (B Bd tb gb:Nat) (S:Sp.Side) (D:Nat→Prop) (t0 t1:List UInt8) (m:Nat) (h:RM w B Bd tb gb g S D t0 t1 wr) (ht:Texts2 g S t0 t1 m) (hl:S.disk.last≤1024*12) (v:Value) (P:List Int) (hp:Ints w v P)=>h.flushT ht hl v P hp
 have hread:=fun (wr:World) (B Bd tb gb:Nat) (S:Sp.Side) (D:Nat→Prop) (t0 t1:List UInt8) (h:RM w B Bd tb gb g S D t0 t1 wr) (hr:ReadsAs g S t0 t1) (k:Bool)=>h.read hr k
 have has:=fun (S:Sp.Side) (t0 t1:List UInt8) (m:Nat) (h:Texts2 g S t0 t1 m)=>readsAs hg h3 h
 have hdrain:=fun (wr:World) (B Bd tb gb:Nat) (S:Sp.Side) (D:Nat→Prop) (t0 t1:List UInt8) (m:Nat) (h:RM w B Bd tb gb g S D t0 t1 wr) (ht:Texts2 g S t0 t1 m) (hm:m≤12) (hl:S.disk.last≤1024*12)=>h.drainedT hg h3 ht hm hl
 have hraw:=fun (wr:World) (B Bd tb gb:Nat) (S:Sp.Side) (D:Nat→Prop) (t0 t1:List UInt8) (h:RM w B Bd tb gb g S D t0 t1 wr)=>h.raw
 obtain ⟨ga,gb',gc⟩:=g
 unfold gV pt doV at *
 dsimp only at *
 have HGR:=Lib.hid hgr
 have HLD:=Lib.hid hld
 have HWK:=Lib.hid hwk
 have HST:=Lib.hid hst
 have HDL:=Lib.hid hdl
 have HDONE:=Lib.hid hdone
 have HFLUSH:=Lib.hid hflush
 have HREAD:=Lib.hid hread
 have HAS:=Lib.hid has
 have HDRAIN:=Lib.hid hdrain
 have HRAW:=Lib.hid hraw
 clear hgr hld hwk hst hdl hdone hflush hread has hdrain hraw
 clear ha hS0 hg0 hg h3 hn hn1
 go_enter Tryz.func8,Tryz.ntmps8
 go_wp2_with fail
 refine (HGR.out _).mono ?_
 rintro e w1 ⟨rfl,hb1⟩
 obtain ⟨W2,hW2⟩:∃W,w1.alloc (.cells #[.int .i64 ga,.int .i64 gb',.int .i64 gc] 27)=W:=⟨_,rfl⟩
 have HB2:Hid (Below w.heap.size w W2):=blN hb1 (by rw [←hW2]; exact bl2 _)
 have HG2:Hid (W2.heap[w1.heap.size]? = some (.cells #[.int .i64 ga,.int .i64 gb',.int .i64 gc] 27 (0,0))):=by rw [←hW2]; exact heapNew w1 _
 have HZ2:Hid (w.heap.size≤w1.heap.size∧w1.heap.size<W2.heap.size):=⟨hb1.size,by rw [←hW2]; show _<_; simp⟩
 clear hb1
 have z0:=cellOf (k:=0) HG2.out rfl
 have z1:=cellOf (k:=1) HG2.out rfl
 have z2:=cellOf (k:=2) HG2.out rfl
 go_wp2_with fail
 clear z0 z1 z2 hW2
 refine (HLD.out _).mono ?_
 rintro e w3 ⟨B,Bd,D,rfl,hs3,hb3,hD3⟩
 have HS3:=Lib.hid hs3
 have HB3:=Lib.hid hb3
 have HD3:=Lib.hid hD3
 clear hs3 hb3 hD3
 go_wp2_with fail
 refine (HWK.out _).mono ?_
 rintro e w4 ⟨rfl,hb4⟩
 obtain ⟨W5,hW5⟩:∃W,w4.alloc (.cells #[.slice none 0 0,.slice none 0 0] 80)=W:=⟨_,rfl⟩
 have HRM:Hid (RM w B Bd w4.heap.size w1.heap.size ⟨ga,gb',gc⟩ S0 D [] [] W5):=by
  have hz:=HZ2.out
  have h3:=HB3.out.size
  have h4:=hb4.size
  have hb5:Below w4.heap.size w4 W5:=by rw [←hW5]; exact bl2 _
  have hd:=HD3.out
  have hb35:Below w3.heap.size w3 W5:=blN hb4 hb5
  refine ⟨⟨HS3.out.below hb35,fun j hj=>?_,fun j hj=>?_,by omega,fun hh=>?_,_,_,by rw [←hW5]; exact heapNew w4 _,Or.inl ⟨rfl,rfl⟩,Or.inl ⟨rfl,rfl⟩⟩,heapOld hb35 (heapOld HB3.out HG2.out),fun hh=>?_,blN HB2.out (blN HB3.out hb35)⟩
  ·have:=(hd j hj).2; have:=hb35.size; omega
  ·have:=(hd j hj).1; omega
  ·have:=(hd _ hh).2; omega
  ·have:=(hd _ hh).1; omega
 clear hb4 HS3 HB3 HD3 HB2 HG2 HZ2 HGR HLD HWK
 obtain ⟨tb,htb⟩:∃x,w4.heap.size=x:=⟨_,rfl⟩
 obtain ⟨gb,hgb⟩:∃x,w1.heap.size=x:=⟨_,rfl⟩
 rw [htb,hgb] at HRM
 go_wp2
 clear htb hgb hW5
 go_loopw [9] (fun q wr=>∃(k:Nat) (S:Sp.Side) (D:Nat→Prop) (t0 t1:List UInt8),k≤len∧k≤12∧q = .int .i64 (k:Int)∧Hid (RM w B Bd tb gb ⟨ga,gb',gc⟩ S D t0 t1 wr)∧Hid (Texts2 ⟨ga,gb',gc⟩ S t0 t1 k∧S.disk.last≤1024*k)) (fun q _=>12-(intOf q).toNat)
 case atStart=>exact ⟨0,S0,D,[],[],Nat.zero_le _,Nat.zero_le _,rfl,HRM,⟨HST.out,by rw [HDL.out]; exact Nat.zero_le _⟩⟩
 case round=>
  clear HRM HST HDL
  obtain ⟨k,S,D,t0,t1,hk,hk12,rfl,HM,HT⟩:=hrel
  by_cases hlt:k<len∧k<12
  ·obtain ⟨hl1,hl2⟩:=hlt
   obtain ⟨b,o,x,rfl,hb,hx,hc⟩:=HFa.out k hl1
   obtain ⟨-,-,P,hP⟩:=HIn.out x (List.mem_of_getElem? hx)
   obtain ⟨xk,xo,xd,xp⟩:=x
   dsimp only at hP
   have hall:∀W S D t0 t1,RM w B Bd tb gb ⟨ga,gb',gc⟩ S D t0 t1 W→(W.cell? ⟨gb,0,none⟩=some (.int .i64 ga)∧W.cell? ⟨gb,1,none⟩=some (.int .i64 gb')∧W.cell? ⟨gb,2,none⟩=some (.int .i64 gc)∧W.cell? ⟨b,o+k*4,none⟩=some (.bool xk)∧W.cell? ⟨b,o+k*4+1,none⟩=some (.int .i64 xo)∧W.cell? ⟨b,o+k*4+2,none⟩=some (.string xd)∧W.cell? ⟨b,o+k*4+3,none⟩=some xp):=fun W S D t0 t1 hM=>
    ⟨cellOf (k:=0) hM.box rfl,cellOf (k:=1) hM.box rfl,cellOf (k:=2) hM.box rfl,(hM.bel.cell (p:=⟨b,o+k*4,none⟩) hb).trans (hc 0 _ rfl),(hM.bel.cell (p:=⟨b,o+k*4+1,none⟩) hb).trans (hc 1 _ rfl),(hM.bel.cell (p:=⟨b,o+k*4+2,none⟩) hb).trans (hc 2 _ rfl),(hM.bel.cell (p:=⟨b,o+k*4+3,none⟩) hb).trans (hc 3 _ rfl)⟩
   have HAll:=Lib.hid hall
   have hMd:=HM.out.below (blD (Below.refl _ _):Below wr.heap.size wr wr.drew)
   have HDn:=Lib.hid (HDONE.out wr.drew B Bd tb gb S D t0 t1 k hMd HT.out.1 hl2 xk xo xd xp)
   have hSd:=HAll.out _ _ _ _ _ hMd
   have HP:=Lib.hid hP
   clear hall hx hc hb hMd hP HDONE
   go_upto_region 9 with fail
   refine wp_region_last (fun W=>W.cell? ⟨gb,0,none⟩=some (.int .i64 ga)∧W.cell? ⟨gb,1,none⟩=some (.int .i64 gb')∧W.cell? ⟨gb,2,none⟩=some (.int .i64 gc)∧W.cell? ⟨b,o+k*4,none⟩=some (.bool xk)∧W.cell? ⟨b,o+k*4+1,none⟩=some (.int .i64 xo)∧W.cell? ⟨b,o+k*4+2,none⟩=some (.string xd)∧W.cell? ⟨b,o+k*4+3,none⟩=some xp) 16 (by kernel_rfl) (by first | trivial | assumption) (fun hHeld hClosed=>?_)
   refine tkU 0 ?_; clear hClosed; intro hClosed; simp only [Act.put,ps0]
   refine tkU 1 ?_; clear hClosed; intro hClosed; simp only [Act.put,ps0]
   refine tkU 2 ?_; clear hClosed; intro hClosed; simp only [Act.put,ps0]
   refine tkU 3 ?_; clear hClosed; intro hClosed; simp only [Act.put,ps0]
   refine tkU 4 ?_; clear hClosed; intro hClosed; simp only [Act.put,ps0]
   refine tkU 5 ?_; clear hClosed; intro hClosed; simp only [Act.put,ps0]
   refine AnyU.each (is:=[6]) (by kernel_rfl) (by simp) (EachU.cons hClosed (by kernel_rfl) rfl (fun K hK=>?_) EachU.nil)
   try simp only [List.getElem_toArray,List.getElem_cons_zero,List.getElem_cons_succ]
   go_simp
   refine HDn.out.mono ?_
   rintro e w6 ⟨rfl,S6,D6,a0,a1,hM6,hT6,hd6⟩
   have hl6:S6.disk.last≤1024*k:=by rw [hd6]; exact HT.out.2
   have HFl:=Lib.hid (HFLUSH.out w6 B Bd tb gb S6 D6 a0 a1 (k+1) hM6 hT6 (by omega) xp P HP.out)
   have hS6:=HAll.out _ _ _ _ _ hM6
   clear hM6 hT6 hd6
   try simp only
   refine hK.out _ _ (fun _=>?hkS) (fun hHeld2 hClosed2=>?_)
   case hkS=>
    exact hS6
   clear hHeld; have hHeld:=hHeld2 (by decide)
   clear hK K hHeld2 hClosed; have hClosed:=hClosed2; clear hClosed2
   try simp only [Act.put,ps0]
   refine tkU 7 ?_; clear hClosed; intro hClosed; simp only [Act.put,ps0]
   refine tkU 8 ?_; clear hClosed; intro hClosed; simp only [Act.put,ps0]
   refine tkU 9 ?_; clear hClosed; intro hClosed; simp only [Act.put,ps0]
   refine tkU 10 ?_; clear hClosed; intro hClosed; simp only [Act.put,ps0]
   refine tkU 11 ?_; clear hClosed; intro hClosed; simp only [Act.put,ps0]
   refine tkU 12 ?_; clear hClosed; intro hClosed; simp only [Act.put,ps0]
   refine tkU 13 ?_; clear hClosed; intro hClosed; simp only [Act.put,ps0]
   refine tkU 14 ?_; clear hClosed; intro hClosed; simp only [Act.put,ps0]
   refine tkU 15 ?_; clear hClosed; intro hClosed; simp only [Act.put,ps0]
   refine AnyU.each (is:=[16]) (by kernel_rfl) (by simp) (EachU.cons hClosed (by kernel_rfl) rfl (fun K hK=>?_) EachU.nil)
   try simp only [List.getElem_toArray,List.getElem_cons_zero,List.getElem_cons_succ]
   go_simp
   refine HFl.out.mono ?_
   rintro e w7 ⟨rfl,S7,hM7,hT7,hd7⟩
   have hl7:S7.disk.last≤1024*(k+1):=by omega
   try simp only
   refine hK.out _ _ (fun h=>absurd h (by decide)) (fun _ hClosed2=>?_)
   clear hK K hClosed; have hClosed:=hClosed2; clear hClosed2
   try simp only [Act.put,ps0]
   refine pkU 17 ?_; clear hClosed; intro hClosed; simp only [Act.put,ps0]
   refine pkU 18 ?_; clear hClosed; intro hClosed; simp only [Act.put,ps0]
   refine AnyU.done (by kernel_rfl) ?_ _
   have HM7:=Lib.hid hM7
   have HT7:Hid (Texts2 ⟨ga,gb',gc⟩ S7 a0 a1 (k+1)∧S7.disk.last≤1024*(k+1)):=⟨hT7,hl7⟩
   have HAs:=Lib.hid (HAS.out S7 a0 a1 (k+1) hT7)
   clear hM7 hT7 hd7 hl7 hl6 hSd hS6 hHeld hClosed HFl HDn HAS HFLUSH HDRAIN HRAW HP
   go_wp2
   go_loopw [64] (fun q wr=>∃(j:Nat) (D:Nat→Prop),j≤2∧q = .int .i64 (j:Int)∧Hid (RM w B Bd tb gb ⟨ga,gb',gc⟩ S7 D a0 a1 wr)) (fun q _=>2-(intOf q).toNat)
   case atStart=>exact ⟨0,_,Nat.zero_le _,rfl,HM7⟩
   case round=>
    clear HM7
    obtain ⟨j,D7,hj,rfl,HMj⟩:=hrel
    rcases (show j=0∨j=1∨j=2 by omega) with rfl | rfl | rfl
    ·skip
     have HRd:=Lib.hid (HREAD.out _ B Bd tb gb S7 D7 a0 a1 HMj.out HAs.out false)
     have z:=HAll.out _ _ _ _ _ HMj.out
     obtain ⟨z0,z1,z2,-,-,-,-⟩:=z
     simp only [noK,Bool.false_eq_true,if_false] at HRd
     go_wp2_with fail
     clear z0 z1 z2
     refine HRd.out.mono ?_
     rintro e w8 ⟨rfl,D8,hM8⟩
     obtain ⟨vt,hvt,hcv⟩:=hM8.text false
     have HM8:=Lib.hid hM8
     simp only [Bool.false_eq_true,if_false] at hvt hcv
     clear hM8 HRd
     go_wp2
     go_roundw
     case rel=>exact ⟨1,D8,by omega,rfl,HM8⟩
     case measure=>simp [intOf]
    ·skip
     have HRd:=Lib.hid (HREAD.out _ B Bd tb gb S7 D7 a0 a1 HMj.out HAs.out true)
     have z:=HAll.out _ _ _ _ _ HMj.out
     obtain ⟨z0,z1,z2,-,-,-,-⟩:=z
     simp only [noK,if_true] at HRd
     go_wp2_with fail
     clear z0 z1 z2
     refine HRd.out.mono ?_
     rintro e w8 ⟨rfl,D8,hM8⟩
     obtain ⟨vt,hvt,hcv⟩:=hM8.text true
     have HM8:=Lib.hid hM8
     simp only [if_true] at hvt hcv
     clear hM8 HRd
     go_wp2
     go_roundw
     case rel=>exact ⟨2,D8,by omega,rfl,HM8⟩
     case measure=>simp [intOf]
    ·go_wp2
     go_roundw
     case rel=>exact ⟨k+1,S7,D7,a0,a1,by omega,by omega,by go_num,HMj,HT7⟩
     case measure=>simp [intOf]; omega
  ·have hlt2:(¬k<len)∨(k<len∧¬k<12):=by omega
   have HDr:=Lib.hid (HDRAIN.out wr B Bd tb gb S D t0 t1 k HM.out HT.out.1 hk12 (by have:=HT.out.2; omega))
   clear HDONE HFLUSH HDRAIN HAS
   rcases hlt2 with h1 | ⟨h1,h2⟩
   ·skip
    go_wp2_with fail
    refine HDr.out.mono ?_
    rintro e w9 ⟨rfl,S9,hM9,hA9⟩
    have HRw:=Lib.hid (HRAW.out w9 B Bd tb gb S9 D t0 t1 hM9)
    have HA9:=Lib.hid hA9
    clear hM9 hA9 HDr HRAW
    go_wp2_with fail
    refine HRw.out.mono ?_
    rintro e w10 ⟨B',D',rfl,hM10,-⟩
    have HM10:=Lib.hid hM10
    clear hM10 HRw
    go_wp2
    go_loopw [101] (fun q wr=>∃(j:Nat) (D:Nat→Prop),j≤2∧q = .int .i64 (j:Int)∧Hid (RM w B' Bd tb gb ⟨ga,gb',gc⟩ (rawS S9) D t0 t1 wr)) (fun q _=>2-(intOf q).toNat)
    case atStart=>exact ⟨0,_,Nat.zero_le _,rfl,HM10⟩
    case round=>
     clear HM10
     obtain ⟨j,D7,hj,rfl,HMj⟩:=hrel
     rcases (show j=0∨j=1∨j=2 by omega) with rfl | rfl | rfl
     ·skip
      have HRd:=Lib.hid (HREAD.out _ B' Bd tb gb (rawS S9) D7 t0 t1 HMj.out HA9.out false)
      have z:=HMj.out.box
      have z0:=cellOf (k:=0) z rfl
      have z1:=cellOf (k:=1) z rfl
      have z2:=cellOf (k:=2) z rfl
      clear z
      simp only [noK,Bool.false_eq_true,if_false] at HRd
      go_wp2_with fail
      clear z0 z1 z2
      refine HRd.out.mono ?_
      rintro e w8 ⟨rfl,D8,hM8⟩
      obtain ⟨vt,hvt,hcv⟩:=hM8.text false
      have HM8:=Lib.hid hM8
      simp only [Bool.false_eq_true,if_false] at hvt hcv
      clear hM8 HRd
      go_wp2
      go_roundw
      case rel=>exact ⟨1,D8,by omega,rfl,HM8⟩
      case measure=>simp [intOf]
     ·skip
      have HRd:=Lib.hid (HREAD.out _ B' Bd tb gb (rawS S9) D7 t0 t1 HMj.out HA9.out true)
      have z:=HMj.out.box
      have z0:=cellOf (k:=0) z rfl
      have z1:=cellOf (k:=1) z rfl
      have z2:=cellOf (k:=2) z rfl
      clear z
      simp only [noK,if_true] at HRd
      go_wp2_with fail
      clear z0 z1 z2
      refine HRd.out.mono ?_
      rintro e w8 ⟨rfl,D8,hM8⟩
      obtain ⟨vt,hvt,hcv⟩:=hM8.text true
      have HM8:=Lib.hid hM8
      simp only [if_true] at hvt hcv
      clear hM8 HRd
      go_wp2
      go_roundw
      case rel=>exact ⟨2,D8,by omega,rfl,HM8⟩
      case measure=>simp [intOf]
     ·have HF:Hid (Below w.heap.size w wr):=HMj.out.bel
      go_wp2
      go_ret
      exact ⟨rfl,HF.out⟩
   ·skip
    go_wp2_with fail
    refine HDr.out.mono ?_
    rintro e w9 ⟨rfl,S9,hM9,hA9⟩
    have HRw:=Lib.hid (HRAW.out w9 B Bd tb gb S9 D t0 t1 hM9)
    have HA9:=Lib.hid hA9
    clear hM9 hA9 HDr HRAW
    go_wp2_with fail
    refine HRw.out.mono ?_
    rintro e w10 ⟨B',D',rfl,hM10,-⟩
    have HM10:=Lib.hid hM10
    clear hM10 HRw
    go_wp2
    go_loopw [101] (fun q wr=>∃(j:Nat) (D:Nat→Prop),j≤2∧q = .int .i64 (j:Int)∧Hid (RM w B' Bd tb gb ⟨ga,gb',gc⟩ (rawS S9) D t0 t1 wr)) (fun q _=>2-(intOf q).toNat)
    case atStart=>exact ⟨0,_,Nat.zero_le _,rfl,HM10⟩
    case round=>
     clear HM10
     obtain ⟨j,D7,hj,rfl,HMj⟩:=hrel
     rcases (show j=0∨j=1∨j=2 by omega) with rfl | rfl | rfl
     ·skip
      have HRd:=Lib.hid (HREAD.out _ B' Bd tb gb (rawS S9) D7 t0 t1 HMj.out HA9.out false)
      have z:=HMj.out.box
      have z0:=cellOf (k:=0) z rfl
      have z1:=cellOf (k:=1) z rfl
      have z2:=cellOf (k:=2) z rfl
      clear z
      simp only [noK,Bool.false_eq_true,if_false] at HRd
      go_wp2_with fail
      clear z0 z1 z2
      refine HRd.out.mono ?_
      rintro e w8 ⟨rfl,D8,hM8⟩
      obtain ⟨vt,hvt,hcv⟩:=hM8.text false
      have HM8:=Lib.hid hM8
      simp only [Bool.false_eq_true,if_false] at hvt hcv
      clear hM8 HRd
      go_wp2
      go_roundw
      case rel=>exact ⟨1,D8,by omega,rfl,HM8⟩
      case measure=>simp [intOf]
     ·skip
      have HRd:=Lib.hid (HREAD.out _ B' Bd tb gb (rawS S9) D7 t0 t1 HMj.out HA9.out true)
      have z:=HMj.out.box
      have z0:=cellOf (k:=0) z rfl
      have z1:=cellOf (k:=1) z rfl
      have z2:=cellOf (k:=2) z rfl
      clear z
      simp only [noK,if_true] at HRd
      go_wp2_with fail
      clear z0 z1 z2
      refine HRd.out.mono ?_
      rintro e w8 ⟨rfl,D8,hM8⟩
      obtain ⟨vt,hvt,hcv⟩:=hM8.text true
      have HM8:=Lib.hid hM8
      simp only [if_true] at hvt hcv
      clear hM8 HRd
      go_wp2
      go_roundw
      case rel=>exact ⟨2,D8,by omega,rfl,HM8⟩
      case measure=>simp [intOf]
     ·have HF:Hid (Below w.heap.size w wr):=HMj.out.bel
      go_wp2
      go_ret
      exact ⟨rfl,HF.out⟩
end
end Go.Proofs.YtaphcmcimoloiaaGreatDoor
