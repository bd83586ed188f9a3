import Derived.Test.YtgofmnhfajmbfaaGreatDoorCheckReach
import Derived.Test.YtgofmnhfajmbfaaGreatDoorSpCheckL
namespace Go.Proofs.YtgofmnhfajmbfaaGreatDoor
open Go Go.RowKit Txt Sp
section
variable {w w1 w':World} {base B N:Nat} {g:Sp.Geom} {vs:Value} {m:LookP} {t t':Sp.Look} {D D' K:Nat→Prop} {S:Int→ByteArray}
theorem LookAt.found_lt (h:LookAt w base B g vs m t D):m.found<w.heap.size:=(h.low.2 _ h.own.2.2.2.2).2
theorem q7z.tkn (h:q7z w base B g vs m t D w') {mb:Nat} {l:List (Int×Bool)} (hm:IM.MapAt Value.bool w mb l) (hne:mb≠m.found):IM.MapAt Value.bool w' mb l:=q21z hm h.2 hne
theorem tkn_has {W:World} {mb:Nat} {l:List (Int×Bool)} (hm:IM.MapAt Value.bool W mb l) {ps:List Nat} (hl:∀p:Nat,(IM.getM l (p:Int)).getD false=decide (p∈ps)) (p:Nat):(Instr.lookup 138 (.map (some mb)) (.int .i64 (p:Int)) false).run Tryz.prog W = .ok (.bool (decide (p∈ps))) W:=by
 have:=IM.run_lookup (P:=Tryz.prog) Tryz.underlying138 Tryz.underlying3 (z:=.bool false) (by kernel_rfl) hm (p:Int)
 rw[this,←hl p]
 cases IM.getM l (p:Int) <;> rfl
theorem neq_none (W:World):(binOp .neq 138 (.map none) (.map none)).run Tryz.prog W = .ok (.bool false) W:=by kernel_rfl
theorem neq_some (W:World) (b:Nat):(binOp .neq 138 (.map (some b)) (.map none)).run Tryz.prog W = .ok (.bool true) W:=by kernel_rfl
theorem eql_none (W:World):(binOp .eql 138 (.map none) (.map none)).run Tryz.prog W = .ok (.bool true) W:=by kernel_rfl
theorem eql_some (W:World) (b:Nat):(binOp .eql 138 (.map (some b)) (.map none)).run Tryz.prog W = .ok (.bool false) W:=by kernel_rfl
def q60z (wa:World) (base B N:Nat) (g:Sp.Geom) (vs:Value) (m:LookP) (S:Int→ByteArray) (T t:Sp.Look) (D:Nat→Prop) (wr:World):Prop:=LookS wr base B N g vs m S t D∧q7z wa base B g vs m t D wr∧T.Told t
theorem q60z.next {wa W W':World} {T:Sp.Look} (h:q60z wa base B N g vs m S T t D w) (hb:Below w.heap.size w W) (k:q7z W base B g vs m t' D W') (ht:t.Told t'):q60z wa base B N g vs m S T t' D W':=
 ⟨(h.1.below hb).to k.1,(h.2.1.behind hb).trans k,h.2.2.trans ht⟩
theorem q60z.below {wa W:World} {T:Sp.Look} (h:q60z wa base B N g vs m S T t D w) (hb:Below w.heap.size w W):q60z wa base B N g vs m S T t D W:=
 ⟨h.1.below hb,h.2.1.behind hb,h.2.2⟩
set_option maxHeartbeats 8000000 in
set_option maxRecDepth 20000 in
theorem cgroup_any (h:LookS w base B N g vs m S t D) (hinv:t.Inv g 30000 0) {k:Nat} (hk:(k:Int)<g.groups) :
 Calls Tryz.prog 74 #[pt B,.int .i64 (k:Int)] w fun e w'=>e = .returned (.tuple #[])∧q8z w base B g vs m (t.group g S k) D w' D:=by
 have hk0:(0:Int)≤(k:Int)∧(k:Int)<g.groups:=⟨by omega,hk⟩
 have hok:=h.ok
 have hpr:=Geom.prod hok
 obtain⟨o1,o2,o3,o4,o5,o6⟩:=hok
 have hta:=ctaken_any h hk0 false g.inodes
 obtain⟨a,ha⟩:=zx (t.taken g S (k:Int) false g.inodes)
 rw[ha] at hta
 have hToldA:t.Told a.1:=by rw[←ha]; exact Look.Told.taken _ _ _ _
 obtain⟨t2,ht2⟩:=zx (Look.upto (Look.inode g (k:Int) a.2) g.inodes.toNat a.1)
 have hg1:t.group g S k=Look.upto (Look.block2 g (k:Int) (t2.taken g S (k:Int) true g.blocks).2) g.blocks.toNat (t2.taken g S (k:Int) true g.blocks).1:=by
  unfold Look.group
  simp only
  rw[ha,ht2]
 obtain⟨bp,hbp⟩:=zx (t2.taken g S (k:Int) true g.blocks)
 rw[hbp] at hg1
 rw[hg1]
 have htb:=fun(W:World) (hL:LookS W base B N g vs m S t2 D)=>ctaken_any hL hk0 true g.blocks
 rw[hbp] at htb
 obtain⟨ga,I,J⟩:=g
 dsimp only at *
 obtain⟨ib,rfl⟩:∃i:Nat,I=(i:Int):=⟨I.toNat,by omega⟩
 obtain⟨jb,rfl⟩:∃j:Nat,J=(j:Int):=⟨J.toNat,by omega⟩
 have hki:((k:Int)+1)*(ib:Int)≤ga*(ib:Int):=Int.mul_le_mul_of_nonneg_right (by omega) (by omega)
 have hkm:(k:Int)*(ib:Int)=((k*ib:Nat):Int):=(Int.natCast_mul _ _).symm
 rw[Int.add_mul,Int.one_mul] at hki
 obtain⟨c,hc⟩:∃c:Nat,k*ib=c:=⟨_,rfl⟩
 rw[hkm,hc] at hki
 rw[hc] at hkm
 have hcb:(c:Int)+(ib:Int)≤128:=by omega
 have HG:=zh h
 have HInv:=zh hinv
 have HToA:=zh hToldA
 have HT2:=zh ht2
 have HBP:=zh hbp
 have HMul:Hid ((k:Int)*(ib:Int)=(c:Int)):=hkm
 have hmul:wrap64 ((k:Int)*(ib:Int))=(c:Int):=by rw[hkm,←IntWalk.i64_left]; exact IntWalk.i64_in _ (by omega)
 have hblk:=fun(W:World) (p:Nat)=>gblock_any W ⟨ga,(ib:Int),(jb:Int)⟩ (k:Int) (p:Int)
 have HKb:Hid ((0:Int)≤(k:Int)∧(k:Int)<ga):=hk0
 obtain⟨⟨c0,c1,c2⟩,c3,-⟩:=h.look.cells
 dsimp only at c0 c1 c2
 unfold TakenPost pt at hta htb
 unfold gV at hblk
 dsimp only at hblk
 have HTA:=zh hta
 have HTB:=zh htb
 have HBLK:=zh hblk
 clear hta htb hblk
 clear h hinv hk hk0 hpr ha hToldA ht2 hg1 hbp hkm hki hc o1 o2 o3 o5
 have HCB:=zh hcb
 unfold pt
 go_enter Tryz.func74,Tryz.ntmps74
 go_wp2_with fail
 clear c0 c1 c2 c3
 refine HTA.out.mono ?_
 rintro e w1 ⟨v1,rfl,htk1,hto1⟩
 have HRel0:Hid (q60z w1 base B N ⟨ga,(ib:Int),(jb:Int)⟩ vs m S a.1 a.1 D w1):=⟨HG.out.to hto1,q7z.none hto1.1 (Below.refl _ _),Look.Told.refl _⟩
 have HTo1:=zh hto1
 have HTk1:=zh htk1
 obtain⟨⟨c0,c1,c2⟩,-⟩:=hto1.1.cells
 dsimp only at c1
 clear c0 c2 hto1 htk1
 go_wp2
 clear c1
 go_loopw [26] (fun i26 wr=>∃p:Nat,p≤ib∧i26 = .int .i64 (p:Int)∧Hid (q60z w1 base B N ⟨ga,(ib:Int),(jb:Int)⟩ vs m S a.1 (Look.upto (Look.inode ⟨ga,(ib:Int),(jb:Int)⟩ (k:Int) a.2) p a.1) D wr)) (fun i26 _=>ib-(intOf i26).toNat)
 case atStart=>exact⟨0,Nat.zero_le _,rfl,HRel0⟩
 case round=>
  obtain⟨p,hp,rfl,HRel⟩:=hrel
  by_cases hlt:p<ib
  ·obtain⟨u,hu⟩:=zx (Look.upto (Look.inode ⟨ga,(ib:Int),(jb:Int)⟩ (k:Int) a.2) p a.1)
   have hrel:=HRel.out
   rw[hu] at hrel
   have hst:Look.upto (Look.inode ⟨ga,(ib:Int),(jb:Int)⟩ (k:Int) a.2) (p+1) a.1=Look.inode ⟨ga,(ib:Int),(jb:Int)⟩ (k:Int) a.2 u p:=by rw[←hu]; rfl
   have huinv:u.Inv ⟨ga,(ib:Int),(jb:Int)⟩ 30000 0:=(HToA.out.trans hrel.2.2).inv HInv.out
   have hno:IM.getM u.nodes ((c:Int)+(p:Int)+1)=none→Look.inode ⟨ga,(ib:Int),(jb:Int)⟩ (k:Int) a.2 u p=u:=fun e=>by
    unfold Look.inode
    simp only
    rw[HMul.out,e]
   have hso:∀n,IM.getM u.nodes ((c:Int)+(p:Int)+1)=some n→Look.inode ⟨ga,(ib:Int),(jb:Int)⟩ (k:Int) a.2 u p =
    (match a.2 with
      | none=>(if u.has ((c:Int)+(p:Int)+1) then u.reached ((c:Int)+(p:Int)+1) n else u)
      | some l=>if u.has ((c:Int)+(p:Int)+1)≠decide (p∈l)∨(u.has ((c:Int)+(p:Int)+1)=false∧n.kind≠0) then(if u.has ((c:Int)+(p:Int)+1) then u.reached ((c:Int)+(p:Int)+1) n else u).tell 9 ((c:Int)+(p:Int)+1) else(if u.has ((c:Int)+(p:Int)+1) then u.reached ((c:Int)+(p:Int)+1) n else u)):=fun n e=>by
    unfold Look.inode
    simp only
    rw[HMul.out,e]
    rfl
   have hnode:=hrel.1.look.run_node2 ((c:Int)+(p:Int)+1)
   obtain⟨⟨-,c1,-⟩,-,c4,-,-,-,-⟩:=hrel.1.look.cells
   dsimp only at c1
   have hgd:∀n,u.node ((c:Int)+(p:Int)+1)=n→(IM.getM u.nodes ((c:Int)+(p:Int)+1)).isSome=true→IM.getM u.nodes ((c:Int)+(p:Int)+1)=some n:=fun n e1 e2=>by
    unfold Look.node at e1
    cases hx:IM.getM u.nodes ((c:Int)+(p:Int)+1) with
    | none=>rw[hx] at e2; cases e2
    | some y=>rw[hx] at e1; exact congrArg some e1
   obtain⟨n,hn⟩:=zx (u.node ((c:Int)+(p:Int)+1))
   replace hgd:=hgd n hn
   rw[hn] at hnode
   have HRb:Hid (∀W,Below wr.heap.size wr W→q60z w1 base B N ⟨ga,(ib:Int),(jb:Int)⟩ vs m S a.1 u D W):=fun W hW=>hrel.below hW
   obtain⟨gd,hgde⟩:=zx ((IM.getM u.nodes ((c:Int)+(p:Int)+1)).isSome)
   rw[hgde] at hnode hgd
   have hgn:gd=false→IM.getM u.nodes ((c:Int)+(p:Int)+1)=none:=fun e=>by
    rw[e] at hgde
    simpa using hgde
   have hcl:u.has ((c:Int)+(p:Int)+1)=true→u.called ((c:Int)+(p:Int)+1):=fun e=>(huinv.inn _ e).2
   have hln:(u.namesOf ((c:Int)+(p:Int)+1)).length≤30000:=names_len huinv _
   have HR0:=zh hrel
   unfold nA iA at hnode
   obtain⟨x0,h0⟩:=zx (n.kind)
   obtain⟨x1,h1⟩:=zx (n.links)
   obtain⟨x2,h2⟩:=zx (n.size)
   obtain⟨x3,h3⟩:=zx (n.parent)
   obtain⟨x4,h4⟩:=zx (n.gen)
   obtain⟨d0,h5⟩:=zx (n.direct.getD 0 0)
   obtain⟨d1,h6⟩:=zx (n.direct.getD 1 0)
   obtain⟨d2,h7⟩:=zx (n.direct.getD 2 0)
   obtain⟨d3,h8⟩:=zx (n.direct.getD 3 0)
   obtain⟨d4,h9⟩:=zx (n.direct.getD 4 0)
   obtain⟨d5,h10⟩:=zx (n.direct.getD 5 0)
   obtain⟨d6,h11⟩:=zx (n.direct.getD 6 0)
   obtain⟨d7,h12⟩:=zx (n.direct.getD 7 0)
   obtain⟨x6,h13⟩:=zx (n.more)
   have HNA:Hid (nA n=#[.int .i64 x0,.int .i64 x1,.int .i64 x2,.int .i64 x3,.int .i64 x4,.int .i64 d0,.int .i64 d1,.int .i64 d2,.int .i64 d3,.int .i64 d4,.int .i64 d5,.int .i64 d6,.int .i64 d7,.int .i64 x6]):=by
    show _=_
    unfold nA iA
    rw[h0,h1,h2,h3,h4,h5,h6,h7,h8,h9,h10,h11,h12,h13]
   have HKd:Hid (n.kind=x0):=h0
   simp only[h0,h1,h2,h3,h4,h5,h6,h7,h8,h9,h10,h11,h12,h13] at hnode
   obtain⟨W3,hW3⟩:=zx (wr.alloc (.cells #[.int .i64 x0,.int .i64 x1,.int .i64 x2,.int .i64 x3,.int .i64 x4,.int .i64 d0,.int .i64 d1,.int .i64 d2,.int .i64 d3,.int .i64 d4,.int .i64 d5,.int .i64 d6,.int .i64 d7,.int .i64 x6] 69))
   have HB3:Hid (Below wr.heap.size wr W3):=by rw[←hW3]; exact bl2 _
   have HZ3:Hid (W3.heap[wr.heap.size]? = some (.cells #[.int .i64 x0,.int .i64 x1,.int .i64 x2,.int .i64 x3,.int .i64 x4,.int .i64 d0,.int .i64 d1,.int .i64 d2,.int .i64 d3,.int .i64 d4,.int .i64 d5,.int .i64 d6,.int .i64 d7,.int .i64 x6] 69 (0,0))):=by rw[←hW3]; exact q5z wr _
   have HSt:=zh hst
   have HNo:=zh hno
   have HSo:=zh hso
   have HGd:=zh hgd
   have HGn:=zh hgn
   have HCl:=zh hcl
   have HLn:=zh hln
   clear hrel hst huinv hno hso hn hgde hgd hgn hcl hln hu HRel h0 h1 h2 h3 h4 h5 h6 h7 h8 h9 h10 h11 h12 h13
   cases gd
   ·have HR1:Hid (q60z w1 base B N ⟨ga,(ib:Int),(jb:Int)⟩ vs m S a.1 (Look.upto (Look.inode ⟨ga,(ib:Int),(jb:Int)⟩ (k:Int) a.2) (p+1) a.1) D W3):=by
     rw[HSt.out,HNo.out (HGn.out rfl)]
     exact HRb.out W3 HB3.out
    go_wp2
    go_roundw
    case rel=>exact⟨p+1,by omega,by go_num,HR1⟩
    case measure=>simp[intOf]; omega
   ·have hso:=HSo.out n (HGd.out rfl)
    have hl3:=(HRb.out W3 HB3.out).1.look
    have hhas:=hl3.run_has ((c:Int)+(p:Int)+1)
    obtain⟨-,-,-,c5,-⟩:=hl3.cells
    obtain⟨hs,hhs⟩:=zx (u.has ((c:Int)+(p:Int)+1))
    obtain⟨t1,ht1⟩:=zx ((if u.has ((c:Int)+(p:Int)+1)=true then u.reached ((c:Int)+(p:Int)+1) n else u))
    have hcr:hs=true→Calls Tryz.prog 152 #[pt B,.int .i64 ((c:Int)+(p:Int)+1),.agg (nA n)] W3 fun e w'=>e = .returned (.tuple #[])∧q7z W3 base B ⟨ga,(ib:Int),(jb:Int)⟩ vs m t1 D w':=fun e=>by
     have h1:=creached_any hl3 ((c:Int)+(p:Int)+1) (HCl.out (hhs.trans e)) HLn.out n
     rw[←ht1,if_pos (hhs.trans e)]
     exact h1
    have hcn:hs=false→t1=u:=fun e=>by rw[←ht1,if_neg (by rw[hhs,e]; simp)]
    have hto1:u.Told t1:=by
     rw[←ht1]
     split
     ·exact Look.Told.reached _ _ _
     ·exact Look.Told.refl _
    rw[ht1,hhs] at hso
    rw[hhs] at hhas
    rw[HNA.out] at hcr
    unfold pt at hcr
    have HSo2:=zh hso
    have HL3:=zh hl3
    have HCr:=zh hcr
    have HCn:=zh hcn
    have HTl:=zh hto1
    have hhs1:t1.has ((c:Int)+(p:Int)+1)=hs:=(hto1.has _).trans hhs
    have HHs:=zh hhs1
    have y0:=zc 0 HZ3.out
    have y1:=zc 1 HZ3.out
    have y2:=zc 2 HZ3.out
    have y3:=zc 3 HZ3.out
    have y4:=zc 4 HZ3.out
    have y5:=zc 5 HZ3.out
    have y6:=zc 6 HZ3.out
    have y7:=zc 7 HZ3.out
    have y8:=zc 8 HZ3.out
    have y9:=zc 9 HZ3.out
    have y10:=zc 10 HZ3.out
    have y11:=zc 11 HZ3.out
    have y12:=zc 12 HZ3.out
    have y13:=zc 13 HZ3.out
    clear hso hl3 hhs ht1 hcr hcn hto1 hhs1
    go_upto_if 55 with fail
    clear hW3 c1 c4 hnode
    go_cut [] (fun wx=>Hid (q7z W3 base B ⟨ga,(ib:Int),(jb:Int)⟩ vs m t1 D wx))
    case first=>
     cases hs
     ·have HR:Hid (q7z W3 base B ⟨ga,(ib:Int),(jb:Int)⟩ vs m t1 D W3):=by rw[HCn.out rfl]; exact q7z.none HL3.out (Below.refl _ _)
      go_wp2
      go_meet
      case rel=>exact HR
     ·have HC2:=zh (HCr.out rfl)
      go_wp2_with fail
      refine HC2.out.mono ?_
      rintro e w4 ⟨rfl,hto4⟩
      have HR:=zh hto4
      clear hto4
      go_wp2
      go_meet
      case rel=>exact HR
    case rest=>
     have HC:=zh hcut.out
     clear hcut y0 y1 y2 y3 y4 y5 y6 y7 y8 y9 y10 y11 y12 y13 c5 hhas
     have HZc:=zh (HC.out.heap HZ3.out HL3.out)
     have y0:=zc 0 HZc.out
     obtain⟨-,-,-,c5,-⟩:=HC.out.1.1.cells
     have HTe:Hid (∀W,Below wc.heap.size wc W→Calls Tryz.prog 147 #[.pointer (some ⟨B,0,none⟩),.int .i64 9,.int .i64 ((c:Int)+(p:Int)+1)] W fun e w'=>e = .returned (.tuple #[])∧q7z W base B ⟨ga,(ib:Int),(jb:Int)⟩ vs m (t1.tell 9 ((c:Int)+(p:Int)+1)) D w'):=fun W hW=>q76z (HC.out.1.1.below hW) 9 ((c:Int)+(p:Int)+1)
     have HNx:Hid (∀(W:World) (v:Look),Below wc.heap.size wc W→∀W',q7z W base B ⟨ga,(ib:Int),(jb:Int)⟩ vs m v D W'→t1.Told v→Look.inode ⟨ga,(ib:Int),(jb:Int)⟩ (k:Int) a.2 u p=v→q60z w1 base B N ⟨ga,(ib:Int),(jb:Int)⟩ vs m S a.1 (Look.upto (Look.inode ⟨ga,(ib:Int),(jb:Int)⟩ (k:Int) a.2) (p+1) a.1) D W'):=fun W v hW W' hto ht e=>by
      rw[HSt.out,e]
      exact q60z.next (HRb.out W3 HB3.out) (Below.refl _ _) (HC.out.trans (hto.ahead hW)) (HTl.out.trans ht)
     have hhas:=(HC.out.1.1.below (blD (Below.refl wc.heap.size wc))).run_has ((c:Int)+(p:Int)+1)
     rw[HHs.out] at hhas
     rcases HTk1.out with ⟨ha2,rfl⟩ | ⟨ps,mb,l,ha2,rfl,hmb,hmlt,hml⟩
     ·have HQ:Hid (Look.inode ⟨ga,(ib:Int),(jb:Int)⟩ (k:Int) a.2 u p=t1):=by show _=_; rw[HSo2.out,ha2]
      clear ha2 y0 hhas c5
      have hmn:=neq_none
      go_wp2_with fail
      refine wp_region_held_drew (S:=fun _=>True) (by kernel_rfl) (by first | trivial | assumption) (fun hHeld=>?_)
      refine tkH 0 ?_; simp only[Act.put,ps0]
      refine tkH 1 ?_; simp only[Act.put,ps0]
      refine tkH 2 ?_; simp only[Act.put,ps0]
      refine wpAnyH_take (i:=3) (v:=undef) rfl (by kernel_rfl) (by kernel_rfl) (by kernel_rfl) (fun _ _ _ h=>h) (Or.inr ⟨by rfl,rfl⟩) hHeld ?_
      simp only[Act.put,ps0]
      refine wpAnyH_take (i:=4) (v:=undef) rfl (by kernel_rfl) (by kernel_rfl) (by kernel_rfl) (fun _ _ _ h=>h) (Or.inr ⟨by rfl,rfl⟩) hHeld ?_
      simp only[Act.put,ps0]
      refine wpAnyH_take (i:=5) (v:=undef) rfl (by kernel_rfl) (by kernel_rfl) (by kernel_rfl) (fun _ _ _ h=>h) (Or.inr ⟨by rfl,rfl⟩) hHeld ?_
      simp only[Act.put,ps0]
      refine wpAnyH_take (i:=6) (v:=undef) rfl (by kernel_rfl) (by kernel_rfl) (by kernel_rfl) (fun _ _ _ h=>h) (Or.inr ⟨by rfl,rfl⟩) hHeld ?_
      simp only[Act.put,ps0]
      refine wpAnyH_take (i:=7) (v:=undef) rfl (by kernel_rfl) (by kernel_rfl) (by kernel_rfl) (fun _ _ _ h=>h) (Or.inr ⟨by rfl,rfl⟩) hHeld ?_
      simp only[Act.put,ps0]
      refine wpAnyH_take (i:=8) (v:=undef) rfl (by kernel_rfl) (by kernel_rfl) (by kernel_rfl) (fun _ _ _ h=>h) (Or.inr ⟨by rfl,rfl⟩) hHeld ?_
      simp only[Act.put,ps0]
      refine wpAnyH_take (i:=9) (v:=undef) rfl (by kernel_rfl) (by kernel_rfl) (by kernel_rfl) (fun _ _ _ h=>h) (Or.inr ⟨by rfl,rfl⟩) hHeld ?_
      simp only[Act.put,ps0]
      refine wpAnyH_take (i:=10) (v:=undef) rfl (by kernel_rfl) (by kernel_rfl) (by kernel_rfl) (fun _ _ _ h=>h) (Or.inr ⟨by rfl,rfl⟩) hHeld ?_
      simp only[Act.put,ps0]
      refine wpAnyH_take (i:=11) (v:=undef) rfl (by kernel_rfl) (by kernel_rfl) (by kernel_rfl) (fun _ _ _ h=>h) (Or.inr ⟨by rfl,rfl⟩) hHeld ?_
      simp only[Act.put,ps0]
      refine wpAnyH_take (i:=12) (v:=undef) rfl (by kernel_rfl) (by kernel_rfl) (by kernel_rfl) (fun _ _ _ h=>h) (Or.inr ⟨by rfl,rfl⟩) hHeld ?_
      simp only[Act.put,ps0]
      refine wpAnyH_take (i:=13) (v:=undef) rfl (by kernel_rfl) (by kernel_rfl) (by kernel_rfl) (fun _ _ _ h=>h) (Or.inr ⟨by rfl,rfl⟩) hHeld ?_
      simp only[Act.put,ps0]
      refine wpAnyH_take (i:=14) (v:=undef) rfl (by kernel_rfl) (by kernel_rfl) (by kernel_rfl) (fun _ _ _ h=>h) (Or.inr ⟨by rfl,rfl⟩) hHeld ?_
      simp only[Act.put,ps0]
      refine wpAnyH_take (i:=15) (v:=undef) rfl (by kernel_rfl) (by kernel_rfl) (by kernel_rfl) (fun _ _ _ h=>h) (Or.inr ⟨by rfl,rfl⟩) hHeld ?_
      simp only[Act.put,ps0]
      refine wpAnyH_take (i:=16) (v:=undef) rfl (by kernel_rfl) (by kernel_rfl) (by kernel_rfl) (fun _ _ _ h=>h) (Or.inr ⟨by rfl,rfl⟩) hHeld ?_
      simp only[Act.put,ps0]
      refine wpAnyH_take (i:=17) (v:=undef) rfl (by kernel_rfl) (by kernel_rfl) (by kernel_rfl) (fun _ _ _ h=>h) (Or.inr ⟨by rfl,rfl⟩) hHeld ?_
      simp only[Act.put,ps0]
      refine wpAnyH_take (i:=18) (v:=undef) rfl (by kernel_rfl) (by kernel_rfl) (by kernel_rfl) (fun _ _ _ h=>h) (Or.inr ⟨by rfl,rfl⟩) hHeld ?_
      simp only[Act.put,ps0]
      refine wpAnyH_take (i:=19) (v:=undef) rfl (by kernel_rfl) (by kernel_rfl) (by kernel_rfl) (fun _ _ _ h=>h) (Or.inr ⟨by rfl,rfl⟩) hHeld ?_
      simp only[Act.put,ps0]
      refine wpAnyH_take (i:=20) (v:=undef) rfl (by kernel_rfl) (by kernel_rfl) (by kernel_rfl) (fun _ _ _ h=>h) (Or.inr ⟨by rfl,rfl⟩) hHeld ?_
      simp only[Act.put,ps0]
      refine wpAnyH_take (i:=21) (v:=undef) rfl (by kernel_rfl) (by kernel_rfl) (by kernel_rfl) (fun _ _ _ h=>h) (Or.inr ⟨by rfl,rfl⟩) hHeld ?_
      simp only[Act.put,ps0]
      refine wpAnyH_take (i:=22) (v:=undef) rfl (by kernel_rfl) (by kernel_rfl) (by kernel_rfl) (fun _ _ _ h=>h) (Or.inr ⟨by rfl,rfl⟩) hHeld ?_
      simp only[Act.put,ps0]
      refine wpAnyH_take (i:=23) (v:=undef) rfl (by kernel_rfl) (by kernel_rfl) (by kernel_rfl) (fun _ _ _ h=>h) (Or.inr ⟨by rfl,rfl⟩) hHeld ?_
      simp only[Act.put,ps0]
      refine wpAnyH_take (i:=24) (v:=undef) rfl (by kernel_rfl) (by kernel_rfl) (by kernel_rfl) (fun _ _ _ h=>h) (Or.inr ⟨by rfl,rfl⟩) hHeld ?_
      simp only[Act.put,ps0]
      refine wpAnyH_take (i:=25) (v:=undef) rfl (by kernel_rfl) (by kernel_rfl) (by kernel_rfl) (fun _ _ _ h=>h) (Or.inr ⟨by rfl,rfl⟩) hHeld ?_
      simp only[Act.put,ps0]
      refine wpAnyH_take (i:=26) (v:=undef) rfl (by kernel_rfl) (by kernel_rfl) (by kernel_rfl) (fun _ _ _ h=>h) (Or.inr ⟨by rfl,rfl⟩) hHeld ?_
      simp only[Act.put,ps0]
      refine tkH 27 ?_; simp only[Act.put,ps0]
      refine wpAnyH_done (by kernel_rfl) ?_ _
      have HR1:=zh (HNx.out wc.drew _ (blD (Below.refl _ _)) wc.drew (q7z.none (HC.out.1.1.below (blD (Below.refl _ _))) (Below.refl _ _)) (Look.Told.refl _) HQ.out)
      go_wp2
      go_roundw
      case rel=>exact⟨p+1,by omega,by go_num,HR1⟩
      case measure=>simp[intOf]; omega
     ·have hne:mb≠m.found:=by have:=HG.out.look.found_lt; omega
      have hsm:=HSo2.out
      have HA2:=zh ha2
      rw[ha2] at hsm
      dsimp only at hsm
      have hmw:IM.MapAt Value.bool wc.drew mb l:=(((HR0.out.2.1.behind HB3.out).trans HC.out).behind (blD (Below.refl _ _))).tkn hmb hne
      have hlk:=tkn_has hmw hml p
      obtain⟨dd,hdd⟩:=zx (decide (p∈ps))
      rw[hdd] at hlk hsm
      have HSm:=zh hsm
      clear hmb hml hmw ha2 hsm hdd hne hmlt
      have hS:wc.drew.cell? ⟨wr.heap.size,0,none⟩=some (.int .i64 x0)∧wc.drew.cell? ⟨B,5,none⟩=some (.map (some m.inn))∧(Instr.lookup 138 (.map (some m.inn)) (.int .i64 ((c:Int)+(p:Int)+1)) false).run Tryz.prog wc.drew = .ok (.bool hs) wc.drew∧(Instr.lookup 138 (.map (some mb)) (.int .i64 (p:Int)) false).run Tryz.prog wc.drew = .ok (.bool dd) wc.drew:=⟨y0,c5,hhas,hlk⟩
      clear y0 hhas c5 hlk
      have hmn:=fun W:World=>neq_some W mb
      cases hs
      ·cases dd
       ·by_cases hz:x0=0
        ·have q0:(x0 == 0)=true:=by rw[hz]; rfl
         have q1:(x0 != 0)=false:=by rw[hz]; rfl
         have HQ:Hid (Look.inode ⟨ga,(ib:Int),(jb:Int)⟩ (k:Int) a.2 u p=t1):=by show _=_; rw[HA2.out,HSm.out,if_neg (by rw[HKd.out,hz]; simp)]
         clear hz
         go_wp2_with fail
         refine wp_region_held_drew (S:=fun W=>W.cell? ⟨wr.heap.size,0,none⟩=some (.int .i64 x0)∧W.cell? ⟨B,5,none⟩=some (.map (some m.inn))∧(Instr.lookup 138 (.map (some m.inn)) (.int .i64 ((c:Int)+(p:Int)+1)) false).run Tryz.prog W = .ok (.bool false) W∧(Instr.lookup 138 (.map (some mb)) (.int .i64 (p:Int)) false).run Tryz.prog W = .ok (.bool false) W) (by kernel_rfl) (by first | trivial | assumption) (fun hHeld=>?_)
         refine tkH 0 ?_; simp only[Act.put,ps0]
         refine tkH 1 ?_; simp only[Act.put,ps0]
         refine tkH 2 ?_; simp only[Act.put,ps0]
         refine tkH 3 ?_; simp only[Act.put,ps0]
         refine tkH 4 ?_; simp only[Act.put,ps0]
         refine tkH 5 ?_; simp only[Act.put,ps0]
         refine tkH 6 ?_; simp only[Act.put,ps0]
         refine tkH 7 ?_; simp only[Act.put,ps0]
         refine tkH 8 ?_; simp only[Act.put,ps0]
         refine tkH 9 ?_; simp only[Act.put,ps0]
         refine tkH 10 ?_; simp only[Act.put,ps0]
         refine tkH 11 ?_; simp only[Act.put,ps0]
         refine tkH 12 ?_; simp only[Act.put,ps0]
         refine tkH 13 ?_; simp only[Act.put,ps0]
         refine tkH 14 ?_; simp only[Act.put,ps0]
         refine tkH 15 ?_; simp only[Act.put,ps0]
         refine tkH 16 ?_; simp only[Act.put,ps0]
         refine tkH 17 ?_; simp only[Act.put,ps0]
         refine tkH 18 ?_; simp only[Act.put,ps0]
         refine tkH 19 ?_; simp only[Act.put,ps0]
         refine tkH 20 ?_; simp only[Act.put,ps0]
         refine tkH 21 ?_; simp only[Act.put,ps0]
         refine tkH 22 ?_; simp only[Act.put,ps0]
         refine tkH 23 ?_; simp only[Act.put,ps0]
         refine tkH 24 ?_; simp only[Act.put,ps0]
         refine tkH 25 ?_; simp only[Act.put,ps0]
         refine tkH 26 ?_; simp only[Act.put,ps0]
         refine tkH 27 ?_; simp only[Act.put,ps0]
         refine wpAnyH_done (by kernel_rfl) ?_ _
         have HR1:=zh (HNx.out wc.drew _ (blD (Below.refl _ _)) wc.drew (q7z.none (HC.out.1.1.below (blD (Below.refl _ _))) (Below.refl _ _)) (Look.Told.refl _) HQ.out)
         go_wp2
         go_roundw
         case rel=>exact⟨p+1,by omega,by go_num,HR1⟩
         case measure=>simp[intOf]; omega
        ·have q0:(x0 == 0)=false:=beq_eq_false_iff_ne.2 hz
         have q1:(x0 != 0)=true:=by simpa using hz
         have HQ:Hid (Look.inode ⟨ga,(ib:Int),(jb:Int)⟩ (k:Int) a.2 u p=t1.tell 9 ((c:Int)+(p:Int)+1)):=by show _=_; rw[HA2.out,HSm.out,if_pos (by rw[HKd.out]; exact Or.inr ⟨rfl,hz⟩)]
         clear hz
         go_wp2_with fail
         refine wp_region_held_drew (S:=fun W=>W.cell? ⟨wr.heap.size,0,none⟩=some (.int .i64 x0)∧W.cell? ⟨B,5,none⟩=some (.map (some m.inn))∧(Instr.lookup 138 (.map (some m.inn)) (.int .i64 ((c:Int)+(p:Int)+1)) false).run Tryz.prog W = .ok (.bool false) W∧(Instr.lookup 138 (.map (some mb)) (.int .i64 (p:Int)) false).run Tryz.prog W = .ok (.bool false) W) (by kernel_rfl) (by first | trivial | assumption) (fun hHeld=>?_)
         refine tkH 0 ?_; simp only[Act.put,ps0]
         refine tkH 1 ?_; simp only[Act.put,ps0]
         refine tkH 2 ?_; simp only[Act.put,ps0]
         refine tkH 3 ?_; simp only[Act.put,ps0]
         refine tkH 4 ?_; simp only[Act.put,ps0]
         refine tkH 5 ?_; simp only[Act.put,ps0]
         refine tkH 6 ?_; simp only[Act.put,ps0]
         refine tkH 7 ?_; simp only[Act.put,ps0]
         refine tkH 8 ?_; simp only[Act.put,ps0]
         refine tkH 9 ?_; simp only[Act.put,ps0]
         refine tkH 10 ?_; simp only[Act.put,ps0]
         refine tkH 11 ?_; simp only[Act.put,ps0]
         refine tkH 12 ?_; simp only[Act.put,ps0]
         refine tkH 13 ?_; simp only[Act.put,ps0]
         refine tkH 14 ?_; simp only[Act.put,ps0]
         refine tkH 15 ?_; simp only[Act.put,ps0]
         refine tkH 16 ?_; simp only[Act.put,ps0]
         refine tkH 17 ?_; simp only[Act.put,ps0]
         refine tkH 18 ?_; simp only[Act.put,ps0]
         refine tkH 19 ?_; simp only[Act.put,ps0]
         refine tkH 20 ?_; simp only[Act.put,ps0]
         refine tkH 21 ?_; simp only[Act.put,ps0]
         refine tkH 22 ?_; simp only[Act.put,ps0]
         refine tkH 23 ?_; simp only[Act.put,ps0]
         refine tkH 24 ?_; simp only[Act.put,ps0]
         refine tkH 25 ?_; simp only[Act.put,ps0]
         refine tkH 26 ?_; simp only[Act.put,ps0]
         refine tkH 27 ?_; simp only[Act.put,ps0]
         refine wpAnyH_done (by kernel_rfl) ?_ _
         go_wp2_with fail
         refine(HTe.out _ (blD (Below.refl _ _))).mono ?_
         rintro e w5 ⟨rfl,hto5⟩
         have HR1:=zh (HNx.out wc.drew _ (blD (Below.refl _ _)) w5 hto5 (Look.Told.tell _ _ _) HQ.out)
         clear hto5
         go_wp2
         go_roundw
         case rel=>exact⟨p+1,by omega,by go_num,HR1⟩
         case measure=>simp[intOf]; omega
       ·have HQ:Hid (Look.inode ⟨ga,(ib:Int),(jb:Int)⟩ (k:Int) a.2 u p=t1.tell 9 ((c:Int)+(p:Int)+1)):=by show _=_; rw[HA2.out,HSm.out,if_pos (by simp)]
        go_wp2_with fail
        refine wp_region_held_drew (S:=fun W=>W.cell? ⟨wr.heap.size,0,none⟩=some (.int .i64 x0)∧W.cell? ⟨B,5,none⟩=some (.map (some m.inn))∧(Instr.lookup 138 (.map (some m.inn)) (.int .i64 ((c:Int)+(p:Int)+1)) false).run Tryz.prog W = .ok (.bool false) W∧(Instr.lookup 138 (.map (some mb)) (.int .i64 (p:Int)) false).run Tryz.prog W = .ok (.bool true) W) (by kernel_rfl) (by first | trivial | assumption) (fun hHeld=>?_)
        refine tkH 0 ?_; simp only[Act.put,ps0]
        refine tkH 1 ?_; simp only[Act.put,ps0]
        refine tkH 2 ?_; simp only[Act.put,ps0]
        refine tkH 3 ?_; simp only[Act.put,ps0]
        refine tkH 4 ?_; simp only[Act.put,ps0]
        refine tkH 5 ?_; simp only[Act.put,ps0]
        refine tkH 6 ?_; simp only[Act.put,ps0]
        refine tkH 7 ?_; simp only[Act.put,ps0]
        refine tkH 8 ?_; simp only[Act.put,ps0]
        refine tkH 9 ?_; simp only[Act.put,ps0]
        refine tkH 10 ?_; simp only[Act.put,ps0]
        refine tkH 11 ?_; simp only[Act.put,ps0]
        refine tkH 12 ?_; simp only[Act.put,ps0]
        refine tkH 13 ?_; simp only[Act.put,ps0]
        refine wpAnyH_take (i:=14) (v:=undef) rfl (by kernel_rfl) (by kernel_rfl) (by kernel_rfl) (fun _ _ _ h=>h) (Or.inr ⟨by rfl,rfl⟩) hHeld ?_
        simp only[Act.put,ps0]
        refine wpAnyH_take (i:=15) (v:=undef) rfl (by kernel_rfl) (by kernel_rfl) (by kernel_rfl) (fun _ _ _ h=>h) (Or.inr ⟨by rfl,rfl⟩) hHeld ?_
        simp only[Act.put,ps0]
        refine wpAnyH_take (i:=16) (v:=undef) rfl (by kernel_rfl) (by kernel_rfl) (by kernel_rfl) (fun _ _ _ h=>h) (Or.inr ⟨by rfl,rfl⟩) hHeld ?_
        simp only[Act.put,ps0]
        refine wpAnyH_take (i:=17) (v:=undef) rfl (by kernel_rfl) (by kernel_rfl) (by kernel_rfl) (fun _ _ _ h=>h) (Or.inr ⟨by rfl,rfl⟩) hHeld ?_
        simp only[Act.put,ps0]
        refine wpAnyH_take (i:=18) (v:=undef) rfl (by kernel_rfl) (by kernel_rfl) (by kernel_rfl) (fun _ _ _ h=>h) (Or.inr ⟨by rfl,rfl⟩) hHeld ?_
        simp only[Act.put,ps0]
        refine wpAnyH_take (i:=19) (v:=undef) rfl (by kernel_rfl) (by kernel_rfl) (by kernel_rfl) (fun _ _ _ h=>h) (Or.inr ⟨by rfl,rfl⟩) hHeld ?_
        simp only[Act.put,ps0]
        refine wpAnyH_take (i:=20) (v:=undef) rfl (by kernel_rfl) (by kernel_rfl) (by kernel_rfl) (fun _ _ _ h=>h) (Or.inr ⟨by rfl,rfl⟩) hHeld ?_
        simp only[Act.put,ps0]
        refine wpAnyH_take (i:=21) (v:=undef) rfl (by kernel_rfl) (by kernel_rfl) (by kernel_rfl) (fun _ _ _ h=>h) (Or.inr ⟨by rfl,rfl⟩) hHeld ?_
        simp only[Act.put,ps0]
        refine wpAnyH_take (i:=22) (v:=undef) rfl (by kernel_rfl) (by kernel_rfl) (by kernel_rfl) (fun _ _ _ h=>h) (Or.inr ⟨by rfl,rfl⟩) hHeld ?_
        simp only[Act.put,ps0]
        refine wpAnyH_take (i:=23) (v:=undef) rfl (by kernel_rfl) (by kernel_rfl) (by kernel_rfl) (fun _ _ _ h=>h) (Or.inr ⟨by rfl,rfl⟩) hHeld ?_
        simp only[Act.put,ps0]
        refine wpAnyH_take (i:=24) (v:=undef) rfl (by kernel_rfl) (by kernel_rfl) (by kernel_rfl) (fun _ _ _ h=>h) (Or.inr ⟨by rfl,rfl⟩) hHeld ?_
        simp only[Act.put,ps0]
        refine wpAnyH_take (i:=25) (v:=undef) rfl (by kernel_rfl) (by kernel_rfl) (by kernel_rfl) (fun _ _ _ h=>h) (Or.inr ⟨by rfl,rfl⟩) hHeld ?_
        simp only[Act.put,ps0]
        refine tkH 26 ?_; simp only[Act.put,ps0]
        refine tkH 27 ?_; simp only[Act.put,ps0]
        refine wpAnyH_done (by kernel_rfl) ?_ _
        go_wp2_with fail
        refine(HTe.out _ (blD (Below.refl _ _))).mono ?_
        rintro e w5 ⟨rfl,hto5⟩
        have HR1:=zh (HNx.out wc.drew _ (blD (Below.refl _ _)) w5 hto5 (Look.Told.tell _ _ _) HQ.out)
        clear hto5
        go_wp2
        go_roundw
        case rel=>exact⟨p+1,by omega,by go_num,HR1⟩
        case measure=>simp[intOf]; omega
      ·cases dd
       ·have HQ:Hid (Look.inode ⟨ga,(ib:Int),(jb:Int)⟩ (k:Int) a.2 u p=t1.tell 9 ((c:Int)+(p:Int)+1)):=by show _=_; rw[HA2.out,HSm.out,if_pos (by simp)]
        go_wp2_with fail
        refine wp_region_held_drew (S:=fun W=>W.cell? ⟨wr.heap.size,0,none⟩=some (.int .i64 x0)∧W.cell? ⟨B,5,none⟩=some (.map (some m.inn))∧(Instr.lookup 138 (.map (some m.inn)) (.int .i64 ((c:Int)+(p:Int)+1)) false).run Tryz.prog W = .ok (.bool true) W∧(Instr.lookup 138 (.map (some mb)) (.int .i64 (p:Int)) false).run Tryz.prog W = .ok (.bool false) W) (by kernel_rfl) (by first | trivial | assumption) (fun hHeld=>?_)
        refine tkH 0 ?_; simp only[Act.put,ps0]
        refine tkH 1 ?_; simp only[Act.put,ps0]
        refine tkH 2 ?_; simp only[Act.put,ps0]
        refine tkH 3 ?_; simp only[Act.put,ps0]
        refine tkH 4 ?_; simp only[Act.put,ps0]
        refine tkH 5 ?_; simp only[Act.put,ps0]
        refine tkH 6 ?_; simp only[Act.put,ps0]
        refine tkH 7 ?_; simp only[Act.put,ps0]
        refine tkH 8 ?_; simp only[Act.put,ps0]
        refine tkH 9 ?_; simp only[Act.put,ps0]
        refine tkH 10 ?_; simp only[Act.put,ps0]
        refine tkH 11 ?_; simp only[Act.put,ps0]
        refine tkH 12 ?_; simp only[Act.put,ps0]
        refine tkH 13 ?_; simp only[Act.put,ps0]
        refine wpAnyH_take (i:=14) (v:=undef) rfl (by kernel_rfl) (by kernel_rfl) (by kernel_rfl) (fun _ _ _ h=>h) (Or.inr ⟨by rfl,rfl⟩) hHeld ?_
        simp only[Act.put,ps0]
        refine wpAnyH_take (i:=15) (v:=undef) rfl (by kernel_rfl) (by kernel_rfl) (by kernel_rfl) (fun _ _ _ h=>h) (Or.inr ⟨by rfl,rfl⟩) hHeld ?_
        simp only[Act.put,ps0]
        refine wpAnyH_take (i:=16) (v:=undef) rfl (by kernel_rfl) (by kernel_rfl) (by kernel_rfl) (fun _ _ _ h=>h) (Or.inr ⟨by rfl,rfl⟩) hHeld ?_
        simp only[Act.put,ps0]
        refine wpAnyH_take (i:=17) (v:=undef) rfl (by kernel_rfl) (by kernel_rfl) (by kernel_rfl) (fun _ _ _ h=>h) (Or.inr ⟨by rfl,rfl⟩) hHeld ?_
        simp only[Act.put,ps0]
        refine wpAnyH_take (i:=18) (v:=undef) rfl (by kernel_rfl) (by kernel_rfl) (by kernel_rfl) (fun _ _ _ h=>h) (Or.inr ⟨by rfl,rfl⟩) hHeld ?_
        simp only[Act.put,ps0]
        refine wpAnyH_take (i:=19) (v:=undef) rfl (by kernel_rfl) (by kernel_rfl) (by kernel_rfl) (fun _ _ _ h=>h) (Or.inr ⟨by rfl,rfl⟩) hHeld ?_
        simp only[Act.put,ps0]
        refine wpAnyH_take (i:=20) (v:=undef) rfl (by kernel_rfl) (by kernel_rfl) (by kernel_rfl) (fun _ _ _ h=>h) (Or.inr ⟨by rfl,rfl⟩) hHeld ?_
        simp only[Act.put,ps0]
        refine wpAnyH_take (i:=21) (v:=undef) rfl (by kernel_rfl) (by kernel_rfl) (by kernel_rfl) (fun _ _ _ h=>h) (Or.inr ⟨by rfl,rfl⟩) hHeld ?_
        simp only[Act.put,ps0]
        refine wpAnyH_take (i:=22) (v:=undef) rfl (by kernel_rfl) (by kernel_rfl) (by kernel_rfl) (fun _ _ _ h=>h) (Or.inr ⟨by rfl,rfl⟩) hHeld ?_
        simp only[Act.put,ps0]
        refine wpAnyH_take (i:=23) (v:=undef) rfl (by kernel_rfl) (by kernel_rfl) (by kernel_rfl) (fun _ _ _ h=>h) (Or.inr ⟨by rfl,rfl⟩) hHeld ?_
        simp only[Act.put,ps0]
        refine wpAnyH_take (i:=24) (v:=undef) rfl (by kernel_rfl) (by kernel_rfl) (by kernel_rfl) (fun _ _ _ h=>h) (Or.inr ⟨by rfl,rfl⟩) hHeld ?_
        simp only[Act.put,ps0]
        refine wpAnyH_take (i:=25) (v:=undef) rfl (by kernel_rfl) (by kernel_rfl) (by kernel_rfl) (fun _ _ _ h=>h) (Or.inr ⟨by rfl,rfl⟩) hHeld ?_
        simp only[Act.put,ps0]
        refine tkH 26 ?_; simp only[Act.put,ps0]
        refine tkH 27 ?_; simp only[Act.put,ps0]
        refine wpAnyH_done (by kernel_rfl) ?_ _
        go_wp2_with fail
        refine(HTe.out _ (blD (Below.refl _ _))).mono ?_
        rintro e w5 ⟨rfl,hto5⟩
        have HR1:=zh (HNx.out wc.drew _ (blD (Below.refl _ _)) w5 hto5 (Look.Told.tell _ _ _) HQ.out)
        clear hto5
        go_wp2
        go_roundw
        case rel=>exact⟨p+1,by omega,by go_num,HR1⟩
        case measure=>simp[intOf]; omega
       ·have HQ:Hid (Look.inode ⟨ga,(ib:Int),(jb:Int)⟩ (k:Int) a.2 u p=t1):=by show _=_; rw[HA2.out,HSm.out,if_neg (by simp)]
        go_wp2_with fail
        refine wp_region_held_drew (S:=fun W=>W.cell? ⟨wr.heap.size,0,none⟩=some (.int .i64 x0)∧W.cell? ⟨B,5,none⟩=some (.map (some m.inn))∧(Instr.lookup 138 (.map (some m.inn)) (.int .i64 ((c:Int)+(p:Int)+1)) false).run Tryz.prog W = .ok (.bool true) W∧(Instr.lookup 138 (.map (some mb)) (.int .i64 (p:Int)) false).run Tryz.prog W = .ok (.bool true) W) (by kernel_rfl) (by first | trivial | assumption) (fun hHeld=>?_)
        refine tkH 0 ?_; simp only[Act.put,ps0]
        refine tkH 1 ?_; simp only[Act.put,ps0]
        refine tkH 2 ?_; simp only[Act.put,ps0]
        refine tkH 3 ?_; simp only[Act.put,ps0]
        refine tkH 4 ?_; simp only[Act.put,ps0]
        refine tkH 5 ?_; simp only[Act.put,ps0]
        refine tkH 6 ?_; simp only[Act.put,ps0]
        refine tkH 7 ?_; simp only[Act.put,ps0]
        refine tkH 8 ?_; simp only[Act.put,ps0]
        refine tkH 9 ?_; simp only[Act.put,ps0]
        refine tkH 10 ?_; simp only[Act.put,ps0]
        refine tkH 11 ?_; simp only[Act.put,ps0]
        refine tkH 12 ?_; simp only[Act.put,ps0]
        refine tkH 13 ?_; simp only[Act.put,ps0]
        refine tkH 14 ?_; simp only[Act.put,ps0]
        refine tkH 15 ?_; simp only[Act.put,ps0]
        refine tkH 16 ?_; simp only[Act.put,ps0]
        refine tkH 17 ?_; simp only[Act.put,ps0]
        refine tkH 18 ?_; simp only[Act.put,ps0]
        refine tkH 19 ?_; simp only[Act.put,ps0]
        refine tkH 20 ?_; simp only[Act.put,ps0]
        refine tkH 21 ?_; simp only[Act.put,ps0]
        refine wpAnyH_take (i:=22) (v:=undef) rfl (by kernel_rfl) (by kernel_rfl) (by kernel_rfl) (fun _ _ _ h=>h) (Or.inr ⟨by rfl,rfl⟩) hHeld ?_
        simp only[Act.put,ps0]
        refine wpAnyH_take (i:=23) (v:=undef) rfl (by kernel_rfl) (by kernel_rfl) (by kernel_rfl) (fun _ _ _ h=>h) (Or.inr ⟨by rfl,rfl⟩) hHeld ?_
        simp only[Act.put,ps0]
        refine wpAnyH_take (i:=24) (v:=undef) rfl (by kernel_rfl) (by kernel_rfl) (by kernel_rfl) (fun _ _ _ h=>h) (Or.inr ⟨by rfl,rfl⟩) hHeld ?_
        simp only[Act.put,ps0]
        refine tkH 25 ?_; simp only[Act.put,ps0]
        refine tkH 26 ?_; simp only[Act.put,ps0]
        refine tkH 27 ?_; simp only[Act.put,ps0]
        refine wpAnyH_done (by kernel_rfl) ?_ _
        have HR1:=zh (HNx.out wc.drew _ (blD (Below.refl _ _)) wc.drew (q7z.none (HC.out.1.1.below (blD (Below.refl _ _))) (Below.refl _ _)) (Look.Told.refl _) HQ.out)
        go_wp2
        go_roundw
        case rel=>exact⟨p+1,by omega,by go_num,HR1⟩
        case measure=>simp[intOf]; omega
  ·have hpi:ib=p:=by omega
   subst hpi
   have hp2:Look.upto (Look.inode ⟨ga,(ib:Int),(jb:Int)⟩ (k:Int) a.2) ib a.1=t2:=HT2.out
   have hr2:=HRel.out
   rw[hp2] at hr2
   have HR2:=zh hr2
   have htb2:=HTB.out wr hr2.1
   obtain⟨⟨-,-,c2⟩,-⟩:=hr2.1.look.cells
   dsimp only at c2
   have HTB2:=zh htb2
   clear htb2
   clear hr2 hp2 hp hlt HRel
   obtain⟨wo,rfl⟩:∃wo:World,wo=wr:=⟨_,rfl⟩
   go_wp2_with fail
   clear c2
   refine HTB2.out.mono ?_
   rintro e w6 ⟨v6,rfl,htk6,hto6⟩
   have HRel6:Hid (q60z w6 base B N ⟨ga,(ib:Int),(jb:Int)⟩ vs m S bp.1 bp.1 D w6):=⟨HR2.out.1.to hto6,q7z.none hto6.1 (Below.refl _ _),Look.Told.refl _⟩
   have HTo6:=zh hto6
   have HTk6:=zh htk6
   obtain⟨⟨-,-,c2⟩,-⟩:=hto6.1.cells
   dsimp only at c2
   clear hto6 htk6
   go_wp2
   clear c2
   go_loopw [105] (fun i105 wr=>∃q:Nat,q≤jb∧i105 = .int .i64 (q:Int)∧Hid (q60z w6 base B N ⟨ga,(ib:Int),(jb:Int)⟩ vs m S bp.1 (Look.upto (Look.block2 ⟨ga,(ib:Int),(jb:Int)⟩ (k:Int) bp.2) q bp.1) D wr)) (fun i105 _=>jb-(intOf i105).toNat)
   case atStart=>exact⟨0,Nat.zero_le _,rfl,HRel6⟩
   case round=>
    obtain⟨q,hq,rfl,HRel⟩:=hrel
    by_cases hlt:q<jb
    ·obtain⟨u,hu⟩:=zx (Look.upto (Look.block2 ⟨ga,(ib:Int),(jb:Int)⟩ (k:Int) bp.2) q bp.1)
     have hrel:=HRel.out
     rw[hu] at hrel
     have hst:Look.upto (Look.block2 ⟨ga,(ib:Int),(jb:Int)⟩ (k:Int) bp.2) (q+1) bp.1=Look.block2 ⟨ga,(ib:Int),(jb:Int)⟩ (k:Int) bp.2 u q:=by rw[←hu]; rfl
     have hbq:=fun W:World=>HBLK.out W q
     have hb2:Look.block2 ⟨ga,(ib:Int),(jb:Int)⟩ (k:Int) bp.2 u q =
      (match bp.2 with
        | none=>(if 1<u.cnt (blkAt ⟨ga,(ib:Int),(jb:Int)⟩ (k:Int) (q:Int)).1 then u.tell 3 (blkAt ⟨ga,(ib:Int),(jb:Int)⟩ (k:Int) (q:Int)).1 else u)
        | some l=>if 0<u.cnt (blkAt ⟨ga,(ib:Int),(jb:Int)⟩ (k:Int) (q:Int)).1∧q∉l then(if 1<u.cnt (blkAt ⟨ga,(ib:Int),(jb:Int)⟩ (k:Int) (q:Int)).1 then u.tell 3 (blkAt ⟨ga,(ib:Int),(jb:Int)⟩ (k:Int) (q:Int)).1 else u).tell 4 (blkAt ⟨ga,(ib:Int),(jb:Int)⟩ (k:Int) (q:Int)).1
          else if u.cnt (blkAt ⟨ga,(ib:Int),(jb:Int)⟩ (k:Int) (q:Int)).1=0∧q∈l then(if 1<u.cnt (blkAt ⟨ga,(ib:Int),(jb:Int)⟩ (k:Int) (q:Int)).1 then u.tell 3 (blkAt ⟨ga,(ib:Int),(jb:Int)⟩ (k:Int) (q:Int)).1 else u).tell 10 (blkAt ⟨ga,(ib:Int),(jb:Int)⟩ (k:Int) (q:Int)).1
          else(if 1<u.cnt (blkAt ⟨ga,(ib:Int),(jb:Int)⟩ (k:Int) (q:Int)).1 then u.tell 3 (blkAt ⟨ga,(ib:Int),(jb:Int)⟩ (k:Int) (q:Int)).1 else u)):=by
      unfold Look.block2
      rfl
     obtain⟨av,hav⟩:=zx ((blkAt ⟨ga,(ib:Int),(jb:Int)⟩ (k:Int) (q:Int)).1)
     obtain⟨ac,hac⟩:=zx ((blkAt ⟨ga,(ib:Int),(jb:Int)⟩ (k:Int) (q:Int)).2)
     simp only[hav] at hb2
     simp only[hav,hac] at hbq
     obtain⟨t1,ht1⟩:=zx ((if 1<u.cnt av then u.tell 3 av else u))
     rw[ht1] at hb2
     have hto1:u.Told t1:=by
      rw[←ht1]
      split
      ·exact Look.Told.tell _ _ _
      ·exact Look.Told.refl _
     obtain⟨x,hx⟩:=zx (u.cnt av)
     rw[hx] at hb2 ht1
     have hx1:t1.cnt av=x:=(hto1.cnt _).trans hx
     obtain⟨⟨c0,c1,c2⟩,-⟩:=hrel.1.look.cells
     dsimp only at c0 c1 c2
     have HSt:=zh hst
     have HB2:=zh hb2
     have HT1:=zh ht1
     have HTl:=zh hto1
     have HX:=zh hx
     have HX1:=zh hx1
     have HR0:=zh hrel
     have HBQ:=zh hbq
     clear hbq
     clear hrel hst hb2 hav hac ht1 hto1 hx hx1 hu HRel
     go_wp2_with fail
     clear c0 c1 c2
     refine(HBQ.out _).mono ?_
     rintro e w8 ⟨rfl,hb8⟩
     have HB8:=zh hb8
     have HL8:=zh (HR0.out.1.look.below hb8)
     have hcnt:=HL8.out.run_cnt av
     rw[HX.out] at hcnt
     obtain⟨-,-,-,-,-,c7,-⟩:=HL8.out.cells
     have htl:=q76z HL8.out 3 av
     unfold pt at htl
     have HTL:=zh htl
     clear htl
     clear hb8
     go_upto_if 124 with fail
     clear hcnt c7
     go_cut [] (fun wx=>Hid (q7z w8 base B ⟨ga,(ib:Int),(jb:Int)⟩ vs m t1 D wx))
     case first=>
      by_cases h1x:1<x
      ·have q1:decide (x > 1)=true:=decide_eq_true h1x
       have q1':decide (1<x)=true:=decide_eq_true h1x
       have hte:u.tell 3 av=t1:=by rw[←HT1.out,if_pos h1x]
       have HTe:=zh hte
       clear h1x hte
       try rw[q1]
       try rw[q1']
       go_wp2_with fail
       refine HTL.out.mono ?_
       rintro e w9 ⟨rfl,hto9⟩
       rw[HTe.out] at hto9
       have HR:=zh hto9
       clear hto9
       go_wp2
       go_meet
       case rel=>exact HR
      ·have q1:decide (x > 1)=false:=decide_eq_false h1x
       have q1':decide (1<x)=false:=decide_eq_false h1x
       have hte:u=t1:=by rw[←HT1.out,if_neg h1x]
       have HR:Hid (q7z w8 base B ⟨ga,(ib:Int),(jb:Int)⟩ vs m t1 D w8):=by rw[←hte]; exact q7z.none HL8.out (Below.refl _ _)
       clear h1x hte
       try rw[q1]
       try rw[q1']
       go_wp2
       go_meet
       case rel=>exact HR
     case rest=>
      have HC:=zh hcut.out
      clear hcut
      have hcnt:=HC.out.1.1.run_cnt av
      rw[HX1.out] at hcnt
      obtain⟨-,-,-,-,-,c7,-⟩:=HC.out.1.1.cells
      have hte:∀z:Int,Calls Tryz.prog 147 #[.pointer (some ⟨B,0,none⟩),.int .i64 z,.int .i64 av] wc fun e w'=>e = .returned (.tuple #[])∧q7z wc base B ⟨ga,(ib:Int),(jb:Int)⟩ vs m (t1.tell z av) D w':=fun z=>q76z HC.out.1.1 z av
      have HTe:=zh hte
      clear hte
      have HNx:Hid (∀(v:Look) (W':World),q7z wc base B ⟨ga,(ib:Int),(jb:Int)⟩ vs m v D W'→t1.Told v→Look.block2 ⟨ga,(ib:Int),(jb:Int)⟩ (k:Int) bp.2 u q=v→q60z w6 base B N ⟨ga,(ib:Int),(jb:Int)⟩ vs m S bp.1 (Look.upto (Look.block2 ⟨ga,(ib:Int),(jb:Int)⟩ (k:Int) bp.2) (q+1) bp.1) D W'):=fun v W' hto ht e=>by
       rw[HSt.out,e]
       exact q60z.next HR0.out HB8.out (HC.out.trans hto) (HTl.out.trans ht)
      rcases HTk6.out with ⟨ha2,rfl⟩ | ⟨ps,mb,l,ha2,rfl,hmb,hmlt,hml⟩
      ·have HQ:Hid (Look.block2 ⟨ga,(ib:Int),(jb:Int)⟩ (k:Int) bp.2 u q=t1):=by show _=_; rw[HB2.out,ha2]
       clear ha2
       have hmn:=eql_none
       have HR1:=zh (HNx.out _ wc (q7z.none HC.out.1.1 (Below.refl _ _)) (Look.Told.refl _) HQ.out)
       go_wp2
       go_roundw
       case rel=>exact⟨q+1,by omega,by go_num,HR1⟩
       case measure=>simp[intOf]; omega
      ·have hne:mb≠m.found:=by have:=HR2.out.1.look.found_lt; omega
       have hsm:=HB2.out
       have HA2:=zh ha2
       rw[ha2] at hsm
       dsimp only at hsm
       have hmw:IM.MapAt Value.bool wc mb l:=((HR0.out.2.1.behind HB8.out).trans HC.out).tkn hmb hne
       have hlk:=tkn_has hmw hml q
       obtain⟨dd,hdd⟩:=zx (decide (q∈ps))
       rw[hdd] at hlk
       have HSm:=zh hsm
       have HDd:=zh hdd
       clear hmb hml hmw ha2 hsm hdd hne hmlt
       have hmn:=fun W:World=>eql_some W mb
       by_cases hx0:0<x
       ·have q1:decide (x > 0)=true:=decide_eq_true hx0
        have q1':decide (0<x)=true:=decide_eq_true hx0
        have q2:(x == 0)=false:=beq_eq_false_iff_ne.2 (by omega)
        cases dd
        ·have HQ:Hid (Look.block2 ⟨ga,(ib:Int),(jb:Int)⟩ (k:Int) bp.2 u q=t1.tell 4 av):=by show _=_; rw[HA2.out,HSm.out,if_pos ⟨hx0,by simpa using HDd.out⟩]
         clear hx0
         go_wp2_with fail
         refine(HTe.out _).mono ?_
         rintro e w9 ⟨rfl,hto9⟩
         have HR1:=zh (HNx.out _ w9 hto9 (Look.Told.tell _ _ _) HQ.out)
         clear hto9 hcnt c7
         go_wp2
         go_roundw
         case rel=>exact⟨q+1,by omega,by go_num,HR1⟩
         case measure=>simp[intOf]; omega
        ·have HQ:Hid (Look.block2 ⟨ga,(ib:Int),(jb:Int)⟩ (k:Int) bp.2 u q=t1):=by show _=_; rw[HA2.out,HSm.out,if_neg (fun h=>h.2 (by simpa using HDd.out)),if_neg (fun h=>by omega)]
         clear hx0
         have HR1:=zh (HNx.out _ wc (q7z.none HC.out.1.1 (Below.refl _ _)) (Look.Told.refl _) HQ.out)
         go_wp2
         go_roundw
         case rel=>exact⟨q+1,by omega,by go_num,HR1⟩
         case measure=>simp[intOf]; omega
       ·have q1:decide (x > 0)=false:=decide_eq_false hx0
        have q1':decide (0<x)=false:=decide_eq_false hx0
        by_cases hz:x=0
        ·have q2:(x == 0)=true:=by rw[hz]; rfl
         cases dd
         ·have HQ:Hid (Look.block2 ⟨ga,(ib:Int),(jb:Int)⟩ (k:Int) bp.2 u q=t1):=by show _=_; rw[HA2.out,HSm.out,if_neg (fun h=>hx0 h.1),if_neg (fun h=>absurd h.2 (by simpa using HDd.out))]
          clear hx0 hz
          have HR1:=zh (HNx.out _ wc (q7z.none HC.out.1.1 (Below.refl _ _)) (Look.Told.refl _) HQ.out)
          go_wp2
          go_roundw
          case rel=>exact⟨q+1,by omega,by go_num,HR1⟩
          case measure=>simp[intOf]; omega
         ·have HQ:Hid (Look.block2 ⟨ga,(ib:Int),(jb:Int)⟩ (k:Int) bp.2 u q=t1.tell 10 av):=by show _=_; rw[HA2.out,HSm.out,if_neg (fun h=>hx0 h.1),if_pos ⟨hz,by simpa using HDd.out⟩]
          clear hx0 hz
          go_wp2_with fail
          refine(HTe.out _).mono ?_
          rintro e w9 ⟨rfl,hto9⟩
          have HR1:=zh (HNx.out _ w9 hto9 (Look.Told.tell _ _ _) HQ.out)
          clear hto9 hcnt c7
          go_wp2
          go_roundw
          case rel=>exact⟨q+1,by omega,by go_num,HR1⟩
          case measure=>simp[intOf]; omega
        ·have q2:(x == 0)=false:=beq_eq_false_iff_ne.2 hz
         have HQ:Hid (Look.block2 ⟨ga,(ib:Int),(jb:Int)⟩ (k:Int) bp.2 u q=t1):=by show _=_; rw[HA2.out,HSm.out,if_neg (fun h=>hx0 h.1),if_neg (fun h=>hz h.1)]
         clear hx0 hz
         have HR1:=zh (HNx.out _ wc (q7z.none HC.out.1.1 (Below.refl _ _)) (Look.Told.refl _) HQ.out)
         go_wp2
         go_roundw
         case rel=>exact⟨q+1,by omega,by go_num,HR1⟩
         case measure=>simp[intOf]; omega
    ·have hqj:jb=q:=by omega
     subst hqj
     have HEnd:Hid (q8z w base B ⟨ga,(ib:Int),(jb:Int)⟩ vs m (Look.upto (Look.block2 ⟨ga,(ib:Int),(jb:Int)⟩ (k:Int) bp.2) jb bp.1) D wr D):=((HTo1.out.trans HR2.out.2.1.1).trans HTo6.out).trans HRel.out.2.1.1
     clear hq hlt HRel
     go_wp2
     go_end0
     exact⟨rfl,HEnd.out⟩
end
