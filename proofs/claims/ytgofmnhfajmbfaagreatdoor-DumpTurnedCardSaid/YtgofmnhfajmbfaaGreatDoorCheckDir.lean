import Derived.Test.YtgofmnhfajmbfaaGreatDoorCheckWalkA
import Derived.Test.YtgofmnhfajmbfaaGreatDoorEntryDec
namespace Go.Proofs.YtgofmnhfajmbfaaGreatDoor
open Go Go.RowKit Txt Sp
/-- What is noted, and the sectors beside it. -/
structure LookS (w:World) (base B N:Nat) (g:Sp.Geom) (vs:Value) (m:LookP) (S:Int→ByteArray) (t:Sp.Look) (D:Nat→Prop):Prop where
 look:LookAt w base B g vs m t D
 secs:q45z w vs N S D
 max:MaxOk w
 glob:0<base
 size:(N:Int)=g.size
 ok:g.ok
section
variable {w w1 w':World} {base B N:Nat} {g:Sp.Geom} {vs:Value} {m:LookP} {t t':Sp.Look} {D D' K:Nat→Prop} {S:Int→ByteArray}
theorem LookS.to (h:LookS w base B N g vs m S t D) (k:q8z w base B g vs m t' D w' D'):LookS w' base B N g vs m S t' D':=by
 refine⟨k.1,h.secs.to k,?_,h.glob,h.size,h.ok⟩
 obtain⟨x,hx⟩:=h.max
 refine⟨x,?_⟩
 have hlt:=World.block_lt_of_cell? _ _ hx
 have hb:=k.2.2.block _ hlt (fun hd=>by have h1:base≤0:=(h.look.low.2 _ hd).1; have h2:=h.glob; omega)
 unfold World.cell? at hx ⊢
 simp only at hx ⊢
 rw[hb]
 exact hx
theorem LookS.below (h:LookS w base B N g vs m S t D) (hb:Below w.heap.size w w'):LookS w' base B N g vs m S t D:=⟨h.look.below hb,h.secs.below hb,h.max.below hb,h.glob,h.size,h.ok⟩
theorem index_entry (E:Nat→Sp.Entry) (W:World) (k:Nat) (hk:k<4):(Instr.index 331 (.agg #[.int .i64 (E 0).inode,.string (E 0).name,.int .i64 (E 1).inode,.string (E 1).name,.int .i64 (E 2).inode,.string (E 2).name,.int .i64 (E 3).inode,.string (E 3).name]) (.int .i64 (k:Int))).run Tryz.prog W = .ok (.agg #[.int .i64 (E k).inode,.string (E k).name]) W:=by
 have h0:(Instr.index 331 (.agg #[.int .i64 (E 0).inode,.string (E 0).name,.int .i64 (E 1).inode,.string (E 1).name,.int .i64 (E 2).inode,.string (E 2).name,.int .i64 (E 3).inode,.string (E 3).name]) (.int .i64 0)).run Tryz.prog W = .ok (.agg #[.int .i64 (E 0).inode,.string (E 0).name]) W:=by kernel_rfl
 have h1:(Instr.index 331 (.agg #[.int .i64 (E 0).inode,.string (E 0).name,.int .i64 (E 1).inode,.string (E 1).name,.int .i64 (E 2).inode,.string (E 2).name,.int .i64 (E 3).inode,.string (E 3).name]) (.int .i64 1)).run Tryz.prog W = .ok (.agg #[.int .i64 (E 1).inode,.string (E 1).name]) W:=by kernel_rfl
 have h2:(Instr.index 331 (.agg #[.int .i64 (E 0).inode,.string (E 0).name,.int .i64 (E 1).inode,.string (E 1).name,.int .i64 (E 2).inode,.string (E 2).name,.int .i64 (E 3).inode,.string (E 3).name]) (.int .i64 2)).run Tryz.prog W = .ok (.agg #[.int .i64 (E 2).inode,.string (E 2).name]) W:=by kernel_rfl
 have h3:(Instr.index 331 (.agg #[.int .i64 (E 0).inode,.string (E 0).name,.int .i64 (E 1).inode,.string (E 1).name,.int .i64 (E 2).inode,.string (E 2).name,.int .i64 (E 3).inode,.string (E 3).name]) (.int .i64 3)).run Tryz.prog W = .ok (.agg #[.int .i64 (E 3).inode,.string (E 3).name]) W:=by kernel_rfl
 match k,hk with
 | 0,_=>exact h0
 | 1,_=>exact h1
 | 2,_=>exact h2
 | 3,_=>exact h3
 | k+4,h=>omega
def DirPost (w:World) (base B:Nat) (g:Sp.Geom) (vs:Value) (m:LookP) (D:Nat→Prop) (p:Sp.Look×List Int) (e:Ending) (w':World):Prop:=
 ∃v D',e = .returned v∧OwnR 3 1 intC w.heap.size w' v p.2∧q8z w base B g vs m p.1 D w' D'∧∀k,v.ownBlock=some k→¬D' k
def q33z (w:World) (base B:Nat) (g:Sp.Geom) (vs:Value) (m:LookP) (D:Nat→Prop) (v:Value) (p:Sp.Look×List Int) (wr:World):Prop:=
 ∃D',OwnR 3 1 intC w.heap.size wr v p.2∧q8z w base B g vs m p.1 D wr D'∧∀k,v.ownBlock=some k→¬D' k
theorem names_len {M c:Nat} (h:t.Inv g M c) (x:Int):(t.namesOf x).length≤M:=by
 unfold Look.namesOf
 cases hx:IM.getM t.names x with
 | none=>simp
 | some l=>have:=h.len x l hx; simp; omega
theorem q33z.below {v:Value} {p:Sp.Look×List Int} (h:q33z w base B g vs m D v p w1) (hb:Below w1.heap.size w1 w'):q33z w base B g vs m D v p w':=by
 obtain⟨D',h1,h2,h3⟩:=h
 exact⟨D',h1.below hb,h2.behind hb,h3⟩
theorem q33z.look {v:Value} {p:Sp.Look×List Int} {D2:Nat→Prop} (hrow:OwnR 3 1 intC w.heap.size w1 v p.2) (hto:q8z w base B g vs m p.1 D w1 D') (hap:∀k,v.ownBlock=some k→¬D' k) (h2:q8z w1 base B g vs m t' D' w' D2):q33z w base B g vs m D v (t',p.2) w':=by
 obtain⟨r1,r2⟩:=h2.row hrow hap
 exact⟨D2,r1,hto.trans h2,r2⟩
theorem q33z.next {W:World} {u v:Value} {p:Sp.Look×List Int} {x:Int} (h:q33z w base B g vs m D v p w1) (hB:B<w.heap.size) (hb:Below w1.heap.size w1 W) (hg:W.grownBy w' v.ownBlock) (hown:OwnR 3 1 intC w.heap.size w' u (p.2 ++ [x])) (hat:∀k,u.ownBlock=some k→v.ownBlock=some k∨W.heap.size≤k):q33z w base B g vs m D u (p.1,p.2 ++ [x]) w':=by
 obtain⟨D',h1,h2,h3⟩:=h
 refine⟨D',hown,(h2.behind hb).turned hB (q108z hg) (fun j hj=>⟨h3 j hj,(h1.lt j hj).1⟩),fun k hk=>?_⟩
 rcases hat k hk with h4 | h4
 ·exact h3 k h4
 ·intro hd
  have h5:=(h2.1.low.2 k hd).2
  have h6:=hb.size
  omega
set_option maxHeartbeats 4000000 in
set_option maxRecDepth 20000 in
theorem cdir_any (h:LookS w base B N g vs m S t D) {c:Nat} (hinv:t.Inv g 30000 (c+4)) (hR:t.Room 30000 (c+4)) (i:Int) (a:Nat) (ha:a<N):Calls Tryz.prog 208 #[pt B,.int .i64 i,.int .i64 (a:Int)] w (DirPost w base B g vs m D (t.dir g S i a)):=by
 obtain⟨ga,gb,gc⟩:=g
 have hno:¬q24z (S a)→t.dir ⟨ga,gb,gc⟩ S i a=(t.tell 1 a,[]):=fun e=>by unfold Look.dir; rw[if_neg e]
 have hyes:q24z (S a)→t.dir ⟨ga,gb,gc⟩ S i a=Look.slots ⟨ga,gb,gc⟩ (S a) i a 4 (t,[]):=fun e=>by unfold Look.dir; rw[if_pos e]
 obtain⟨b,hb⟩:=zx (t.dir ⟨ga,gb,gc⟩ S i a)
 rw[hb] at hno hyes ⊢
 obtain⟨bv,o,cap,rfl,hN6,hcell⟩:=h.secs.facts ha
 obtain⟨s,hs⟩:=zx (S a)
 rw[hs] at hcell hno hyes
 have hed:=edecode_any w s h.max
 obtain⟨⟨x0,x1,x2⟩,x3,-⟩:=h.look.cells
 have ha0:(0:Int)≤(a:Int):=by omega
 have ha1:(a:Int)<(N:Int):=by omega
 have HH:=zh h
 unfold EDec at hed
 by_cases hd:q24z s
 ·rw[if_pos hd,if_pos hd] at hed
  have HYes:=zh (hyes hd)
  obtain⟨E,hE⟩:∃E:Nat→Sp.Entry,(fun k=>q2z s k)=E:=⟨_,rfl⟩
  have hed2:Calls Tryz.prog 261 #[.string s] w fun e w'=>e = .returned (.tuple #[.agg #[.int .i64 (E 0).inode,.string (E 0).name,.int .i64 (E 1).inode,.string (E 1).name,.int .i64 (E 2).inode,.string (E 2).name,.int .i64 (E 3).inode,.string (E 3).name],.int .i64 0])∧Below w.heap.size w w':=by
   subst hE
   exact hed
  have HED2:=zh hed2
  clear hed2
  clear hed hno hyes hd hb h
  unfold pt
  go_enter Tryz.func208,Tryz.ntmps208
  go_wp2_with fail
  clear x0 x1 x2 x3 hcell
  refine HED2.out.mono ?_
  rintro e w1 ⟨rfl,hb1⟩
  obtain⟨W2,hW2⟩:=zx (w1.alloc (.cells #[.int .i64 (E 0).inode,.string (E 0).name,.int .i64 (E 1).inode,.string (E 1).name,.int .i64 (E 2).inode,.string (E 2).name,.int .i64 (E 3).inode,.string (E 3).name] 331))
  have HB2:Hid (Below w.heap.size w W2):=blN hb1 (by rw[←hW2]; exact bl2 _)
  have HZ2:Hid (W2.heap[w1.heap.size]? = some (.cells #[.int .i64 (E 0).inode,.string (E 0).name,.int .i64 (E 1).inode,.string (E 1).name,.int .i64 (E 2).inode,.string (E 2).name,.int .i64 (E 3).inode,.string (E 3).name] 331 (0,0))):=by rw[←hW2]; exact q5z w1 _
  obtain⟨z,-⟩:=blk_cells HZ2.out
  clear hb1
  have hix:∀(W:World) (k:Nat),k<4→(Instr.index 331 (.agg #[.int .i64 (E 0).inode,.string (E 0).name,.int .i64 (E 1).inode,.string (E 1).name,.int .i64 (E 2).inode,.string (E 2).name,.int .i64 (E 3).inode,.string (E 3).name]) (.int .i64 (k:Int))).run Tryz.prog W = .ok (.agg #[.int .i64 (E k).inode,.string (E k).name]) W:=index_entry E
  have HIX:=zh hix
  have HStart:Hid (q33z w base B ⟨ga,gb,gc⟩ (.slice (some ⟨bv,o,none⟩) N cap) m D (.slice none 0 0) (Look.slots ⟨ga,gb,gc⟩ s i a 0 (t,[])) W2):=⟨D,OwnR.void _ _,q8z.none HH.out.look HB2.out,fun k hk=>by cases hk⟩
  have HAll:Hid (∀k,k≤4→(Look.slots ⟨ga,gb,gc⟩ s i a k (t,[])).1.Inv ⟨ga,gb,gc⟩ 30000 (c+(4-k))∧(Look.slots ⟨ga,gb,gc⟩ s i a k (t,[])).2.length≤k):=fun k hk=>by
   have e:c+4=(c+(4-k))+k:=by omega
   have h1:=Look.slots_all (p:=(t,[])) (s:=s) (i:=i) (a:=a) k (c:=c+(4-k)) (by rw[←e]; exact hinv) (by rw[←e]; exact hR) (fun y hy=>by cases hy)
   exact⟨h1.1,by have:=h1.2.2.2; simpa using this⟩
  have HZw1:Hid (w1.heap.size<W2.heap.size):=by rw[←hW2]; show _<_; simp
  clear hix hinv hR
  have HA0:=zh ha0
  have HA1:=zh ha1
  clear ha0 ha1
  go_wp2
  clear z hW2
  go_loopw [6,30] (fun v i30 wr=>∃k:Nat,k≤4∧i30 = .int .i64 (k:Int)∧Hid (q33z w base B ⟨ga,gb,gc⟩ (.slice (some ⟨bv,o,none⟩) N cap) m D v (Look.slots ⟨ga,gb,gc⟩ s i a k (t,[])) wr)) (fun _ i30 _=>4-(intOf i30).toNat)
  case atStart=>exact⟨0,Nat.zero_le _,rfl,HStart⟩
  case round=>
   obtain⟨k,hk,rfl,HRel⟩:=hrel
   by_cases hlt:k<4
   ·obtain⟨D',hrow,hto,hap⟩:=HRel.out
    have hx:=fun W=>HIX.out W k hlt
    obtain⟨p,hp⟩:=zx (Look.slots ⟨ga,gb,gc⟩ s i a k (t,[]))
    have hall:=HAll.out k (by omega)
    rw[hp] at hrow hto hall
    have hstep:Look.slots ⟨ga,gb,gc⟩ s i a (k+1) (t,[])=Look.slot ⟨ga,gb,gc⟩ i a (E k).inode p:=by rw[←hp,←hE]; rfl
    obtain⟨x,hxe⟩:=zx ((E k).inode)
    obtain⟨nm,hnm⟩:=zx ((E k).name)
    rw[hxe] at hstep
    rw[hxe,hnm] at hx
    have HStep:=zh hstep
    have HRelW:Hid (∀W,Below wr.heap.size wr W→q33z w base B ⟨ga,gb,gc⟩ (.slice (some ⟨bv,o,none⟩) N cap) m D u6 p W):=fun W hW=>q33z.below ⟨D',hrow,hto,hap⟩ hW
    obtain⟨W3,hW3⟩:=zx (wr.alloc (.cells #[.int .i64 x,.string nm] 330))
    have HB3:Hid (Below wr.heap.size wr W3):=by rw[←hW3]; exact bl2 _
    have HZ3:Hid (W3.heap[wr.heap.size]? = some (.cells #[.int .i64 x,.string nm] 330 (0,0))):=by rw[←hW3]; exact q5z wr _
    have HL:=zh (HH.out.to hto)
    have HTo:=zh hto
    have HRow:=zh hrow
    have HAp:=zh hap
    have HInv:=zh hall
    obtain⟨P,hP⟩:=zx (p.1)
    clear hrow hto hap hall hp hstep hxe hnm HRel hP
    have hlk3:=fun W (hW:Below W3.heap.size W3 W)=>(HL.out.look.below (blN HB3.out hW)).run_node2 x
    obtain⟨n,hn⟩:=zx (p.1.node x)
    obtain⟨gd,hgd⟩:=zx ((IM.getM p.1.nodes x).isSome)
    rw[hn,hgd] at hlk3
    unfold nA iA at hlk3
    obtain⟨y0,hy0⟩:=zx (n.kind)
    obtain⟨y1,hy1⟩:=zx (n.links)
    obtain⟨y2,hy2⟩:=zx (n.size)
    obtain⟨y3,hy3⟩:=zx (n.parent)
    obtain⟨y4,hy4⟩:=zx (n.gen)
    obtain⟨e0,he0⟩:=zx (n.direct.getD 0 0)
    obtain⟨e1,he1⟩:=zx (n.direct.getD 1 0)
    obtain⟨e2,he2⟩:=zx (n.direct.getD 2 0)
    obtain⟨e3,he3⟩:=zx (n.direct.getD 3 0)
    obtain⟨e4,he4⟩:=zx (n.direct.getD 4 0)
    obtain⟨e5,he5⟩:=zx (n.direct.getD 5 0)
    obtain⟨e6,he6⟩:=zx (n.direct.getD 6 0)
    obtain⟨e7,he7⟩:=zx (n.direct.getD 7 0)
    obtain⟨y6,hy6⟩:=zx (n.more)
    simp only[hy0,hy1,hy2,hy3,hy4,he0,he1,he2,he3,he4,he5,he6,he7,hy6] at hlk3
    have HKd:Hid ((p.1.node x).kind=y0∧(IM.getM p.1.nodes x).isSome=gd):=⟨by rw[hn]; exact hy0,hgd⟩
    have hS:∀W,Below W3.heap.size W3 W→W.cell? ⟨B,4,none⟩=some (.map (some m.nodes))∧W.cell? ⟨wr.heap.size,0,none⟩=some (.int .i64 x)∧(Instr.lookup 137 (.map (some m.nodes)) (.int .i64 x) true).run Tryz.prog W = .ok (.tuple #[.agg #[.int .i64 y0,.int .i64 y1,.int .i64 y2,.int .i64 y3,.int .i64 y4,.int .i64 e0,.int .i64 e1,.int .i64 e2,.int .i64 e3,.int .i64 e4,.int .i64 e5,.int .i64 e6,.int .i64 e7,.int .i64 y6],.bool gd]) W:=fun W hW=>by
     obtain⟨-,-,c4,-⟩:=(HL.out.look.below (blN HB3.out hW)).cells
     exact⟨c4,cellOf (q1z hW HZ3.out) rfl,hlk3 W hW⟩
    have HS:=zh hS
    obtain⟨s0,s1,s2⟩:=HS.out W3.drew (blD (Below.refl _ _))
    clear hlk3 hn hgd hy0 hy1 hy2 hy3 hy4 he0 he1 he2 he3 he4 he5 he6 he7 hy6 hS
    go_wp2_with fail
    clear hx hW3
    have hS3:=HS.out W3.drew (blD (Below.refl _ _))
    refine wp_region_held_drew (S:=(fun W=>W.cell? ⟨B,4,none⟩=some (.map (some m.nodes))∧W.cell? ⟨wr.heap.size,0,none⟩=some (.int .i64 x)∧(Instr.lookup 137 (.map (some m.nodes)) (.int .i64 x) true).run Tryz.prog W = .ok (.tuple #[.agg #[.int .i64 y0,.int .i64 y1,.int .i64 y2,.int .i64 y3,.int .i64 y4,.int .i64 e0,.int .i64 e1,.int .i64 e2,.int .i64 e3,.int .i64 e4,.int .i64 e5,.int .i64 e6,.int .i64 e7,.int .i64 y6],.bool gd]) W)) (by kernel_rfl) (by first | trivial | assumption) (fun hHeld=>?_)
    refine tkH 0 ?_; simp only[Act.put,ps0]
    refine tkH 1 ?_; simp only[Act.put,ps0]
    refine tkH 2 ?_; simp only[Act.put,ps0]
    refine tkH 3 ?_; simp only[Act.put,ps0]
    refine tkH 4 ?_; simp only[Act.put,ps0]
    refine tkH 5 ?_; simp only[Act.put,ps0]
    refine tkH 6 ?_; simp only[Act.put,ps0]
    refine tkH 7 ?_; simp only[Act.put,ps0]
    refine tkH 8 ?_; simp only[Act.put,ps0]
    refine tkH 9 ?_; simp only[Act.put,ps0]
    refine wpAnyH_ready (rs:=[10]) (by kernel_rfl) (by simp) ?_
    refine AllReadyH.cons rfl (fun K hK=>?_) AllReadyH.nil
    try simp only[gg0]
    go_simp
    try simp only
    refine hK.out _ _ ?hkS (fun hHeld=>?_)
    case hkS=>
     exact HS.out _ (bl1 (blD (Below.refl _ _)) _)
    clear hK K
    try simp only[Act.put,ps0]
    refine wpAnyH_ready (rs:=[11]) (by kernel_rfl) (by simp) ?_
    refine AllReadyH.cons rfl (fun K hK=>?_) AllReadyH.nil
    try simp only[gg0]
    go_simp
    try simp only
    refine hK.out _ _ ?hkS (fun hHeld=>?_)
    case hkS=>
     exact HS.out _ (blD (bl2 _))
    clear hK K
    try simp only[Act.put,ps0]
    refine tkH 12 ?_; simp only[Act.put,ps0]
    refine wpAnyH_done (by kernel_rfl) ?_ _
    obtain⟨W4,hW4⟩:=zx ((W3.alloc (.cells #[.int .i64 y0,.int .i64 y1,.int .i64 y2,.int .i64 y3,.int .i64 y4,.int .i64 e0,.int .i64 e1,.int .i64 e2,.int .i64 e3,.int .i64 e4,.int .i64 e5,.int .i64 e6,.int .i64 e7,.int .i64 y6] 69)).drew)
    have HB4:Hid (Below W3.heap.size W3 W4):=by rw[←hW4]; exact blD (bl2 _)
    have HZ4:Hid (W4.heap[W3.heap.size]? = some (.cells #[.int .i64 y0,.int .i64 y1,.int .i64 y2,.int .i64 y3,.int .i64 y4,.int .i64 e0,.int .i64 e1,.int .i64 e2,.int .i64 e3,.int .i64 e4,.int .i64 e5,.int .i64 e6,.int .i64 e7,.int .i64 y6] 69 (0,0))):=by rw[←hW4]; exact q5z W3 _
    rw[hW4]
    have HX4:=zh (q1z HB4.out HZ3.out)
    have HBr4:=zh (blN HB3.out HB4.out)
    have w0:W4.cell? ⟨wr.heap.size,0,none⟩=some (.int .i64 x):=cellOf HX4.out rfl
    clear s0 s1 s2 hS3 hW4 HS
    clear hHeld
    clear hHeld
    clear hHeld
    by_cases hx0:x=0
    ·have q0:(x == 0)=true:=by rw[hx0]; rfl
     have hp1:Look.slot ⟨ga,gb,gc⟩ i a x p=p:=by unfold Look.slot; rw[if_pos hx0]
     have HR1:Hid (q33z w base B ⟨ga,gb,gc⟩ (.slice (some ⟨bv,o,none⟩) N cap) m D u6 (Look.slots ⟨ga,gb,gc⟩ s i a (k+1) (t,[])) W4):=by rw[HStep.out,hp1]; exact HRelW.out _ HBr4.out
     clear hp1 hx0
     go_wp2
     go_roundw
     case rel=>exact⟨k+1,by omega,by go_num,HR1⟩
     case measure=>simp[intOf]; omega
    ·have q0:(x == 0)=false:=beq_eq_false_iff_ne.2 hx0
     have hmn:=fun W:World=>q98z W ⟨ga,gb,gc⟩
     obtain⟨M,hM⟩:=zx (Geom.many ⟨ga,gb,gc⟩)
     rw[hM] at hmn
     unfold gV at hmn
     dsimp only at hmn
     have HM:=zh hM
     have HX0:=zh hx0
     have hS2:∀W,Below W4.heap.size W4 W→W.cell? ⟨B,0,none⟩=some (.int .i64 ga)∧W.cell? ⟨B,1,none⟩=some (.int .i64 gb)∧W.cell? ⟨B,2,none⟩=some (.int .i64 gc)∧W.cell? ⟨wr.heap.size,0,none⟩=some (.int .i64 x)∧W.cell? ⟨W3.heap.size,0,none⟩=some (.int .i64 y0):=fun W hW=>by
      obtain⟨⟨c0,c1,c2⟩,-⟩:=(HL.out.look.below (blN HBr4.out hW)).cells
      exact⟨c0,c1,c2,cellOf (q1z hW HX4.out) rfl,cellOf (q1z hW HZ4.out) rfl⟩
     have HS2:=zh hS2
     have hS4:=HS2.out W4.drew (blD (Below.refl _ _))
     have HMN:=zh hmn
     clear hmn
     clear hM hx0 hS2
     go_wp2_with fail
     clear w0
     refine wp_region_held_drew (S:=(fun W=>W.cell? ⟨B,0,none⟩=some (.int .i64 ga)∧W.cell? ⟨B,1,none⟩=some (.int .i64 gb)∧W.cell? ⟨B,2,none⟩=some (.int .i64 gc)∧W.cell? ⟨wr.heap.size,0,none⟩=some (.int .i64 x)∧W.cell? ⟨W3.heap.size,0,none⟩=some (.int .i64 y0))) (by kernel_rfl) (by first | trivial | assumption) (fun hHeld=>?_)
     refine tkH 0 ?_; simp only[Act.put,ps0]
     refine tkH 1 ?_; simp only[Act.put,ps0]
     refine tkH 2 ?_; simp only[Act.put,ps0]
     refine tkH 3 ?_; simp only[Act.put,ps0]
     refine tkH 4 ?_; simp only[Act.put,ps0]
     refine tkH 5 ?_; simp only[Act.put,ps0]
     refine wpAnyH_ready (rs:=[6]) (by kernel_rfl) (by simp) ?_
     refine AllReadyH.cons rfl (fun K hK=>?_) AllReadyH.nil
     try simp only[gg0]
     go_simp
     refine(HMN.out _).mono ?_
     rintro e w5 ⟨rfl,hb5⟩
     have HB5:Hid (Below W4.heap.size W4 w5):=blN (blD (Below.refl _ _)) hb5
     clear hb5
     try simp only
     refine hK.out _ _ ?hkS (fun hHeld=>?_)
     case hkS=>
      exact HS2.out _ HB5.out
     clear hK K
     try simp only[Act.put,ps0]
     have HB5r:=zh (blN HBr4.out HB5.out)
     have HL5:=zh (HL.out.below HB5r.out)
     have HTo5:=zh (HTo.out.behind HB5r.out)
     have HRow5:=zh (OwnR.below HRow.out HB5r.out)
     have HEnd:Hid (∀(v:Value) (r:Look×List Int) (W:World),Look.slot ⟨ga,gb,gc⟩ i a x p=r→q33z w base B ⟨ga,gb,gc⟩ (.slice (some ⟨bv,o,none⟩) N cap) m D v r W→Hid (q33z w base B ⟨ga,gb,gc⟩ (.slice (some ⟨bv,o,none⟩) N cap) m D v (Look.slots ⟨ga,gb,gc⟩ s i a (k+1) (t,[])) W)):=fun v r W e h=>by
      have e2:=HStep.out
      rw[e] at e2
      rw[e2]
      exact h
     by_cases hmx:M<x
     ·have qM:decide (x > M)=true:=decide_eq_true hmx
      have HP1:Hid (Look.slot ⟨ga,gb,gc⟩ i a x p=(p.1.tell 2 a,p.2)):=by
       show _=_
       unfold Look.slot
       rw[if_neg HX0.out,if_pos (Or.inl (by rw[HM.out]; exact hmx))]
      clear hmx
      refine tkH 7 ?_; simp only[Act.put,ps0]
      refine tkH 8 ?_; simp only[Act.put,ps0]
      refine wpAnyH_take (i:=9) (v:=undef) rfl (by kernel_rfl) (by kernel_rfl) (by kernel_rfl) (fun _ _ _ h=>h) (Or.inr ⟨by rfl,rfl⟩) hHeld ?_
      simp only[Act.put,ps0]
      refine wpAnyH_take (i:=10) (v:=undef) rfl (by kernel_rfl) (by kernel_rfl) (by kernel_rfl) (fun _ _ _ h=>h) (Or.inr ⟨by rfl,rfl⟩) hHeld ?_
      simp only[Act.put,ps0]
      refine wpAnyH_take (i:=11) (v:=undef) rfl (by kernel_rfl) (by kernel_rfl) (by kernel_rfl) (fun _ _ _ h=>h) (Or.inr ⟨by rfl,rfl⟩) hHeld ?_
      simp only[Act.put,ps0]
      refine wpAnyH_take (i:=12) (v:=undef) rfl (by kernel_rfl) (by kernel_rfl) (by kernel_rfl) (fun _ _ _ h=>h) (Or.inr ⟨by rfl,rfl⟩) hHeld ?_
      simp only[Act.put,ps0]
      refine wpAnyH_take (i:=13) (v:=undef) rfl (by kernel_rfl) (by kernel_rfl) (by kernel_rfl) (fun _ _ _ h=>h) (Or.inr ⟨by rfl,rfl⟩) hHeld ?_
      simp only[Act.put,ps0]
      refine wpAnyH_take (i:=14) (v:=undef) rfl (by kernel_rfl) (by kernel_rfl) (by kernel_rfl) (fun _ _ _ h=>h) (Or.inr ⟨by rfl,rfl⟩) hHeld ?_
      simp only[Act.put,ps0]
      refine tkH 15 ?_; simp only[Act.put,ps0]
      refine tkH 16 ?_; simp only[Act.put,ps0]
      refine wpAnyH_done (by kernel_rfl) ?_ _
      clear hHeld hS4
      have htl:=q73z HL5.out.look 2 (a:Int)
      unfold pt at htl
      have HTL:=zh htl
      clear htl
      go_wp2_with fail
      refine HTL.out.mono ?_
      rintro e w6 ⟨rfl,hto6⟩
      have HR1:=HEnd.out u6 _ w6 HP1.out (q33z.look HRow5.out HTo5.out HAp.out hto6)
      clear hto6
      go_wp2
      go_roundw
      case rel=>exact⟨k+1,by omega,by go_num,HR1⟩
      case measure=>simp[intOf]; omega
     ·have qM:decide (x > M)=false:=decide_eq_false hmx
      have hmx':¬Geom.many ⟨ga,gb,gc⟩<x:=by rw[HM.out]; exact hmx
      clear hmx
      cases gd
      ·have HP1:Hid (Look.slot ⟨ga,gb,gc⟩ i a x p=(p.1.name x i,p.2)):=by
        show _=_
        unfold Look.slot
        rw[if_neg HX0.out,if_neg (fun h=>h.elim hmx' (fun h=>by rw[HKd.out.2] at h; cases h.1)),if_neg (by rw[HKd.out.2]; decide)]
       clear hmx'
       refine tkH 7 ?_; simp only[Act.put,ps0]
       refine tkH 8 ?_; simp only[Act.put,ps0]
       refine tkH 9 ?_; simp only[Act.put,ps0]
       refine tkH 10 ?_; simp only[Act.put,ps0]
       refine wpAnyH_take (i:=11) (v:=undef) rfl (by kernel_rfl) (by kernel_rfl) (by kernel_rfl) (fun _ _ _ h=>h) (Or.inr ⟨by rfl,rfl⟩) hHeld ?_
       simp only[Act.put,ps0]
       refine wpAnyH_take (i:=12) (v:=undef) rfl (by kernel_rfl) (by kernel_rfl) (by kernel_rfl) (fun _ _ _ h=>h) (Or.inr ⟨by rfl,rfl⟩) hHeld ?_
       simp only[Act.put,ps0]
       refine wpAnyH_take (i:=13) (v:=undef) rfl (by kernel_rfl) (by kernel_rfl) (by kernel_rfl) (fun _ _ _ h=>h) (Or.inr ⟨by rfl,rfl⟩) hHeld ?_
       simp only[Act.put,ps0]
       refine tkH 14 ?_; simp only[Act.put,ps0]
       refine tkH 15 ?_; simp only[Act.put,ps0]
       refine tkH 16 ?_; simp only[Act.put,ps0]
       refine wpAnyH_done (by kernel_rfl) ?_ _
       clear hHeld hS4
       obtain⟨vn,hlk,hvn,hvD,hnm⟩:=HL5.out.look.naming x i
       have hnl:=names_len HInv.out.1 x
       obtain⟨ln,hln⟩:=zx (p.1.namesOf x)
       rw[hln] at hvn hnm hnl
       have hmlt:∀k,vn.ownBlock=some k→k<wr.heap.size:=fun k hk=>(HL.out.look.low.2 k (hvD k hk)).2
       have hS3:∀W,Turn (fun j=>vn.ownBlock=some j) w5 W→W.cell? ⟨B,6,none⟩=some (.map (some m.names))∧W.cell? ⟨wr.heap.size,0,none⟩=some (.int .i64 x)∧(Instr.lookup 139 (.map (some m.names)) (.int .i64 x) false).run Tryz.prog W = .ok vn W:=fun W hW=>by
        refine⟨cellOf (hW.heap HL5.out.look.box (fun e=>HL5.out.look.notB (hvD _ e))) rfl,cellOf (hW.heap (q1z HB5.out HX4.out) (fun e=>by have:=hmlt _ e; omega)) rfl,hlk W hW⟩
       have HS3:=zh hS3
       obtain⟨W8,hW8⟩:=zx ((w5.alloc (.cells #[.int .i64 i] 3)).drew)
       have hW8':w5.drew.alloc (.cells #[.int .i64 i] 3)=W8:=hW8
       have HB8:Hid (Below w5.heap.size w5 W8):=by rw[←hW8]; exact blD (bl2 _)
       have hz8:W8.heap[w5.heap.size]? = some (.cells #[.int .i64 i] 3 (0,0)):=by rw[←hW8]; exact q5z w5 _
       have hs8:W8.heap.size=w5.heap.size+1:=by rw[←hW8]; show(w5.alloc _).heap.size=_; simp
       have hown8:=OwnR.below hvn HB8.out
       unfold OwnR at hown8
       have HOwn8:=zh hown8
       have HNm:=zh hnm
       have HBs:Hid (base≤w5.heap.size):=HL5.out.look.le
       have HMlt:=zh hmlt
       have HZw5:=zh HB5r.out.size
       have HZ8:=zh hz8
       have HSz8:=zh hs8
       have hS5:=HS3.out w5.drew (Turn.of_below (blD (Below.refl _ _)))
       obtain⟨ia,ib,ic,id,ie⟩:=info_parts q103z
       clear hlk hvn hvD hnm hln hmlt hS3 hown8 hz8 hs8
       go_wp2_with fail
       refine wp_region_tail (fun W=>W.cell? ⟨B,6,none⟩=some (.map (some m.names))∧W.cell? ⟨wr.heap.size,0,none⟩=some (.int .i64 x)∧(Instr.lookup 139 (.map (some m.names)) (.int .i64 x) false).run Tryz.prog W = .ok vn W) 16 (by kernel_rfl) (by kernel_rfl) (by first | trivial | assumption) (fun hHeld hLast hX0=>?_)
       refine tkT 0 ?_; clear hX0; intro hX0; simp only[Act.put,ps0]
       refine tkT 1 ?_; clear hX0; intro hX0; simp only[Act.put,ps0]
       refine tkT 2 ?_; clear hX0; intro hX0; simp only[Act.put,ps0]
       refine tkT 3 ?_; clear hX0; intro hX0; simp only[Act.put,ps0]
       refine tkT 4 ?_; clear hX0; intro hX0; simp only[Act.put,ps0]
       refine tkT 5 ?_; clear hX0; intro hX0; simp only[Act.put,ps0]
       refine tkT 6 ?_; clear hX0; intro hX0; simp only[Act.put,ps0]
       refine tkT 7 ?_; clear hX0; intro hX0; simp only[Act.put,ps0]
       refine tkT 8 ?_; clear hX0; intro hX0; simp only[Act.put,ps0]
       refine tkT 9 ?_; clear hX0; intro hX0; simp only[Act.put,ps0]
       refine tkT 10 ?_; clear hX0; intro hX0; simp only[Act.put,ps0]
       refine tkT 11 ?_; clear hX0; intro hX0; simp only[Act.put,ps0]
       refine tkT 12 ?_; clear hX0; intro hX0; simp only[Act.put,ps0]
       refine tkT 13 ?_; clear hX0; intro hX0; simp only[Act.put,ps0]
       refine AnyT.one (i:=14) hX0 (by kernel_rfl) rfl (fun K hK=>?_)
       try simp only[gg0]
       go_simp
       try simp only
       refine hK.out _ _ (fun _=>?hkS) (fun hHeld2 hX1=>?_)
       case hkS=>
        exact HS3.out _ (Turn.of_below HB8.out)
       have hHeld:=hHeld2 (by decide)
       clear hK K hHeld2 hX0; have hX0:=hX1; clear hX1
       try simp only[Act.put,ps0]
       refine AnyT.one (i:=15) hX0 (by kernel_rfl) rfl (fun K hK=>?_)
       refine step_append_lies _ (by rfl) _ _ _ (by rfl) base 3 ia _ 1 8 Tryz.underlying58 ib ic id ie rfl (by decide) vn ln.length (ln.flatMap intC) (by rfl) HOwn8.out ⟨w5.heap.size,0,none⟩ 1 1 [.int .i64 i] (by rfl) (by rfl) (World.news_of_block (cs:=#[.int .i64 i]) (t:=3) (fr:=(0,0)) HZ8.out) (by simp[Value.oneCell']) (by omega) ?n1 ?n2 ?n3 (w5.heap.size+1) HSz8.out ?_
       case n1=>unfold maxLen; omega
       case n2=>omega
       case n3=>rw[HSz8.out]; have:=HBs.out; omega
       intro g9 cap9 w9 hown9 hgrow9 hat9 hlt9
       have hT9:Turn (fun j=>vn.ownBlock=some j) w5 w9:=(Turn.of_below (K:=fun j=>vn.ownBlock=some j) HB8.out).trans (q108z hgrow9) (fun _ _ h=>h) (fun _ _ h=>h)
       have HT9:=zh hT9
       have hsub9:∀k,(Value.slice (some ⟨g9,0,none⟩) (ln.length+1) cap9).ownBlock=some k→k=g9:=fun k e=>by
        have e:g9=k:=by simpa [Value.ownBlock] using e
        exact e.symm
       obtain⟨w10,hrun10,hto10⟩:=HNm.out W8 w9 (.slice (some ⟨g9,0,none⟩) (ln.length+1) cap9) HB8.out hgrow9 (OwnR.snoc hown9 rfl rfl) (fun k hk=>by
        rw[hsub9 k hk]
        refine⟨?_,hlt9⟩
        rcases hat9 with h | h
        ·exact Or.inl h
        ·exact Or.inr (by rw[HSz8.out]; omega))
       have HRel10:Hid (q33z w base B ⟨ga,gb,gc⟩ (.slice (some ⟨bv,o,none⟩) N cap) m D u6 (p.1.name x i,p.2) w10∧w10.heap[wr.heap.size]? = some (.cells #[.int .i64 x,.string nm] 330 (0,0))):=⟨q33z.look HRow5.out HTo5.out HAp.out hto10,hto10.heap (q1z HB5.out HX4.out) (fun hd=>by have:=(HL.out.look.low.2 _ hd).2; omega)⟩
       clear hown9 hgrow9 hat9 hlt9 hT9 hsub9 hto10
       try simp only
       refine hK.out _ _ (fun _=>?hkS) (fun hHeld2 hX1=>?_)
       case hkS=>
        exact HS3.out _ HT9.out
       have hHeld:=hHeld2 (by decide)
       clear hK K hHeld2 hX0; have hX0:=hX1; clear hX1
       try simp only[Act.put,ps0]
       refine AnyT.one (i:=16) hX0 (by kernel_rfl) rfl (fun K hK=>?_)
       try simp only[gg0]
       go_simp
       try simp only
       refine hK.out _ _ (fun h=>absurd rfl h) (fun _ _=>?_)
       clear hK K
       try simp only[Act.put,ps0]
       refine AnyT.done (by kernel_rfl) ?_ _
       clear hHeld hX0 hS5 hrun10 hW8 hW8'
       have HR1:=HEnd.out u6 _ w10 HP1.out HRel10.out.1
       go_wp2
       go_roundw
       case rel=>exact⟨k+1,by omega,by go_num,HR1⟩
       case measure=>simp[intOf]; omega
      ·by_cases hk0:y0=0
       ·have qk:(y0 == 0)=true:=by rw[hk0]; rfl
        have HP1:Hid (Look.slot ⟨ga,gb,gc⟩ i a x p=(p.1.tell 2 a,p.2)):=by
         show _=_
         unfold Look.slot
         rw[if_neg HX0.out,if_pos (Or.inr ⟨HKd.out.2,HKd.out.1.trans hk0⟩)]
        clear hk0 hmx'
        refine tkH 7 ?_; simp only[Act.put,ps0]
        refine tkH 8 ?_; simp only[Act.put,ps0]
        refine tkH 9 ?_; simp only[Act.put,ps0]
        refine tkH 10 ?_; simp only[Act.put,ps0]
        refine tkH 11 ?_; simp only[Act.put,ps0]
        refine tkH 12 ?_; simp only[Act.put,ps0]
        refine tkH 13 ?_; simp only[Act.put,ps0]
        refine tkH 14 ?_; simp only[Act.put,ps0]
        refine tkH 15 ?_; simp only[Act.put,ps0]
        refine tkH 16 ?_; simp only[Act.put,ps0]
        refine wpAnyH_done (by kernel_rfl) ?_ _
        clear hHeld hS4
        have htl:=q73z HL5.out.look 2 (a:Int)
        unfold pt at htl
        have HTL:=zh htl
        clear htl
        go_wp2_with fail
        refine HTL.out.mono ?_
        rintro e w6 ⟨rfl,hto6⟩
        have HR1:=HEnd.out u6 _ w6 HP1.out (q33z.look HRow5.out HTo5.out HAp.out hto6)
        clear hto6
        go_wp2
        go_roundw
        case rel=>exact⟨k+1,by omega,by go_num,HR1⟩
        case measure=>simp[intOf]; omega
       ·have qk:(y0 == 0)=false:=beq_eq_false_iff_ne.2 hk0
        have HP1:Hid (Look.slot ⟨ga,gb,gc⟩ i a x p=(p.1.name x i,p.2 ++ [x])):=by
         show _=_
         unfold Look.slot
         rw[if_neg HX0.out,if_neg (fun h=>h.elim hmx' (fun h=>hk0 (HKd.out.1.symm.trans h.2))),if_pos HKd.out.2]
        clear hk0 hmx'
        refine tkH 7 ?_; simp only[Act.put,ps0]
        refine tkH 8 ?_; simp only[Act.put,ps0]
        refine tkH 9 ?_; simp only[Act.put,ps0]
        refine tkH 10 ?_; simp only[Act.put,ps0]
        refine tkH 11 ?_; simp only[Act.put,ps0]
        refine tkH 12 ?_; simp only[Act.put,ps0]
        refine tkH 13 ?_; simp only[Act.put,ps0]
        refine tkH 14 ?_; simp only[Act.put,ps0]
        refine tkH 15 ?_; simp only[Act.put,ps0]
        refine tkH 16 ?_; simp only[Act.put,ps0]
        refine wpAnyH_done (by kernel_rfl) ?_ _
        clear hHeld hS4
        obtain⟨vn,hlk,hvn,hvD,hnm⟩:=HL5.out.look.naming x i
        have hnl:=names_len HInv.out.1 x
        obtain⟨ln,hln⟩:=zx (p.1.namesOf x)
        rw[hln] at hvn hnm hnl
        have hmlt:∀k,vn.ownBlock=some k→k<wr.heap.size:=fun k hk=>(HL.out.look.low.2 k (hvD k hk)).2
        have hS3:∀W,Turn (fun j=>vn.ownBlock=some j) w5 W→W.cell? ⟨B,6,none⟩=some (.map (some m.names))∧W.cell? ⟨wr.heap.size,0,none⟩=some (.int .i64 x)∧(Instr.lookup 139 (.map (some m.names)) (.int .i64 x) false).run Tryz.prog W = .ok vn W:=fun W hW=>by
         refine⟨cellOf (hW.heap HL5.out.look.box (fun e=>HL5.out.look.notB (hvD _ e))) rfl,cellOf (hW.heap (q1z HB5.out HX4.out) (fun e=>by have:=hmlt _ e; omega)) rfl,hlk W hW⟩
        have HS3:=zh hS3
        obtain⟨W8,hW8⟩:=zx ((w5.alloc (.cells #[.int .i64 i] 3)).drew)
        have hW8':w5.drew.alloc (.cells #[.int .i64 i] 3)=W8:=hW8
        have HB8:Hid (Below w5.heap.size w5 W8):=by rw[←hW8]; exact blD (bl2 _)
        have hz8:W8.heap[w5.heap.size]? = some (.cells #[.int .i64 i] 3 (0,0)):=by rw[←hW8]; exact q5z w5 _
        have hs8:W8.heap.size=w5.heap.size+1:=by rw[←hW8]; show(w5.alloc _).heap.size=_; simp
        have hown8:=OwnR.below hvn HB8.out
        unfold OwnR at hown8
        have HOwn8:=zh hown8
        have HNm:=zh hnm
        have HBs:Hid (base≤w5.heap.size):=HL5.out.look.le
        have HMlt:=zh hmlt
        have HZw5:=zh HB5r.out.size
        have HZ8:=zh hz8
        have HSz8:=zh hs8
        have hS5:=HS3.out w5.drew (Turn.of_below (blD (Below.refl _ _)))
        obtain⟨ia,ib,ic,id,ie⟩:=info_parts q103z
        clear hlk hvn hvD hnm hln hmlt hS3 hown8 hz8 hs8
        go_wp2_with fail
        refine wp_region_tail (fun W=>W.cell? ⟨B,6,none⟩=some (.map (some m.names))∧W.cell? ⟨wr.heap.size,0,none⟩=some (.int .i64 x)∧(Instr.lookup 139 (.map (some m.names)) (.int .i64 x) false).run Tryz.prog W = .ok vn W) 16 (by kernel_rfl) (by kernel_rfl) (by first | trivial | assumption) (fun hHeld hLast hX0=>?_)
        refine tkT 0 ?_; clear hX0; intro hX0; simp only[Act.put,ps0]
        refine tkT 1 ?_; clear hX0; intro hX0; simp only[Act.put,ps0]
        refine tkT 2 ?_; clear hX0; intro hX0; simp only[Act.put,ps0]
        refine tkT 3 ?_; clear hX0; intro hX0; simp only[Act.put,ps0]
        refine tkT 4 ?_; clear hX0; intro hX0; simp only[Act.put,ps0]
        refine tkT 5 ?_; clear hX0; intro hX0; simp only[Act.put,ps0]
        refine tkT 6 ?_; clear hX0; intro hX0; simp only[Act.put,ps0]
        refine tkT 7 ?_; clear hX0; intro hX0; simp only[Act.put,ps0]
        refine tkT 8 ?_; clear hX0; intro hX0; simp only[Act.put,ps0]
        refine tkT 9 ?_; clear hX0; intro hX0; simp only[Act.put,ps0]
        refine tkT 10 ?_; clear hX0; intro hX0; simp only[Act.put,ps0]
        refine tkT 11 ?_; clear hX0; intro hX0; simp only[Act.put,ps0]
        refine tkT 12 ?_; clear hX0; intro hX0; simp only[Act.put,ps0]
        refine tkT 13 ?_; clear hX0; intro hX0; simp only[Act.put,ps0]
        refine AnyT.one (i:=14) hX0 (by kernel_rfl) rfl (fun K hK=>?_)
        try simp only[gg0]
        go_simp
        try simp only
        refine hK.out _ _ (fun _=>?hkS) (fun hHeld2 hX1=>?_)
        case hkS=>
         exact HS3.out _ (Turn.of_below HB8.out)
        have hHeld:=hHeld2 (by decide)
        clear hK K hHeld2 hX0; have hX0:=hX1; clear hX1
        try simp only[Act.put,ps0]
        refine AnyT.one (i:=15) hX0 (by kernel_rfl) rfl (fun K hK=>?_)
        refine step_append_lies _ (by rfl) _ _ _ (by rfl) base 3 ia _ 1 8 Tryz.underlying58 ib ic id ie rfl (by decide) vn ln.length (ln.flatMap intC) (by rfl) HOwn8.out ⟨w5.heap.size,0,none⟩ 1 1 [.int .i64 i] (by rfl) (by rfl) (World.news_of_block (cs:=#[.int .i64 i]) (t:=3) (fr:=(0,0)) HZ8.out) (by simp[Value.oneCell']) (by omega) ?n1 ?n2 ?n3 (w5.heap.size+1) HSz8.out ?_
        case n1=>unfold maxLen; omega
        case n2=>omega
        case n3=>rw[HSz8.out]; have:=HBs.out; omega
        intro g9 cap9 w9 hown9 hgrow9 hat9 hlt9
        have hT9:Turn (fun j=>vn.ownBlock=some j) w5 w9:=(Turn.of_below (K:=fun j=>vn.ownBlock=some j) HB8.out).trans (q108z hgrow9) (fun _ _ h=>h) (fun _ _ h=>h)
        have HT9:=zh hT9
        have hsub9:∀k,(Value.slice (some ⟨g9,0,none⟩) (ln.length+1) cap9).ownBlock=some k→k=g9:=fun k e=>by
         have e:g9=k:=by simpa [Value.ownBlock] using e
         exact e.symm
        obtain⟨w10,hrun10,hto10⟩:=HNm.out W8 w9 (.slice (some ⟨g9,0,none⟩) (ln.length+1) cap9) HB8.out hgrow9 (OwnR.snoc hown9 rfl rfl) (fun k hk=>by
         rw[hsub9 k hk]
         refine⟨?_,hlt9⟩
         rcases hat9 with h | h
         ·exact Or.inl h
         ·exact Or.inr (by rw[HSz8.out]; omega))
        have HRel10:Hid (q33z w base B ⟨ga,gb,gc⟩ (.slice (some ⟨bv,o,none⟩) N cap) m D u6 (p.1.name x i,p.2) w10∧w10.heap[wr.heap.size]? = some (.cells #[.int .i64 x,.string nm] 330 (0,0))):=⟨q33z.look HRow5.out HTo5.out HAp.out hto10,hto10.heap (q1z HB5.out HX4.out) (fun hd=>by have:=(HL.out.look.low.2 _ hd).2; omega)⟩
        clear hown9 hgrow9 hat9 hlt9 hT9 hsub9 hto10
        try simp only
        refine hK.out _ _ (fun _=>?hkS) (fun hHeld2 hX1=>?_)
        case hkS=>
         exact HS3.out _ HT9.out
        have hHeld:=hHeld2 (by decide)
        clear hK K hHeld2 hX0; have hX0:=hX1; clear hX1
        try simp only[Act.put,ps0]
        refine AnyT.one (i:=16) hX0 (by kernel_rfl) rfl (fun K hK=>?_)
        try simp only[gg0]
        go_simp
        try simp only
        refine hK.out _ _ (fun h=>absurd rfl h) (fun _ _=>?_)
        clear hK K
        try simp only[Act.put,ps0]
        refine AnyT.done (by kernel_rfl) ?_ _
        clear hHeld hX0 hS5 hrun10 hW8 hW8'
        obtain⟨D3,hr3,hto3,hap3⟩:=HRel10.out.1
        have hlen3:=HInv.out.2
        have w0:w10.cell? ⟨wr.heap.size,0,none⟩=some (.int .i64 x):=cellOf HRel10.out.2 rfl
        have hz10:=hto3.size
        unfold OwnR at hr3
        have HR3:=zh hr3
        have HZ10:=zh hz10
        clear hr3 hto3 hap3 hz10
        go_wp2_with (at_builtin; refine wpList_append_lies _ rfl _ _ _ rfl w.heap.size 3 ia _ 1 8 Tryz.underlying58 ib ic id ie rfl (by decide) u6 p.2.length (p.2.flatMap intC) rfl (HR3.out.alloc _) ⟨w10.heap.size,0,none⟩ 1 1 [.int .i64 x] rfl rfl (World.news_of_block (cs:=#[.int .i64 x]) (t:=3) (fr:=(0,0)) (q5z w10 _)) (by simp[Value.oneCell']) (by omega) ?m1 ?m2 ?m3 (w10.heap.size+1) (by simp) ?_)
        case m1=>unfold maxLen; omega
        case m2=>omega
        case m3=>have:=HZ10.out; simp; omega
        intro g11 cap11 w11 hown11 hgrow11 hat11 hlt11
        have HR1:=HEnd.out (.slice (some ⟨g11,0,none⟩) (p.2.length+1) cap11) _ w11 HP1.out (q33z.next HRel10.out.1 HH.out.look.ltB (bl2 _) hgrow11 (OwnR.snoc hown11 rfl rfl) (fun q hq=>by
         have e:g11=q:=by simpa [Value.ownBlock] using hq
         rw[←e]
         rcases hat11 with h | h
         ·exact Or.inl h
         ·exact Or.inr (by rw[h]; simp)))
        clear hown11 hgrow11 hat11 hlt11 w0
        go_wp2
        go_roundw
        case rel=>exact⟨k+1,by omega,by go_num,HR1⟩
        case measure=>simp[intOf]; omega
   ·have hk4:k=4:=by omega
    subst hk4
    have HEnd:Hid (DirPost w base B ⟨ga,gb,gc⟩ (.slice (some ⟨bv,o,none⟩) N cap) m D b (.returned u6) wr):=by
     obtain⟨D',h1,h2,h3⟩:=HRel.out
     rw[HYes.out]
     exact⟨u6,D',rfl,h1,h2,h3⟩
    clear hk hlt
    go_wp2
    go_ret
    exact HEnd.out
 ·rw[if_neg hd,if_neg hd] at hed
  have HNo:=zh (hno hd)
  have hed2:Calls Tryz.prog 261 #[.string s] w fun e w'=>e = .returned (.tuple #[.agg #[.int .i64 0,.string ⟨#[]⟩,.int .i64 0,.string ⟨#[]⟩,.int .i64 0,.string ⟨#[]⟩,.int .i64 0,.string ⟨#[]⟩],.int .i64 70])∧Below w.heap.size w w':=hed
  have HED2:=zh hed2
  clear hed2
  clear hed hno hyes hd hb h hinv hR
  unfold pt
  go_enter Tryz.func208,Tryz.ntmps208
  go_wp2_with fail
  clear x0 x1 x2 x3 hcell
  refine HED2.out.mono ?_
  rintro e w1 ⟨rfl,hb1⟩
  go_wp2_with fail
  obtain⟨W2,hW2⟩:=zx (w1.alloc (.cells #[.int .i64 0,.string ⟨#[]⟩,.int .i64 0,.string ⟨#[]⟩,.int .i64 0,.string ⟨#[]⟩,.int .i64 0,.string ⟨#[]⟩] 331))
  have HB2:Hid (Below w.heap.size w W2):=blN hb1 (by rw[←hW2]; exact bl2 _)
  have htl:=q73z (HH.out.below HB2.out).look 1 (a:Int)
  unfold pt at htl
  have HTL:=zh htl
  clear htl
  clear hb1
  rw[hW2]
  refine HTL.out.mono ?_
  rintro e w3 ⟨rfl,hto3⟩
  have HEnd:Hid (DirPost w base B ⟨ga,gb,gc⟩ (.slice (some ⟨bv,o,none⟩) N cap) m D b (.returned (.slice none 0 0)) w3):=by
   rw[HNo.out]
   exact⟨_,D,rfl,OwnR.void _ _,(q8z.none HH.out.look HB2.out).trans hto3,fun k hk=>by cases hk⟩
  clear hto3 hW2
  go_wp2
  go_ret
  exact HEnd.out
end
