import Derived.Test.YtgofmnhfajmbfaaGreatDoorCheckDir
namespace Go.Proofs.YtgofmnhfajmbfaaGreatDoor
open Go Go.RowKit Txt Sp
section
variable {P:Program} (w:World)
theorem run_append_rows2 (t ty:TypeId) (base base':Nat) (e:TypeId) (i:TypeInfo) (z:Value) (size bytes:Nat) (ht:P.underlying t=some (.slice e)) (hi:P.info? e=some i) (hz:i.zero=some z)
 (hsize:i.size=size) (hby:i.bytes=bytes) (hzs:z.cells.size=size) (hsz:0<size) (v u:Value) (n m:Nat) (xs ys:List Value) (hown:w.ownsRow base e size v n xs) (hsrc:w.ownsRow base' e size u m ys)
 (h1:∀u∈ys,u.oneCell' = true) (h63:n+m≤maxLen) (hbytes:(n+m)*bytes≤140737488355328) (hbase:base≤w.heap.size) :
 ∃v' w',(Builtin.append_ #[t,t] ty #[v,u]).run P w = .ok v' w'∧w'.ownsRow base e size v' (n+m) (xs ++ ys)∧w.grownBy w' v.ownBlock∧∀k,v'.ownBlock=some k→v.ownBlock=some k∨w.heap.size≤k:=by
 obtain⟨hy,⟨rfl,rfl⟩ | ⟨g,cap,cur,rfl,hg,hh,hnc,hm,hcs,htk⟩⟩:=hsrc
 ·obtain rfl:ys=[]:=List.eq_nil_of_length_eq_zero (by simpa using hy)
  rw[List.append_nil,Nat.add_zero]
  exact⟨v,w,run_append_owned_none (P:=P) (w:=w) base t ty e i size ht hi v n xs hown,hown,⟨rfl,rfl,rfl,Nat.le_refl _,fun _ _ _=>rfl⟩,fun _ h=>Or.inl h⟩
 ·obtain⟨v',w',hr,h2,h3,_,h4⟩:=run_append_own_at (P:=P) w base t ty e i z size bytes ht hi hz hsize hby hzs hsz v n xs hown ⟨g,0,none⟩ m cap ys hy (fun j x hx=>by
   rw[show(⟨g,0,none⟩:Addr).add j=⟨g,j,none⟩ by unfold Addr.add; split <;> simp_all]
   rw[←htk] at hx
   have hj:=(List.getElem?_eq_some_iff.1 hx).1
   rw[List.length_take] at hj
   rw[List.getElem?_take_of_lt (by omega)] at hx
   refine cellOf hh ?_
   simpa using hx) h1 h63 hbytes hbase
  exact⟨v',w',hr,h2,h3,fun k hk=>h4.elim (fun e=>Or.inl (e ▸ hk)) (fun e=>Or.inr (by rw[e] at hk; cases hk; exact Nat.le_refl _))⟩
theorem wpList_append_rows2 {ops:Array Oper} {rest:List Oper} {o:Oper} {a:Act} {Q:Exit→Act→World→Prop} (hgd:o.guard=none) (s x:Operand) (t:TypeId)
 (ho:o.op = .call { callee:=.builtin .append,args:=#[s,x],argTypes:=#[t,t] })
 (base base':Nat) (e:TypeId) (i:TypeInfo) (z:Value) (size bytes:Nat) (ht:P.underlying t=some (.slice e)) (hi:P.info? e=some i) (hz:i.zero=some z)
 (hsize:i.size=size) (hby:i.bytes=bytes) (hzs:z.cells.size=size) (hsz:0<size) (v u:Value) (n m:Nat) (xs ys:List Value) (hs:a.eval s=v) (hown:w.ownsRow base e size v n xs) (hx:a.eval x=u) (hsrc:w.ownsRow base' e size u m ys)
 (h1:∀u∈ys,u.oneCell' = true) (h63:n+m≤maxLen) (hbytes:(n+m)*bytes≤140737488355328) (hbase:base≤w.heap.size)
 (h:∀v' w',w'.ownsRow base e size v' (n+m) (xs ++ ys)→w.grownBy w' v.ownBlock→(∀k,v'.ownBlock=some k→v.ownBlock=some k∨w.heap.size≤k)→wpList P ops Q rest (a.put o.dst v') w') :
 wpList P ops Q (o :: rest) a w:=by
 refine wpList_plain hgd fun K hK=>?_
 obtain⟨v',w',hr,h2,h3,h4⟩:=run_append_rows2 (P:=P) w t o.type base base' e i z size bytes ht hi hz hsize hby hzs hsz v u n m xs ys hown hsrc h1 h63 hbytes hbase
 unfold Oper.wp execOp
 simp only[ho,resolve,invoke,builtin,Sem.run_bind,Sem.run_pure,Result.andThen_ok,List.map_toArray,List.map_cons,List.map_nil,hs,hx,hr]
 exact hK _ _ (h v' w' h2 h3 h4)
end
section
variable {w w1 w':World} {base B N:Nat} {g:Sp.Geom} {vs:Value} {m:LookP} {t t':Sp.Look} {D D' K:Nat→Prop} {S:Int→ByteArray}
def q93z (w:World) (base B:Nat) (g:Sp.Geom) (vs:Value) (m:LookP) (S:Int→ByteArray) (D:Nat→Prop) (i:Int) (n:Sp.Inode) (bs:List Int) (fin:Sp.Look×List Int) (vb:Value) (Bn:Nat) (k:Nat) (v:Value) (wr:World):Prop:=
 ∃(p:Sp.Look×List Int) (D':Nat→Prop),OwnR 3 1 intC w.heap.size wr v p.2∧q8z w base B g vs m p.1 D wr D'∧(∀k,v.ownBlock=some k→¬D' k)∧OwnR 3 1 intC w.heap.size wr vb bs∧(∀k,vb.ownBlock=some k→¬D' k∧v.ownBlock≠some k) ∧
  (wr.heap[Bn]? = some (.cells (nA n) 69 (0,0))∧w.heap.size≤Bn∧¬D' Bn)∧Look.scan g S i n k (bs.drop k) p=fin∧p.1.Inv g 30000 (4*(bs.length-k))∧p.1.Room 30000 (4*(bs.length-k))∧p.2.length≤4*k∧∀y∈p.2,p.1.good y
def KidRel (w:World) (base B:Nat) (g:Sp.Geom) (vs:Value) (m:LookP) (S:Int→ByteArray) (D:Nat→Prop) (f:Nat) (ks:List Int) (fin:Sp.Look) (v:Value) (k:Nat) (wr:World):Prop:=
 ∃(u:Sp.Look) (D':Nat→Prop),OwnR 3 1 intC w.heap.size wr v ks∧q8z w base B g vs m u D wr D'∧(∀k,v.ownBlock=some k→¬D' k)∧(ks.drop k).foldl (Look.visit g S f) u=fin∧u.Inv g 30000 0∧u.Room 30000 0∧u.free<f∧∀y∈ks,u.good y
def q141z (w:World) (base B:Nat) (g:Sp.Geom) (vs:Value) (m:LookP) (D:Nat→Prop) (u:Sp.Look) (e:Ending) (w':World):Prop:=
 ∃D',e = .returned (.tuple #[])∧q8z w base B g vs m u D w' D'
theorem bnot_int {v:Value} {l:List Int} {bb Bn:Nat} {cs:Array Value} (h:OwnR 3 1 intC bb w v l) (hb:w.heap[Bn]? = some (.cells cs 69 (0,0))):v.ownBlock≠some Bn:=fun e=>by
 obtain⟨_,⟨rfl,_⟩ | ⟨g,cap,cur,rfl,_,hh,_⟩⟩:=h
 ·cases e
 ·cases e
  rw[hb] at hh
  cases hh
theorem q93z.look {i:Int} {n:Sp.Inode} {bs:List Int} {fin p:Sp.Look×List Int} {vb v:Value} {Bn k:Nat} {D2:Nat→Prop} {b:Int}
 (h4:OwnR 3 1 intC w.heap.size w1 vb bs) (h5:∀k,vb.ownBlock=some k→¬D' k∧v.ownBlock≠some k)
 (h6:w1.heap[Bn]? = some (.cells (nA n) 69 (0,0))∧w.heap.size≤Bn∧¬D' Bn) (h7:Look.scan g S i n k (bs.drop k) p=fin) (h8:p.1.Inv g 30000 (4*(bs.length-k))) (h9:p.1.Room 30000 (4*(bs.length-k))) (h10:p.2.length≤4*k) (h11:∀y∈p.2,p.1.good y)
 (hk:bs[k]? = some b) {u:Value} {ys:List Int} (he:Look.block g S i n k b p=(t',ys)) (hto:q8z w base B g vs m t' D w' D2) (hsub:∀j,D2 j→D' j∨w1.heap.size≤j) (hu:OwnR 3 1 intC w.heap.size w' u ys) (hud:∀k,u.ownBlock=some k→¬D2 k) (huv:∀k,u.ownBlock=some k→v.ownBlock=some k∨w1.heap.size≤k)
 (hvb:OwnR 3 1 intC w.heap.size w' vb bs) (hbn:w'.heap[Bn]? = some (.cells (nA n) 69 (0,0))):q93z w base B g vs m S D i n bs fin vb Bn (k+1) u w':=by
 have hlt:=(List.getElem?_eq_some_iff.1 hk).1
 have e:bs.drop k=b :: bs.drop (k+1):=by rw[List.drop_eq_getElem_cons hlt,(List.getElem?_eq_some_iff.1 hk).2]
 have ec:4*(bs.length-k)=4*(bs.length-(k+1))+4:=by omega
 rw[ec] at h8 h9
 obtain⟨b1,b2,b3,b4⟩:=Look.block_all (S:=S) h8 h9 h11 i n k b
 rw[he] at b1 b2 b3 b4
 have hBn:=(Array.getElem?_eq_some_iff.1 h6.1).1
 refine⟨(t',ys),D2,hu,hto,hud,hvb,fun q hq=>⟨fun hd=>?_,fun hq2=>?_⟩,⟨hbn,h6.2.1,fun hd=>?_⟩,?_,b1,?_,?_,b3⟩
 ·rcases hsub q hd with h | h
  ·exact(h5 q hq).1 h
  ·have:=(OwnR.lt h4 q hq).2; omega
 ·rcases huv q hq2 with h | h
  ·exact(h5 q hq).2 h
  ·have:=(OwnR.lt h4 q hq).2; omega
 ·rcases hsub Bn hd with h | h
  ·exact h6.2.2 h
  ·omega
 ·rw[←he,←h7,e]; rfl
 ·unfold Look.Room at h9 ⊢
  have:=b2.free
  simp only at this ⊢
  omega
 ·simp only at b4 ⊢
  omega
set_option maxHeartbeats 8000000 in
set_option maxRecDepth 20000 in
theorem cvisit_any:∀(f:Nat) {w:World} {t:Sp.Look} {D:Nat→Prop} (_:LookS w base B N g vs m S t D) (_:t.Inv g 30000 0) (_:t.Room 30000 0) (i:Int) (_:t.good i) (_:t.free<f),
 Calls Tryz.prog 150 #[pt B,.int .i64 i] w (q141z w base B g vs m D (Look.visit g S f t i))
 | 0,_,_,_,_,_,_,_,_,hf=>absurd hf (Nat.not_lt_zero _)
 | f+1,w,t,D,h,hinv,hR,i,hg,hf=>by
   have IH:=fun(w:World) (t:Sp.Look) (D:Nat→Prop) (a:LookS w base B N g vs m S t D) (b:t.Inv g 30000 0) (c:t.Room 30000 0) (i:Int) (d:t.good i) (e:t.free<f)=>cvisit_any f a b c i d e
   have hhas:=h.look.run_has i
   obtain⟨c012,c3,c4,c5,c6,c7,c8⟩:=h.look.cells
   have HH:=zh h
   cases hi:t.has i with
   | true=>
     rw[hi] at hhas
     have hv:Look.visit g S (f+1) t i=t:=by unfold Look.visit; rw[hi]; rfl
     rw[hv]
     have HEnd:Hid (q141z w base B g vs m D t (.returned (.tuple #[])) w):=⟨D,rfl,q8z.none HH.out.look (Below.refl _ _)⟩
     clear h hinv hR hg hf hi hv IH c012 c3 c4 c6 c7 c8
     unfold pt
     go_enter Tryz.func150,Tryz.ntmps150
     go_wp2
     go_end0
     exact HEnd.out
   | false=>
     rw[hi] at hhas
     have hv:Look.visit g S (f+1) t i=(t.open_ g S i).2.foldl (Look.visit g S f) (t.open_ g S i).1:=by
      show(if t.has i then t else _)=_
      rw[hi]
      rfl
     obtain⟨fin,hfin⟩:=zx (Look.visit g S (f+1) t i)
     rw[hfin] at hv ⊢
     have hopen:=Look.open_all (S:=S) hinv hR hg hi
     have hent:=hinv.enter hg hi
     have hfr:=Look.enter_free hg.1 hi
     have hnok:=hinv.node_ok hg
     obtain⟨W1,hrun1,hl1,hT1⟩:=h.look.enter i
     have hto1:q8z w base B g vs m (t.enter i) D W1 D:=⟨hl1,fun _ h=>Or.inl h,hT1.mono (fun j _ hj=>by rw[show j=m.inn from hj]; exact h.look.own.2.1)⟩
     have hS1:=h.to hto1
     have hnode:=hl1.run_node i
     obtain⟨-,-,d4,-⟩:=hl1.cells
     have hnd:(t.enter i).node i=t.node i:=rfl
     rw[hnd] at hnode
     obtain⟨n,hn⟩:=zx (t.node i)
     rw[hn] at hnode hnok
     have hop:t.open_ g S i=Look.scan g S i n 0 ((t.enter i).blocks g S n).2 (((t.enter i).blocks g S n).1,[]):=by unfold Look.open_; rw[hn]
     obtain⟨bp,hbp⟩:=zx ((t.enter i).blocks g S n)
     have hbl:=fun(W:World) (hW:Below W1.heap.size W1 W)=>cblocks_any (hS1.look.below hW) (hS1.secs.below hW) h.size hnok
     have hblen:bp.2.length≤40:=by rw[←hbp]; exact Look.blocks_len hnok
     have hbok:=Look.blocks_ok (S:=S) (t:=t.enter i) hnok
     have hbinv:=hent.blocks (S:=S) n
     have hble:=Look.blocks_le (g:=g) (S:=S) (t.enter i) n
     rw[hbp] at hbl hop hbok hbinv hble
     unfold nA iA at hnode hbl
     obtain⟨x0,hx0⟩:=zx (n.kind)
     obtain⟨x1,hx1⟩:=zx (n.links)
     obtain⟨x2,hx2⟩:=zx (n.size)
     obtain⟨x3,hx3⟩:=zx (n.parent)
     obtain⟨x4,hx4⟩:=zx (n.gen)
     obtain⟨e0,he0⟩:=zx (n.direct.getD 0 0)
     obtain⟨e1,he1⟩:=zx (n.direct.getD 1 0)
     obtain⟨e2,he2⟩:=zx (n.direct.getD 2 0)
     obtain⟨e3,he3⟩:=zx (n.direct.getD 3 0)
     obtain⟨e4,he4⟩:=zx (n.direct.getD 4 0)
     obtain⟨e5,he5⟩:=zx (n.direct.getD 5 0)
     obtain⟨e6,he6⟩:=zx (n.direct.getD 6 0)
     obtain⟨e7,he7⟩:=zx (n.direct.getD 7 0)
     obtain⟨x6,hx6⟩:=zx (n.more)
     simp only[hx0,hx1,hx2,hx3,hx4,he0,he1,he2,he3,he4,he5,he6,he7,hx6] at hnode hbl
     have HNA:Hid (nA n=#[.int .i64 x0,.int .i64 x1,.int .i64 x2,.int .i64 x3,.int .i64 x4,.int .i64 e0,.int .i64 e1,.int .i64 e2,.int .i64 e3,.int .i64 e4,.int .i64 e5,.int .i64 e6,.int .i64 e7,.int .i64 x6]):=by
      show _=_
      unfold nA iA
      rw[hx0,hx1,hx2,hx3,hx4,he0,he1,he2,he3,he4,he5,he6,he7,hx6]
     have HKz:Hid (n.kind=x0∧n.size=x2∧0≤x2∧x2≤2560):=⟨hx0,hx2,by rw[←hx2]; exact hnok.size.1,by rw[←hx2]; exact hnok.size.2⟩
     have hle1:t.Le bp.1:=(Look.enter_le t i).trans hble
     have hRoom0:bp.1.Room 30000 160:=by unfold Look.Room at hR ⊢; have:=hble.free; omega
     have HStart:Hid (∀(W:World) (vb:Value),OwnR 3 1 intC w.heap.size W vb bp.2→q8z w base B g vs m bp.1 D W D→W.heap[W1.heap.size]? = some (.cells (nA n) 69 (0,0))→q93z w base B g vs m S D i n bp.2 (t.open_ g S i) vb W1.heap.size 0 (.slice none 0 0) W):=fun W vb a1 a2 a3=>by
      refine⟨(bp.1,[]),D,OwnR.void _ _,a2,fun k hk=>(by cases hk),a1,fun k hk=>⟨fun hd=>by have:=(OwnR.lt a1 k hk).1; have:=(HH.out.look.low.2 k hd).2; omega,by simp[Value.ownBlock]⟩,⟨a3,hto1.size,fun hd=>by have:=(HH.out.look.low.2 _ hd).2; have:=hto1.size; omega⟩,?_,hbinv.less (by omega),by unfold Look.Room at hRoom0 ⊢; simp only; omega,by simp,fun y hy=>by cases hy⟩
      rw[List.drop_zero]
      exact hop.symm
     have HOpen:=zh hopen
     have HV:=zh hv
     have HBlen:=zh hblen
     have HBok:=zh hbok
     have HFr:Hid ((t.open_ g S i).1.free<f):=by have:=hopen.2.1.free; show _<_; omega
     have HTo1:=zh hto1
     have HIH:=zh IH
     have HRm:Hid ((t.open_ g S i).1.Room 30000 0):=by show Look.Room _ _ _; have:=hopen.2.1.free; unfold Look.Room at hR ⊢; omega
     obtain⟨ia,ib,ic,id,ie⟩:=info_parts q103z
     have HIb:=zh ib
     have HIc:=zh ic
     have HId:=zh id
     have HIe:=zh ie
     clear ib ic id ie
     unfold BlksPost pt at hbl
     have HBL:=zh hbl
     clear hbl
     clear h hinv hR hg hf hi hfin IH c012 c3 c4 c6 c7 c8 hopen hent hfr hnok hl1 hT1 hto1 hS1 hnd hn hop hbp hblen hbok hbinv hble hle1 hRoom0 hv hx0 hx1 hx2 hx3 hx4 he0 he1 he2 he3 he4 he5 he6 he7 hx6
     unfold pt
     go_enter Tryz.func150,Tryz.ntmps150
     go_wp2_with fail
     obtain⟨W2,hW2⟩:=zx (W1.alloc (.cells #[.int .i64 x0,.int .i64 x1,.int .i64 x2,.int .i64 x3,.int .i64 x4,.int .i64 e0,.int .i64 e1,.int .i64 e2,.int .i64 e3,.int .i64 e4,.int .i64 e5,.int .i64 e6,.int .i64 e7,.int .i64 x6] 69))
     have hb2:Below W1.heap.size W1 W2:=by rw[←hW2]; exact bl2 _
     have hz2:W2.heap[W1.heap.size]? = some (.cells (nA n) 69 (0,0)):=by rw[←hW2,HNA.out]; exact q5z W1 _
     rw[hW2]
     refine(HBL.out W2 hb2).mono ?_
     rintro e w3 ⟨vb,rfl,hob,hto3⟩
     obtain⟨ad,cap,hvb⟩:=hob.form
     obtain⟨L,hL⟩:=zx (bp.2.length)
     rw[hL] at hvb
     have HV0:=zh (HStart.out w3 vb (hob.mono (Nat.le_trans HTo1.out.size hb2.size)) (HTo1.out.trans (q8z.ahead hb2 hto3)) (hto3.heap hz2 (fun hd=>by have:=(HH.out.look.low.2 _ hd).2; have:=HTo1.out.size; omega)))
     subst hvb
     have HL:=zh hL
     have hL40:L≤40:=by rw[←hL]; exact HBlen.out
     clear hob hto3 hz2 hb2 hW2 hL hrun1 hnode d4 hhas c5
     go_wp2
     go_loopw [5,31] (fun v k31 wr=>∃k:Nat,k≤L∧k31 = .int .i64 (k:Int)∧Hid (q93z w base B g vs m S D i n bp.2 (t.open_ g S i) (.slice ad L cap) W1.heap.size k v wr)) (fun _ k31 _=>L-(intOf k31).toNat)
     case atStart=>exact⟨0,Nat.zero_le _,rfl,HV0⟩
     case round=>
      obtain⟨k,hk,rfl,HRel⟩:=hrel
      by_cases hlt:k<L
      ·obtain⟨p,D',h1,h2,h3,h4,h5,h6,h7,h8,h9,h10,h11⟩:=HRel.out
       obtain⟨b,hb⟩:∃b,bp.2[k]? = some b:=⟨bp.2[k]'(by rw[HL.out]; exact hlt),by rw[List.getElem?_eq_getElem]⟩
       have hcell:∃bb oo,ad=some ⟨bb,oo,none⟩∧wr.cell? ⟨bb,oo+k,none⟩=some (.int .i64 b):=by
        obtain⟨ad',n',cap',e',hn',-,hf'⟩:=RowAt.facts (OwnR.row (f:=intC) (size:=1) (fun _ _=>rfl) h4)
        cases e'
        obtain⟨bb,oo,x,e1,-,hx,hc⟩:=hf'.out k hlt
        rw[hb] at hx
        cases hx
        have:=hc 0 _ rfl
        rw[Nat.mul_one,Nat.add_zero] at this
        exact⟨bb,oo,e1,this⟩
       obtain⟨bb,oo,rfl,c0⟩:=hcell
       have HB:=zh hb
       have H1:=zh h1
       have H2:=zh h2
       have H3:=zh h3
       have H4:=zh h4
       have H5:=zh h5
       have H6:=zh h6
       have H7:=zh h7
       have H8:=zh h8
       have H9:=zh h9
       have H10:=zh h10
       have H11:=zh h11
       clear hb h1 h2 h3 h4 h5 h6 h7 h8 h9 h10 h11 HRel
       by_cases hb0:b=0
       ·have q0:(b == 0)=true:=by rw[hb0]; rfl
        have HR1:Hid (q93z w base B g vs m S D i n bp.2 (t.open_ g S i) (.slice (some ⟨bb,oo,none⟩) L cap) W1.heap.size (k+1) u5 wr):=
         q93z.look H4.out H5.out H6.out H7.out H8.out H9.out H10.out H11.out HB.out (t':=p.1) (ys:=p.2) (by unfold Look.block; rw[if_pos hb0]) H2.out (fun _ h=>Or.inl h) H1.out H3.out (fun q hq=>Or.inl hq) H4.out H6.out.1
        clear hb0
        go_wp2
        go_roundw
        case rel=>exact⟨k+1,by omega,by go_num,HR1⟩
        case measure=>simp[intOf]; omega
       ·have q0:(b == 0)=false:=beq_eq_false_iff_ne.2 hb0
        have hbb:=blockOk_bd (HBok.out b (List.mem_of_getElem? HB.out)) hb0
        rw[←HH.out.size] at hbb
        obtain⟨kb,hkb⟩:∃k:Nat,b=(k:Int):=⟨b.toNat,by omega⟩
        subst hkb
        have hkN:kb<N:=by omega
        obtain⟨W4,hrun4,hl4,hT4⟩:=H2.out.1.count (kb:Int)
        have hcnt:=H2.out.1.run_cnt (kb:Int)
        obtain⟨q,hq⟩:=zx (p.1.cnt (kb:Int))
        rw[hq] at hrun4 hcnt
        have hrun4':(Instr.mapUpdate 115 (.map (some m.named)) (.int .i64 (kb:Int)) (.int .i64 (wrap64 (q+1)))).run Tryz.prog wr = .ok () W4:=by rw[←IntWalk.i64_left]; exact hrun4
        clear hrun4
        obtain⟨-,-,-,-,-,c7,-⟩:=H2.out.1.cells
        have hDm:D' m.named:=H2.out.1.own.2.2.2.1
        have hto4:q8z wr base B g vs m (p.1.count kb) D' W4 D':=⟨hl4,fun _ h=>Or.inl h,hT4.mono (fun j _ hj=>by rw[show j=m.named from hj]; exact hDm)⟩
        have HTo4:=zh hto4
        have H1b:=zh (hto4.row H1.out H3.out).1
        have H4b:=zh (hto4.row H4.out (fun q hq=>(H5.out q hq).1)).1
        have H6b:Hid (W4.heap[W1.heap.size]? = some (.cells (nA n) 69 (0,0))):=hto4.heap H6.out.1 H6.out.2.2
        have H2b:=zh (H2.out.trans hto4)
        have hz6:=H6b.out
        rw[HNA.out] at hz6
        have y0:=zc 0 hz6
        have y2:=zc 2 hz6
        have HN0:=zh hb0
        clear hbb hq hl4 hT4 hDm hto4 hz6 hb0
        by_cases hdir:x0=2∧(k:Int)*64<x2
        ·have q1:(x0 == 2)=true:=by rw[hdir.1]; rfl
         have q2:decide ((k:Int)*64<x2)=true:=decide_eq_true hdir.2
         have hbe:Look.block g S i n k kb p=(((p.1.count kb).dir g S i kb).1,p.2 ++ ((p.1.count kb).dir g S i kb).2):=by
          unfold Look.block
          rw[if_neg HN0.out,if_pos (by rw[HKz.out.1,HKz.out.2.1]; exact hdir)]
         have HBe:=zh hbe
         have ec:4*(bp.2.length-k)=4*(bp.2.length-(k+1))+4:=by rw[HL.out]; omega
         have hdr:=cdir_any (HH.out.to H2b.out) (c:=4*(bp.2.length-(k+1))) (by rw[←ec]; exact H8.out.count _) (by rw[←ec]; exact H9.out) i kb hkN
         have hdl:=(Look.dir_all (S:=S) (c:=4*(bp.2.length-(k+1))) (by rw[←ec]; exact H8.out.count kb) (by rw[←ec]; exact H9.out) i kb).2.2.2
         obtain⟨pd,hpd⟩:=zx ((p.1.count kb).dir g S i kb)
         rw[hpd] at hdr hdl HBe
         unfold DirPost pt at hdr
         have hpl:=H10.out
         have HDR:=zh hdr
         clear hdr
         clear hdir hbe ec hpd
         go_wp2_with fail
         clear hrun4' hcnt c7 y0 y2
         refine HDR.out.mono ?_
         rintro e w5 ⟨v2,D5,rfl,hr5,hto5,hap5⟩
         have hno1:∀q,u5.ownBlock=some q→¬D' q:=H3.out
         have H1c:=zh (hto5.row H1b.out H3.out)
         have H4c:=zh (hto5.row H4b.out (fun q hq=>(H5.out q hq).1))
         have H6c:=zh (hto5.heap H6b.out H6.out.2.2)
         have HTo5:=zh hto5
         have HR5:=zh hr5
         have HZ5:=zh hto5.size
         clear hr5 hto5 hap5 hno1
         go_wp2_with (at_builtin; refine wpList_append_rows2 _ rfl (.tmp 55) (.tmp 59) _ rfl w.heap.size W4.heap.size 3 ia _ 1 8 Tryz.underlying58 HIb.out HIc.out HId.out HIe.out rfl (by decide) u5 v2 p.2.length pd.2.length (p.2.flatMap intC) (pd.2.flatMap intC) rfl H1c.out.1 rfl HR5.out ?c1 ?c2 ?c3 ?c4 ?_)
         case c1=>rw[intC_map]; intro u hu; obtain⟨s,_,rfl⟩:=List.mem_map.1 hu; rfl
         case c2=>unfold maxLen; omega
         case c3=>omega
         case c4=>have h1:=H2b.out.size; have h2:=HZ5.out; omega
         intro v6 w6 hown6 hg6 hat6
         have HR1:Hid (q93z w base B g vs m S D i n bp.2 (t.open_ g S i) (.slice (some ⟨bb,oo,none⟩) L cap) W1.heap.size (k+1) v6 w6):=by
          have hT6:=q108z hg6
          have hsub5:∀j,D5 j→D' j∨wr.heap.size≤j:=fun j hj=>(HTo5.out.2.1 j hj).elim Or.inl (fun h=>Or.inr (by have:=HTo4.out.size; omega))
          refine q93z.look H4.out H5.out H6.out H7.out H8.out H9.out H10.out H11.out HB.out HBe.out ((H2b.out.trans HTo5.out).turned HH.out.look.ltB hT6 (fun j hj=>⟨H1c.out.2 j hj,(OwnR.lt H1.out j hj).1⟩)) hsub5 ?_ ?_ ?_ ?_ ?_
          ·unfold OwnR
           rw[List.length_append,List.flatMap_append]
           exact hown6
          ·intro q hq hd
           rcases hat6 q hq with h | h
           ·exact H1c.out.2 q h hd
           ·have:=(HTo5.out.1.low.2 q hd).2; omega
          ·intro q hq
           rcases hat6 q hq with h | h
           ·exact Or.inl h
           ·exact Or.inr (by have:=HTo4.out.size; have:=HZ5.out; omega)
          ·exact H4c.out.1.turn hT6 (fun q hq e=>(H5.out q hq).2 e)
          ·exact hT6.heap H6c.out (bnot_int H1c.out.1 H6c.out)
         clear hown6 hg6 hat6
         go_wp2
         go_roundw
         case rel=>exact⟨k+1,by omega,by go_num,HR1⟩
         case measure=>simp[intOf]; omega
        ·have hbe:Look.block g S i n k kb p=(p.1.count kb,p.2):=by
          unfold Look.block
          rw[if_neg HN0.out,if_neg (by rw[HKz.out.1,HKz.out.2.1]; exact hdir)]
         have HR1:Hid (q93z w base B g vs m S D i n bp.2 (t.open_ g S i) (.slice (some ⟨bb,oo,none⟩) L cap) W1.heap.size (k+1) u5 W4):=
          q93z.look H4.out H5.out H6.out H7.out H8.out H9.out H10.out H11.out HB.out hbe H2b.out (fun _ h=>Or.inl h) H1b.out H3.out (fun q hq=>Or.inl hq) H4b.out H6b.out
         clear hbe
         by_cases hk2:x0=2
         ·have q1:(x0 == 2)=true:=by rw[hk2]; rfl
          have q2:decide ((k:Int)*64<x2)=false:=decide_eq_false (fun h=>hdir ⟨hk2,h⟩)
          clear hdir hk2
          go_wp2
          go_roundw
          case rel=>exact⟨k+1,by omega,by go_num,HR1⟩
          case measure=>simp[intOf]; omega
         ·have q1:(x0 == 2)=false:=beq_eq_false_iff_ne.2 hk2
          clear hdir hk2
          go_wp2
          go_roundw
          case rel=>exact⟨k+1,by omega,by go_num,HR1⟩
          case measure=>simp[intOf]; omega
      ·have hkL:k=L:=by omega
       subst hkL
       have HKid0:Hid (KidRel w base B g vs m S D f (t.open_ g S i).2 fin u5 0 wr):=by
        obtain⟨p,D',h1,h2,h3,-,-,-,h7,-⟩:=HRel.out
        rw[List.drop_of_length_le (by rw[HL.out]; exact Nat.le_refl _)] at h7
        have h7:p=t.open_ g S i:=h7
        subst h7
        exact⟨_,D',h1,h2,h3,by rw[List.drop_zero]; exact HV.out.symm,HOpen.out.1,HRm.out,HFr.out,HOpen.out.2.2.1⟩
       obtain⟨ad2,cap2,hv2⟩:∃ad cap,u5 = .slice ad (t.open_ g S i).2.length cap:=by
        obtain⟨p,D',h1,-⟩:=HKid0.out
        exact h1.form
       obtain⟨L2,hL2⟩:=zx ((t.open_ g S i).2.length)
       rw[hL2] at hv2
       subst hv2
       have hL160:L2≤160:=by rw[←hL2]; exact HOpen.out.2.2.2
       have HL2:=zh hL2
       clear HRel hk hlt hL2
       obtain⟨wo,rfl⟩:∃wo:World,wo=wr:=⟨_,rfl⟩
       go_wp2
       go_loopw [64] (fun k64 wr=>∃j:Nat,j≤L2∧k64 = .int .i64 (j:Int)∧Hid (KidRel w base B g vs m S D f (t.open_ g S i).2 fin (.slice ad2 L2 cap2) j wr)) (fun k64 _=>L2-(intOf k64).toNat)
       case atStart=>exact⟨0,Nat.zero_le _,rfl,HKid0⟩
       case round=>
        obtain⟨j,hj,rfl,HRel⟩:=hrel
        by_cases hlt:j<L2
        ·obtain⟨u,D',h1,h2,h3,h4,h5,h6,h7,h8⟩:=HRel.out
         obtain⟨y,hy⟩:∃y,(t.open_ g S i).2[j]? = some y:=⟨(t.open_ g S i).2[j]'(by rw[HL2.out]; exact hlt),by rw[List.getElem?_eq_getElem]⟩
         have hcell:∃bb oo,ad2=some ⟨bb,oo,none⟩∧wr.cell? ⟨bb,oo+j,none⟩=some (.int .i64 y):=by
          obtain⟨ad',n',cap',e',hn',-,hf'⟩:=RowAt.facts (OwnR.row (f:=intC) (size:=1) (fun _ _=>rfl) h1)
          cases e'
          obtain⟨bb,oo,x,e1,-,hx,hc⟩:=hf'.out j hlt
          rw[hy] at hx
          cases hx
          have:=hc 0 _ rfl
          rw[Nat.mul_one,Nat.add_zero] at this
          exact⟨bb,oo,e1,this⟩
         obtain⟨bb,oo,rfl,c0⟩:=hcell
         have hgy:=h8 y (List.mem_of_getElem? hy)
         have hcall:=HIH.out wr u D' (HH.out.to h2) h5 h6 y hgy h7
         obtain⟨i1,i2⟩:=Look.visit_all (S:=S) f h5 h6 hgy h7
         have hdr:(t.open_ g S i).2.drop j=y :: (t.open_ g S i).2.drop (j+1):=by
          have hl:=List.getElem?_eq_some_iff.1 hy
          rw[List.drop_eq_getElem_cons hl.1,hl.2]
         rw[hdr,List.foldl_cons] at h4
         have HNext:Hid (∀W D2,q8z wr base B g vs m (Look.visit g S f u y) D' W D2→KidRel w base B g vs m S D f (t.open_ g S i).2 fin (.slice (some ⟨bb,oo,none⟩) L2 cap2) (j+1) W):=fun W D2 hto=>by
          obtain⟨r1,r2⟩:=hto.row h1 h3
          refine⟨_,D2,r1,h2.trans hto,r2,h4,i1,?_,?_,fun z hz=>i2.good (h8 z hz)⟩
          ·unfold Look.Room at h6 ⊢; have:=i2.free; omega
          ·have:=i2.free; omega
         unfold q141z pt at hcall
         have HCALL:=zh hcall
         clear hcall
         clear h1 h2 h3 h4 h5 h6 h7 h8 hy hgy i1 i2 hdr HRel
         go_wp2_with fail
         refine HCALL.out.mono ?_
         rintro e w5 ⟨D2,rfl,hto5⟩
         have HR1:=zh (HNext.out w5 D2 hto5)
         clear hto5
         go_wp2
         go_roundw
         case rel=>exact⟨j+1,by omega,by go_num,HR1⟩
         case measure=>simp[intOf]; omega
        ·have hjL:j=L2:=by omega
         subst hjL
         have HEnd:Hid (q141z w base B g vs m D fin (.returned (.tuple #[])) wr):=by
          obtain⟨u,D',h1,h2,h3,h4,-⟩:=HRel.out
          rw[List.drop_of_length_le (by rw[HL2.out]; exact Nat.le_refl _)] at h4
          have h4:u=fin:=h4
          subst h4
          exact⟨D',rfl,h2⟩
         clear hj hlt HRel
         go_wp2
         go_end0
         exact HEnd.out
end
