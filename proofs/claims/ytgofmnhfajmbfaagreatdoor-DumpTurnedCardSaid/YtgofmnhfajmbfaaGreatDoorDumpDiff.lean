import Derived.Test.YtgofmnhfajmbfaaGreatDoorDumpWorks
namespace Go.Proofs.YtgofmnhfajmbfaaGreatDoor
open Go Go.RowKit Txt Sp
def OwnT (base:Nat) (w:World) (v:Value) (l:List ByteArray):Prop:=w.ownsRow base 9 1 v l.length (l.map Value.string)
theorem OwnT.texts {n:Nat} {w:World} {v:Value} {l:List ByteArray} (h:OwnT n w v l):q19z n w v l:=⟨_,h⟩
theorem OwnT.void (n:Nat) (w:World):OwnT n w (.slice none 0 0) []:=⟨rfl,Or.inl ⟨rfl,rfl⟩⟩
theorem OwnT.below {n:Nat} {w w':World} {v:Value} {l:List ByteArray} (h:OwnT n w v l) (hb:Below w.heap.size w w'):OwnT n w' v l:=by
 obtain⟨h1,h2⟩:=h
 refine⟨h1,h2.imp_right ?_⟩
 rintro⟨g,cap,cur,hv,hg,hh,h3⟩
 exact⟨g,cap,cur,hv,hg,q1z hb hh,h3⟩
theorem OwnT.form {n:Nat} {w:World} {v:Value} {l:List ByteArray} (h:OwnT n w v l):∃ad k cap,v = .slice ad k cap:=by
 obtain⟨_,⟨rfl,_⟩ | ⟨g,cap,cur,rfl,_⟩⟩:=h
 ·exact⟨_,_,_,rfl⟩
 ·exact⟨_,_,_,rfl⟩
theorem own_grown {B n:Nat} {w0 w w':World} {v:Value} {l:List ByteArray} (h:OwnT n w v l) (hb:Below B w0 w) (hg:w.grownBy w' v.ownBlock) (hB:B≤w.heap.size) (hn:B≤n):Below B w0 w':=
 hb.grown hg hB (fun k hk=>Nat.le_trans hn (World.ownsRow.lt h k hk).1)
theorem diffFrom_snoc:∀(i:Nat) (g:Sp.Geom) (l m:List ByteArray) (s t:ByteArray),l.length=m.length →
 q15z i g (l ++ [s]) (m ++ [t])=q15z i g l m ++ (if s=t then [] else [ofL (45 :: 32 :: lineL g ((i+l.length:Nat):Int) s),ofL (43 :: 32 :: lineL g ((i+l.length:Nat):Int) t)])
 | i,g,[],[],s,t,_=>by
   by_cases h:s=t <;> simp[q15z,h]
 | i,g,x :: r,y :: q,s,t,h=>by
   have ih:=diffFrom_snoc (i+1) g r q s t (by simpa using h)
   have e:i+1+r.length=i+(x :: r).length:=by rw[List.length_cons]; omega
   rw[e] at ih
   show(if x=y then q15z (i+1) g (r ++ [s]) (q ++ [t]) else ofL (45 :: 32 :: lineL g i x) :: ofL (43 :: 32 :: lineL g i y) :: q15z (i+1) g (r ++ [s]) (q ++ [t]))=(if x=y then q15z (i+1) g r q else ofL (45 :: 32 :: lineL g i x) :: ofL (43 :: 32 :: lineL g i y) :: q15z (i+1) g r q) ++ _
   rw[ih]
   by_cases hxy:x=y
   ·rw[if_pos hxy,if_pos hxy]
   ·rw[if_neg hxy,if_neg hxy]
    rfl
 | i,g,[],y :: q,s,t,h=>by simp at h
 | i,g,x :: r,[],s,t,h=>by simp at h
theorem diffFrom_le:∀(i:Nat) (g:Sp.Geom) (l m:List ByteArray),(q15z i g l m).length≤2*l.length
 | i,g,[],m=>by simp[q15z]
 | i,g,x :: r,[]=>by simp[q15z]
 | i,g,x :: r,y :: q=>by
   have ih:=diffFrom_le (i+1) g r q
   unfold q15z
   by_cases h:x=y
   ·rw[if_pos h,List.length_cons]; omega
   ·rw[if_neg h,List.length_cons,List.length_cons,List.length_cons]; omega
def q86z (g:Sp.Geom) (a b:List ByteArray) (w:World) (e:Ending) (w':World):Prop:=
 ∃v,e = .returned (.tuple #[v,.int .i64 (diffN g a b).2])∧q19z w.heap.size w' v (diffN g a b).1∧Below w.heap.size w w'
section
set_option maxHeartbeats 8000000
set_option maxRecDepth 20000 in
theorem ddiff_any (w:World) (g:Sp.Geom) (v u:Value) (l m:List ByteArray) (hv:Texts w v l) (hu:Texts w u m) (ht:TabOk w) (hm:MaxOk w) :
 Calls Tryz.prog 17 #[gV g,v,u] w (q86z g l m w):=by
 have hsh:=fun(W:World) (hW:Below w.heap.size w W)=>dshape_any W g v l (hv.below hW)
 have hsi:=fun(W:World) (hW:Below w.heap.size w W)=>dshape_any W g u m (hu.below hW)
 have HT:=zh ht
 have HM:=zh hm
 have HNo:Hid (¬(q27z g l∧q27z g m)→∀w',Below w.heap.size w w'→q86z g l m w (.returned (.tuple #[.slice none 0 0,.int .i64 4])) w'):=fun hn w' hb=>by
  unfold q86z diffN
  rw[if_neg hn]
  exact⟨_,rfl,q19z.void _ _,hb⟩
 have HYes:Hid (q27z g l∧q27z g m→∀v w',q19z w.heap.size w' v (q15z 0 g l m)→Below w.heap.size w w'→q86z g l m w (.returned (.tuple #[v,.int .i64 0])) w'):=fun hn v w' ho hb=>by
  unfold q86z diffN
  rw[if_pos hn]
  exact⟨_,rfl,ho,hb⟩
 obtain⟨Q,hQ⟩:=zx (q86z g l m w)
 rw[hQ] at HNo HYes ⊢
 clear hQ
 by_cases hsp:q27z g l
 rotate_left
 ·have HN:=zh (HNo.out (fun h=>hsp h.1))
  rw[decide_eq_false hsp] at hsh
  obtain⟨ga,gb,gc⟩:=g
  unfold gV at hsh ⊢
  have HSH:=zh hsh
  clear hsh
  clear hsp hv ht hm HYes hsi
  obtain⟨W0,hW0⟩:=zg w ga gb gc
  have hk:=q14z hW0
  have HB0:=zh hk.1
  have HK:=zh hk.2
  clear hk
  obtain⟨z0,z1,z2⟩:=HK.out W0 (Below.refl _ _)
  go_enter Tryz.func17,Tryz.ntmps17
  go_wp2_with fail
  refine(HSH.out _ HB0.out).mono ?_
  rintro e w1 ⟨rfl,hb1⟩
  have HB1:=zh (blN HB0.out hb1)
  clear z0 z1 z2 hb1
  go_wp2
  first | exact HN.out _ HB1.out | (go_ret2; exact HN.out _ HB1.out)
 rw[decide_eq_true hsp] at hsh
 by_cases hsq:q27z g m
 rotate_left
 ·have HN:=zh (HNo.out (fun h=>hsq h.2))
  rw[decide_eq_false hsq] at hsi
  obtain⟨ga,gb,gc⟩:=g
  unfold gV at hsh hsi ⊢
  have HSH:=zh hsh
  have HSI:=zh hsi
  clear hsh hsi
  clear hsp hsq hv ht hm HYes
  obtain⟨W0,hW0⟩:=zg w ga gb gc
  have hk:=q14z hW0
  have HB0:=zh hk.1
  have HK:=zh hk.2
  clear hk
  obtain⟨z0,z1,z2⟩:=HK.out W0 (Below.refl _ _)
  go_enter Tryz.func17,Tryz.ntmps17
  go_wp2_with fail
  refine(HSH.out _ HB0.out).mono ?_
  rintro e w1 ⟨rfl,hb1⟩
  have HB1:Hid (Below W0.heap.size W0 w1):=hb1
  clear z0 z1 z2 hb1
  obtain⟨z0,z1,z2⟩:=HK.out w1 HB1.out
  go_wp2_with fail
  refine(HSI.out _ (blN HB0.out HB1.out)).mono ?_
  rintro e w2 ⟨rfl,hb2⟩
  have HB2:=zh (blN (blN HB0.out HB1.out) hb2)
  clear z0 z1 z2 hb2
  go_wp2
  first | exact HN.out _ HB2.out | (go_ret2; exact HN.out _ HB2.out)
 rw[decide_eq_true hsq] at hsi
 replace HYes:=zh (HYes.out ⟨hsp,hsq⟩)
 have hgo:=hsp.1
 have hlen:=hsp.2.1
 have hall:=hsp.2.2
 have hlen2:=hsq.2.1
 have hall2:=hsq.2.2
 have hsz:=Geom.size_bd hgo
 have hlm:l.length=m.length:=by omega
 have hline:=fun(a:Nat) (s:ByteArray) (ha:(a:Int)<g.size) (hs:s.size=64) (W:World) (hW:Below w.heap.size w W)=>dline_any W g a s hgo ha hs (ht.below hW) (hm.below hW)
 have hlle:=fun(a:Nat) (s:ByteArray) (ha:(a:Int)<g.size) (hs:s.size=64)=>lineL_le hgo ha hs
 have hsn:∀(a:Nat) (s t:ByteArray),l[a]? = some s→m[a]? = some t→q15z 0 g (l.take (a+1)) (m.take (a+1))=q15z 0 g (l.take a) (m.take a) ++ (if s=t then [] else [ofL (45 :: 32 :: lineL g a s),ofL (43 :: 32 :: lineL g a t)]):=fun a s t ha ht=>by
  have h1:(l.take a).length=a:=by rw[List.length_take]; have:=(List.getElem?_eq_some_iff.1 ha).1; omega
  have h2:(m.take a).length=a:=by rw[List.length_take]; have:=(List.getElem?_eq_some_iff.1 ht).1; omega
  rw[q72z ha,q72z ht,diffFrom_snoc 0 g _ _ s t (by rw[h1,h2]),h1,Nat.zero_add]
 have hdle:∀a,a≤403→(q15z 0 g (l.take a) (m.take a)).length≤806:=fun a ha=>by
  have h:=diffFrom_le 0 g (l.take a) (m.take a)
  have h2:(l.take a).length≤a:=List.length_take_le _ _
  omega
 obtain⟨ad,N,cap,rfl,HN,hn2,HF⟩:=q26z hv
 obtain⟨ad2,N2,cap2,rfl,HN2,hn22,HF2⟩:=q26z hu
 obtain rfl:N=N2:=by rw[HN.out,HN2.out,hlm]
 obtain⟨F,hF⟩:∃F:Nat→ByteArray→List UInt8,(fun(a:Nat) s=>lineL g a s)=F:=⟨_,rfl⟩
 have hFe:∀(a:Nat) s,lineL g a s=F a s:=fun a s=>by rw[←hF]
 simp only[hFe] at hline hlle hsn
 obtain⟨DL,hDL⟩:∃DL:Nat→List ByteArray,(fun a=>q15z 0 g (l.take a) (m.take a))=DL:=⟨_,rfl⟩
 have hDe:∀a,q15z 0 g (l.take a) (m.take a)=DL a:=fun a=>by rw[←hDL]
 have hD0:DL 0=[]:=by rw[←hDL]; simp[q15z]
 have hDl:q15z 0 g l m=DL N:=by rw[←hDL]; simp only; rw[List.take_of_length_le (by rw[HN.out]; exact Nat.le_refl _),List.take_of_length_le (by rw[HN2.out]; exact Nat.le_refl _)]
 simp only[hDe] at hsn hdle
 rw[hDl] at HYes
 have hN403:N≤403:=by rw[HN.out]; omega
 have hNz:(N:Int)=g.size:=by rw[HN.out]; exact hlen
 rw[←hNz] at hline hlle
 have HAll:=zh hall
 have HAll2:=zh hall2
 obtain⟨ga,gb,gc⟩:=g
 unfold gV at hsh hsi hline ⊢
 have HSH:=zh hsh
 have HSI:=zh hsi
 have HLINE:=zh hline
 have HLLE:=zh hlle
 have HSN:=zh hsn
 have HDLE:=zh hdle
 clear hsh hsi hline hlle hsn hdle
 clear hsp hsq hv hu ht hm hgo hlen hall hlen2 hall2 hsz hF hFe hDL hDe hDl hlm hNz HNo
 obtain⟨W0,hW0⟩:=zg w ga gb gc
 have hk:=q14z hW0
 have HB0:=zh hk.1
 have HK:=zh hk.2
 clear hk
 obtain⟨z0,z1,z2⟩:=HK.out W0 (Below.refl _ _)
 go_enter Tryz.func17,Tryz.ntmps17
 go_wp2_with fail
 refine(HSH.out _ HB0.out).mono ?_
 rintro e w1 ⟨rfl,hb1⟩
 have HB1:Hid (Below W0.heap.size W0 w1):=hb1
 clear z0 z1 z2 hb1
 obtain⟨z0,z1,z2⟩:=HK.out w1 HB1.out
 go_wp2_with fail
 refine(HSI.out _ (blN HB0.out HB1.out)).mono ?_
 rintro e w2 ⟨rfl,hb2⟩
 have HB2:Hid (Below W0.heap.size W0 w2):=blN HB1.out hb2
 clear z0 z1 z2 hb2
 have HO2:Hid (OwnT W0.heap.size w2 (.slice none 0 0) (DL 0)):=by rw[hD0]; exact OwnT.void _ _
 go_wp2_with fail
 go_loopw [8,23] (fun v i wr=>∃k:Nat,k≤N∧i = .int .i64 (k:Int)∧Hid (OwnT W0.heap.size wr v (DL k))∧Hid (Below W0.heap.size W0 wr)) (fun _ i _=>N-(intOf i).toNat)
 case atStart=>exact⟨0,Nat.zero_le _,rfl,HO2,HB2⟩
 case round=>
  obtain⟨k,hk,rfl,HO,HB⟩:=hrel
  by_cases hlt:k<N
  ·obtain⟨b,o,x,rfl,hb,hx,hc⟩:=HF.out k hlt
   obtain⟨b2,o2,y,rfl,hb2,hy,hc2⟩:=HF2.out k hlt
   have HCx:Hid (∀W,Below W0.heap.size W0 W→W.cell? ⟨b,o+k,none⟩=some (.string x)):=fun W hW=>((blN HB0.out hW).cell (p:=⟨b,o+k,none⟩) hb).trans hc
   have HCy:Hid (∀W,Below W0.heap.size W0 W→W.cell? ⟨b2,o2+k,none⟩=some (.string y)):=fun W hW=>((blN HB0.out hW).cell (p:=⟨b2,o2+k,none⟩) hb2).trans hc2
   have c0:=HCx.out wr HB.out
   have c1:=HCy.out wr HB.out
   have hsn:=HSN.out k x y hx hy
   have f:=q80z x y
   have hk2:(k:Int)<(N:Int):=by omega
   by_cases hxy:x=y
   ·rw[if_pos hxy,List.append_nil] at hsn
    rw[decide_eq_true hxy] at f
    have HO2:Hid (OwnT W0.heap.size wr u8 (DL (k+1))):=by rw[hsn]; exact HO.out
    clear hsn hx hy hc hc2 hxy
    go_wp2
    go_roundw
    case rel=>exact⟨k+1,by omega,by go_num,HO2,HB⟩
    case measure=>simp[intOf]; omega
   ·rw[if_neg hxy] at hsn
    rw[decide_eq_false hxy] at f
    have sx:=HAll.out x (List.mem_of_getElem? hx)
    have sy:=HAll2.out y (List.mem_of_getElem? hy)
    have lx:=HLINE.out k x hk2 sx
    have ly:=HLINE.out k y hk2 sy
    have zsx:=HLLE.out k x hk2 sx
    have zy:=HLLE.out k y hk2 sy
    have qx:=q20z [45,32] (F k x)
    have qy:=q20z [43,32] (F k y)
    have zx2:(ofL (F k x)).size≤3020:=by rw[q9z]; exact zsx
    have zy2:(ofL (F k y)).size≤3020:=by rw[q9z]; exact zy
    have hdl:=HDLE.out k (by omega)
    obtain⟨LX,hLX⟩:=zx (ofL (F k x))
    obtain⟨LY,hLY⟩:=zx (ofL (F k y))
    obtain⟨MX,hMX⟩:=zx (ofL (45 :: 32 :: F k x))
    obtain⟨MY,hMY⟩:=zx (ofL (43 :: 32 :: F k y))
    change ofL [45,32] ++ ofL (F k x)=ofL (45 :: 32 :: F k x) at qx
    change ofL [43,32] ++ ofL (F k y)=ofL (43 :: 32 :: F k y) at qy
    rw[hLX,hMX] at qx
    rw[hLY,hMY] at qy
    rw[hLX] at lx zx2
    rw[hLY] at ly zy2
    rw[hMX,hMY] at hsn
    change (⟨#[45,32]⟩:ByteArray) ++ LX=MX at qx
    change (⟨#[43,32]⟩:ByteArray) ++ LY=MY at qy
    have hl1:¬9223372036854775807<2+LX.size:=by omega
    have hl2:¬9223372036854775807<2+LY.size:=by omega
    have HSX:=zh hsn
    have HDl:=zh hdl
    obtain⟨i0,hi,hz0,hz1,hz2⟩:=info_parts Tryz.infoText
    obtain⟨oad,on,ocap,rfl⟩:=HO.out.form
    have LX:=zh lx
    have LY:=zh ly
    clear lx ly
    clear hsn hx hy hc hc2 hxy sx sy zsx zy hLX hLY hMX hMY zx2 zy2 hdl
    have HKK:Hid (∀W,Below W0.heap.size W0 W→W.cell? ⟨w.heap.size,0,none⟩=some (.int .i64 ga)∧W.cell? ⟨w.heap.size,1,none⟩=some (.int .i64 gb)∧W.cell? ⟨w.heap.size,2,none⟩=some (.int .i64 gc)∧W.cell? ⟨b2,o2+k,none⟩=some (.string y)):=fun W hW=>⟨(HK.out W hW).1,(HK.out W hW).2.1,(HK.out W hW).2.2,HCy.out W hW⟩
    go_wp2_with fail
    clear c0 c1 f
    go_region_held3 (fun W=>W.cell? ⟨w.heap.size,0,none⟩=some (.int .i64 ga)∧W.cell? ⟨w.heap.size,1,none⟩=some (.int .i64 gb)∧W.cell? ⟨w.heap.size,2,none⟩=some (.int .i64 gc)∧W.cell? ⟨b2,o2+k,none⟩=some (.string y))
     ((refine HKK.out _ ?_; repeat' first | with_reducible exact HB.out | with_reducible exact HB3.out | with_reducible exact HB4.out | with_reducible exact HB5.out | with_reducible refine blD ?_ | with_reducible refine bl1 ?_ _))
     (first
       | (go_at_call_of 82 (Value.string x)
          refine(LX.out _ ?a1).mono ?_
          case a1=>
           refine blN HB0.out ?_
           repeat' first | with_reducible exact HB.out | with_reducible refine blD ?_ | with_reducible refine bl1 ?_ _
          rintro e w3 ⟨rfl,hb3⟩
          have HO3:Hid (OwnT W0.heap.size w3 (.slice oad on ocap) (DL k)):=(OwnT.below HO.out (blN (by repeat' first | with_reducible exact Below.refl _ _ | with_reducible refine blD ?_ | with_reducible refine bl1 ?_ _) hb3))
          have HB3:Hid (Below W0.heap.size W0 w3):=blN (by repeat' first | with_reducible exact HB.out | with_reducible refine blD ?_ | with_reducible refine bl1 ?_ _) hb3
          clear hb3
          simp only)
       | (go_at_call_of 82 (Value.string y)
          refine(LY.out _ ?a1).mono ?_
          case a1=>
           refine blN HB0.out ?_
           repeat' first | with_reducible exact HB3.out | with_reducible refine blD ?_ | with_reducible refine bl1 ?_ _
          rintro e w4 ⟨rfl,hb4⟩
          have HO4:Hid (OwnT W0.heap.size w4 (.slice oad on ocap) (DL k)):=(OwnT.below HO3.out (blN (by repeat' first | with_reducible exact Below.refl _ _ | with_reducible refine blD ?_ | with_reducible refine bl1 ?_ _) hb4))
          have HB4:Hid (Below W0.heap.size W0 w4):=blN (by repeat' first | with_reducible exact HB3.out | with_reducible refine blD ?_ | with_reducible refine bl1 ?_ _) hb4
          clear hb4
          simp only)
       | (refine step_append_lies _ (by rfl) _ _ _ (by rfl) W0.heap.size 9 i0 _ 1 16 Tryz.underlying24 hi hz0 hz1 hz2 rfl (by decide) (.slice oad on ocap) (DL k).length ((DL k).map Value.string) (by rfl) (OwnT.below HO4.out (bl2 _)) ⟨w4.heap.size,0,none⟩ 2 2 [.string MX,.string MY] (by rfl) (by rfl) (World.news_of_block (cs:=#[.string MX,.string MY]) (t:=9) (fr:=(0,0)) (q5z w4 _)) (by simp[Value.oneCell']) (by decide) ?_ ?_ ?_ (w4.heap.size+1) (by simp) ?_
          ·(have:=HDl.out; unfold maxLen; omega)
          ·(have:=HDl.out; omega)
          ·(have:=HB4.out.size; simp; omega)
          intro g5 cap5 w5 hown5 hgrow5 hat5 hlt5
          have HB5:Hid (Below W0.heap.size W0 w5):=own_grown (OwnT.below HO4.out (bl2 _)) (bl1 HB4.out _) hgrow5 (by have:=HB4.out.size; simp; omega) (Nat.le_refl _)
          have HO5:Hid (OwnT W0.heap.size w5 (.slice (some ⟨g5,0,none⟩) ((DL k).length+2) cap5) (DL (k+1))):=by
           show OwnT _ _ _ _
           rw[HSX.out]
           unfold OwnT
           rw[List.length_append,List.map_append]
           exact hown5
          clear hown5 hgrow5 hat5 hlt5))
    all_goals
     go_wp2
     go_roundw
     case rel=>exact⟨k+1,by omega,by go_num,HO5,HB5⟩
     case measure=>simp[intOf]; omega
  ·obtain rfl:k=N:=by omega
   obtain⟨oad,on,ocap,rfl⟩:=HO.out.form
   have HFin:=zh (HYes.out _ _ ((OwnT.texts HO.out).mono HB0.out.size) (blN HB0.out HB.out))
   go_wp2
   first | exact HFin.out | (go_ret2; exact HFin.out)
end
