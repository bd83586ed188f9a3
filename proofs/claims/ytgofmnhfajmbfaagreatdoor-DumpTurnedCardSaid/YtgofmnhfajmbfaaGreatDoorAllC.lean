import Derived.Test.YtgofmnhfajmbfaaGreatDoorDepB
import Derived.Test.YtgofmnhfajmbfaaGreatDoorAllocA
set_option maxHeartbeats 8000000
namespace Go.Proofs.YtgofmnhfajmbfaaGreatDoor
open Go Go.RowKit Txt Sp
section
end
section
end
section
end
section
end
def blkAt (g:Sp.Geom) (k p:Int):Int×Int:=if g.within k g.groups=0 then(if g.within p g.blocks=0 then(blockNo g k p,0) else(0,g.within p g.blocks)) else(0,g.within k g.groups)
section
set_option maxRecDepth 20000 in
theorem gblock_any (w:World) (g:Sp.Geom) (k p:Int):Calls Tryz.prog 128 #[gV g,.int .i64 k,.int .i64 p] w fun e w'=>e = .returned (.tuple #[.int .i64 (blkAt g k p).1,.int .i64 (blkAt g k p).2])∧Below w.heap.size w w':=by
 have hw:=fun W:World=>q82z W g k g.groups
 have hv:=fun W:World=>q82z W g p g.blocks
 obtain⟨x,y,hx⟩:∃x y,blkAt g k p=(x,y):=⟨_,_,rfl⟩
 rw[hx]
 unfold blkAt at hx
 have hwz:=fun h=>(⟨(q25z (g:=g) (n:=k) (m:=g.groups) h).1,(q25z (g:=g) (n:=k) (m:=g.groups) h).2,Geom.first_bd (q25z (g:=g) (n:=k) (m:=g.groups) h).1 (k:=k) (q25z (g:=g) (n:=k) (m:=g.groups) h).2.1 (by have h2:=(q25z (g:=g) (n:=k) (m:=g.groups) h).2.2; have h3:=(q25z (g:=g) (n:=k) (m:=g.groups) h).1.2.1; omega)⟩:g.ok∧(0≤k∧k<g.groups)∧3≤g.first k∧g.first k≤403)
 have hpz:=fun h=>(q25z (g:=g) (n:=p) (m:=g.blocks) h).2
 have hf:=fun(W:World) (hg:g.ok) (h0:0≤k) (h4:k≤4)=>q112z W hg h0 h4
 unfold blockNo at hx
 obtain⟨f,hf0⟩:=zx (g.first k)
 rw[hf0] at hf hx hwz
 obtain⟨ga,gb,gc⟩:=g
 simp only at hw hv hx hwz hpz hf
 obtain⟨c,hc⟩:=zx ((⟨ga,gb,gc⟩:Sp.Geom).within k ga)
 obtain⟨d,hd⟩:=zx ((⟨ga,gb,gc⟩:Sp.Geom).within p gc)
 rw[hc] at hw hx hwz
 rw[hd] at hv hx hpz
 unfold gV at hw hv hf ⊢
 obtain⟨W0,hW0⟩:=zg w ga gb gc
 have hk:=q14z hW0
 have HB0:=zh hk.1
 have HK:=zh hk.2
 clear hk
 have HW:=zh hw
 have HV:=zh hv
 have HWZ:=zh hwz
 have HPZ:=zh hpz
 have HX:=zh hx
 have HF:=zh hf
 clear hw hv hwz hpz hx hf
 clear hc hd hf0
 obtain⟨z0,z1,z2⟩:=HK.out W0 (Below.refl _ _)
 go_enter Tryz.func128,Tryz.ntmps128
 go_wp2_with fail
 clear z0 z1 z2
 refine(HW.out _).mono ?_
 rintro e w1 ⟨rfl,hb1⟩
 have HB1:Hid (Below W0.heap.size W0 w1):=hb1
 clear hb1
 obtain⟨z0,z1,z2⟩:=HK.out w1 HB1.out
 by_cases hc0:c=0
 rotate_left
 ·have f1:(c == 0)=false:=beq_eq_false_iff_ne.2 hc0
  have f2:(c != 0)=true:=by simp[hc0]
  have hx:=HX.out
  rw[if_neg hc0] at hx
  have HE:=zh hx
  clear hc0 hx
  go_wp2
  go_ret2
  exact⟨q123z HE.out,blN HB0.out HB1.out⟩
 obtain⟨hg,⟨h0,h1⟩,h2,h3⟩:=HWZ.out hc0
 have hx:=HX.out
 rw[if_pos hc0] at hx
 have HX2:=zh hx
 have hf:=fun W=>HF.out W hg h0 (by have:=hg.2.1; simp only at this; omega)
 subst hc0
 have hgb:1≤gb∧gb≤32:=⟨hg.2.2.1,hg.2.2.2.1⟩
 have hgc:1≤gc∧gc≤64:=⟨hg.2.2.2.2.1,hg.2.2.2.2.2⟩
 have HF:=zh hf
 clear hf
 clear hx HWZ HX hg h1
 go_wp2_with fail
 clear z0 z1 z2
 refine(HV.out _).mono ?_
 rintro e w2 ⟨rfl,hb2⟩
 have HB2:Hid (Below W0.heap.size W0 w2):=blN HB1.out hb2
 clear hb2
 obtain⟨z0,z1,z2⟩:=HK.out w2 HB2.out
 by_cases hd0:d=0
 rotate_left
 ·have f1:(d == 0)=false:=beq_eq_false_iff_ne.2 hd0
  have f2:(d != 0)=true:=by simp[hd0]
  have hx:=HX2.out
  rw[if_neg hd0] at hx
  have HE:=zh hx
  clear hd0 hx
  go_wp2
  go_ret2
  exact⟨q123z HE.out,blN HB0.out HB2.out⟩
 have hp:=HPZ.out hd0
 have hx:=HX2.out
 rw[if_pos hd0] at hx
 have HE:=zh hx
 subst hd0
 have e5:IntKind.i64.wrap (f+2)=f+2:=IntWalk.i64_in _ (by omega)
 have e6:IntKind.i64.wrap (f+2+gb)=f+2+gb:=IntWalk.i64_in _ (by omega)
 have e7:IntKind.i64.wrap (f+2+gb+p)=f+2+gb+p:=IntWalk.i64_in _ (by omega)
 clear hx HX2 HPZ hgb hgc
 go_wp2_with fail
 go_region_held3 (fun W=>W.cell? ⟨w.heap.size,0,none⟩=some (.int .i64 ga)∧W.cell? ⟨w.heap.size,1,none⟩=some (.int .i64 gb)∧W.cell? ⟨w.heap.size,2,none⟩=some (.int .i64 gc))
  ((refine HK.out _ ?_; repeat' first | with_reducible exact Below.refl _ _ | with_reducible exact HB2.out | with_reducible exact HB3.out | with_reducible refine blD ?_ | with_reducible refine bl1 ?_ _))
  (first
    | (go_at_call 110
       refine(HF.out _).mono ?_
       rintro e w3 ⟨rfl,hb3⟩
       have HB3:Hid (Below W0.heap.size W0 w3):=blN (by repeat' first | with_reducible exact HB2.out | with_reducible refine blD ?_ | with_reducible refine bl1 ?_ _) hb3
       clear hb3
       simp only))
 go_wp2
 go_ret2
 exact⟨q123z HE.out,blN HB0.out HB3.out⟩
end
section
end
section
theorem mapAt_in {g:Sp.Geom} (hg:g.ok) {k:Int} (hk:0≤k∧k<g.groups) (b:Bool):mapAt g k b=(q134z g k b,0):=by
 have hw:g.within k g.groups=0:=by unfold Geom.within; rw[if_pos hg,if_neg (by omega)]
 unfold mapAt
 rw[if_pos hw]
 rfl
end
section
end
section
end
section
end
section
end
section
end
end Go.Proofs.YtgofmnhfajmbfaaGreatDoor
namespace Go.Proofs.YtgofmnhfajmbfaaGreatDoor
open Go Go.RowKit
def q113z (x:Int) (n:Nat):Int:=(x.tmod (n:Int)+n).tmod n
theorem amongJ_bd (x:Int) (n:Nat) (h0:0<n):0≤q113z x n∧q113z x n<n:=by
 have h2:-(n:Int)<x.tmod (n:Int):=Int.lt_tmod_of_pos x (by omega)
 exact⟨Int.tmod_nonneg _ (by omega),Int.tmod_lt_of_pos _ (by omega)⟩
theorem amongJ_any (w:World) (x:Int) (n:Nat) (h0:0<n) (hn:n≤4000000000) :
 Calls Tryz.prog 18 #[.int .i64 x,.int .i64 n] w fun e w'=>e = .returned (.int .i64 (q113z x n))∧w' = w:=by
 have h1:x.tmod (n:Int)<n:=Int.tmod_lt_of_pos x (by omega)
 have h2:-(n:Int)<x.tmod (n:Int):=Int.lt_tmod_of_pos x (by omega)
 have hw:wrap64 (x.tmod (n:Int)+n)=x.tmod (n:Int)+n:=IntWalk.wrap64_in _ ⟨by omega,by omega⟩
 have HY:Hid ((wrap64 (x.tmod (n:Int)+n)).tmod n=q113z x n):=by show(wrap64 (x.tmod (n:Int)+n)).tmod n=_; rw[hw]; rfl
 clear h1 h2 hw
 go_enter Tryz.func18,Tryz.ntmps18
 go_wp2
 go_ret
 rw[HY.out]
 exact⟨rfl,rfl⟩
end Go.Proofs.YtgofmnhfajmbfaaGreatDoor
namespace Go.Proofs.YtgofmnhfajmbfaaGreatDoor
open Go Go.RowKit Txt Sp
section
end
