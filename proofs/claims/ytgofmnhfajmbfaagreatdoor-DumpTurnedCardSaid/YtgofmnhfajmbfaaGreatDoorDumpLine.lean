import Derived.Test.YtgofmnhfajmbfaaGreatDoorSpLeased
set_option maxRecDepth 20000
namespace Go.Proofs.YtgofmnhfajmbfaaGreatDoor
open Go Go.RowKit Txt Sp
def TellLeased (g:Sp.Geom) (a:Int) (s:ByteArray) (w:World):Prop:=
 ∀W,Below w.heap.size w W→(g.kind a).1=2→Calls Tryz.prog 223 #[gV g,.int .i64 a,.string s] W (q29z (told g a s) W)
def TellListed (g:Sp.Geom) (a:Int) (s:ByteArray) (w:World):Prop:=
 ∀W,Below w.heap.size w W→(g.kind a).1=6→Calls Tryz.prog 226 #[.string s] W (q29z (told g a s) W)
theorem dwhat_of (w:World) (g:Sp.Geom) (a:Int) (s:ByteArray) (hg:g.ok) (h0:0≤a) (h1:a<g.size) (hs:s.size=64) (ht:TabOk w)
 (hle:TellLeased g a s w) (hli:TellListed g a s w) :
 Calls Tryz.prog 160 #[gV g,.int .i64 a,.string s] w (q35z g a s w):=by
 by_cases hb:s=Sp.blank
 ·exact dwhat_blank w g a s hb
 by_cases hu:q51z s
 ·exact dwhat_super w g a s ht hb hu
 by_cases hf:q56z s
 ·exact dwhat_fence w g a s ht hb hu hf
 exact dwhat_kind w g a s hg h0 h1 hs ht hb hu hf hle hli
section
set_option maxHeartbeats 8000000
theorem dline_of (w:World) (g:Sp.Geom) (a:Nat) (s:ByteArray) (hg:g.ok) (h1:(a:Int)<g.size) (ha:a<9223372036854775808) (hs:s.size=64) (ht:TabOk w)
 (hle:TellLeased g a s w) (hli:TellListed g a s w) :
 Calls Tryz.prog 82 #[gV g,.int .i64 (a:Int),.string s] w fun e w'=>e = .returned (.string (ofL (lineL g a s)))∧Below w.heap.size w w':=by
 have hw:∀W,Below w.heap.size w W→Calls Tryz.prog 160 #[gV g,.int .i64 (a:Int),.string s] W (q35z g a s W):=fun W hW=>dwhat_of W g a s hg (by omega) h1 hs (ht.below hW) (fun W' hW'=>hle W' (blN hW hW')) (fun W' hW'=>hli W' (blN hW hW'))
 unfold q35z at hw
 have hn:=fun(W:World) (ht:TabOk W)=>dnumber_any W a ha ht
 have hz1:(ofL (q3z a)).size≤19:=by rw[q9z]; exact q41z ha
 have hz2:(ofL (whatL g a s)).size≤3000:=by rw[q9z]; exact whatL_le hg hs
 have hc1:=q20z (q3z a) [32]
 have hc2:=q20z (q3z a ++ [32]) (whatL g a s)
 have hz3:(ofL (q3z a ++ [32])).size≤20:=by
  have:=q41z ha
  rw[q9z,List.length_append,List.length_singleton]
  omega
 have hY:∀w',Below w.heap.size w w'→(fun(e:Ending) (w':World)=>e = .returned (.string (ofL (lineL g a s)))∧Below w.heap.size w w') (.returned (.string (ofL (q3z a ++ [32] ++ whatL g a s)))) w':=fun w' hb=>⟨by unfold lineL; rw[Int.toNat_natCast,List.append_assoc]; rfl,hb⟩
 obtain⟨Q,hQ⟩:∃Q,(fun(e:Ending) (w':World)=>e = .returned (.string (ofL (lineL g a s)))∧Below w.heap.size w w')=Q:=⟨_,rfl⟩
 rw[hQ] at hY ⊢
 obtain⟨D,hD⟩:=zx (ofL (q3z a))
 obtain⟨X,hX⟩:=zx (ofL (whatL g a s))
 obtain⟨D2,hD2⟩:=zx (ofL (q3z a ++ [32]))
 obtain⟨R,hR⟩:=zx (ofL (q3z a ++ [32] ++ whatL g a s))
 rw[hD] at hn hz1 hc1
 rw[hX] at hw hz2 hc2
 rw[hD2] at hc1 hc2 hz3
 rw[hR] at hc2 hY
 change D ++ (⟨#[32]⟩:ByteArray)=D2 at hc1
 have hl1:¬9223372036854775807<D.size+1:=by omega
 have hl2:¬9223372036854775807<D2.size+X.size:=by omega
 have HT:=zh ht
 clear hD hX hD2 hR hQ hz1 hz2 hz3 hle hli hg h1 ha hs ht
 obtain⟨n,hna⟩:∃n:Int,(a:Int)=n:=⟨_,rfl⟩
 rw[hna] at hw hn ⊢
 clear hna
 obtain⟨ga,gb,gc⟩:=g
 unfold gV at hw ⊢
 have HW:=zh hw
 have HN:=zh hn
 have HY:=zh hY
 clear hw hn hY
 obtain⟨W0,hW0⟩:=zg w ga gb gc
 have hk:=q14z hW0
 have HB0:=zh hk.1
 have HK:=zh hk.2
 clear hk
 go_enter Tryz.func82,Tryz.ntmps82
 go_wp2_with fail
 go_region_held3 (fun W=>W.cell? ⟨w.heap.size,0,none⟩=some (.int .i64 ga)∧W.cell? ⟨w.heap.size,1,none⟩=some (.int .i64 gb)∧W.cell? ⟨w.heap.size,2,none⟩=some (.int .i64 gc))
  ((refine HK.out _ ?_; repeat' first | with_reducible exact Below.refl _ _ | with_reducible exact HB1.out | with_reducible exact HB2.out | with_reducible refine blD ?_ | with_reducible refine bl1 ?_ _))
  (first
    | (go_at_call 159
       refine(HN.out _ ?a1).mono ?_
       case a1=>
        refine HT.out.below (blN HB0.out ?_)
        repeat' first | with_reducible exact Below.refl _ _ | with_reducible exact HB2.out | with_reducible refine blD ?_ | with_reducible refine bl1 ?_ _
       rintro e w1 ⟨rfl,hb1⟩
       have HB1:Hid (Below W0.heap.size W0 w1):=blN (by repeat' first | with_reducible exact Below.refl _ _ | with_reducible exact HB2.out | with_reducible refine blD ?_ | with_reducible refine bl1 ?_ _) hb1
       clear hb1
       simp only)
    | (go_at_call 160
       refine(HW.out _ ?a1).mono ?_
       case a1=>
        refine blN HB0.out ?_
        repeat' first | with_reducible exact Below.refl _ _ | with_reducible exact HB1.out | with_reducible refine blD ?_ | with_reducible refine bl1 ?_ _
       rintro e w2 ⟨rfl,hb2⟩
       have HB2:Hid (Below W0.heap.size W0 w2):=blN (by repeat' first | with_reducible exact Below.refl _ _ | with_reducible exact HB1.out | with_reducible refine blD ?_ | with_reducible refine bl1 ?_ _) hb2
       clear hb2
       simp only))
 all_goals
  go_wp2
  first | exact HY.out _ (blN HB0.out HB2.out) | exact HY.out _ (blN HB0.out HB1.out) | (go_ret2; first | exact HY.out _ (blN HB0.out HB2.out) | exact HY.out _ (blN HB0.out HB1.out))
theorem dLine_of (w:World) (g:Sp.Geom) (a:Nat) (s:ByteArray) (hg:g.ok) (h1:(a:Int)<g.size) (ha:a<9223372036854775808) (hs:s.size=64) (ht:TabOk w)
 (hle:TellLeased g a s w) (hli:TellListed g a s w) :
 Calls Tryz.prog 19 #[gV g,.int .i64 (a:Int),.string s] w fun e w'=>e = .returned (.tuple #[.string (ofL (lineL g a s)),.int .i64 0])∧Below w.heap.size w w':=by
 have hl:∀W,Below w.heap.size w W→Calls Tryz.prog 82 #[gV g,.int .i64 (a:Int),.string s] W fun e w'=>e = .returned (.string (ofL (lineL g a s)))∧Below W.heap.size W w':=fun W hW=>dline_of W g a s hg h1 ha hs (ht.below hW) (fun W' hW'=>hle W' (blN hW hW')) (fun W' hW'=>hli W' (blN hW hW'))
 have hch:=fun W:World=>q44z W g
 rw[Geom.check_ok hg] at hch
 have hsi:=fun W:World=>q83z W g
 obtain⟨z,hz⟩:=zx (g.size)
 rw[hz] at hsi h1
 have hY:∀w',Below w.heap.size w w'→(fun(e:Ending) (w':World)=>e = .returned (.tuple #[.string (ofL (lineL g a s)),.int .i64 0])∧Below w.heap.size w w') (.returned (.tuple #[.string (ofL (lineL g a s)),.int .i64 0])) w':=fun w' hb=>⟨rfl,hb⟩
 obtain⟨Q,hQ⟩:∃Q,(fun(e:Ending) (w':World)=>e = .returned (.tuple #[.string (ofL (lineL g a s)),.int .i64 0])∧Below w.heap.size w w')=Q:=⟨_,rfl⟩
 rw[hQ] at hY ⊢
 obtain⟨R,hR⟩:=zx (ofL (lineL g a s))
 rw[hR] at hl hY
 obtain⟨n,hna⟩:∃n:Int,(a:Int)=n:=⟨_,rfl⟩
 have n0:0≤n:=by omega
 rw[hna] at hl h1 ⊢
 have f1:decide (n<0)=false:=decide_eq_false (by omega)
 have f2:decide (z≤n)=false:=decide_eq_false (by omega)
 have f2':decide (n≥z)=false:=decide_eq_false (by omega)
 have f3:¬n<0:=by omega
 have f4:¬z≤n:=by omega
 clear hR hQ hna hle hli hg hz ht ha n0 h1
 obtain⟨ga,gb,gc⟩:=g
 unfold gV at hl hch hsi ⊢
 have HL:=zh hl
 have HCH:=zh hch
 have HSI:=zh hsi
 have HY:=zh hY
 clear hl hch hsi hY
 obtain⟨W0,hW0⟩:=zg w ga gb gc
 have hk:=q14z hW0
 have HB0:=zh hk.1
 have HK:=zh hk.2
 clear hk
 obtain⟨z0,z1,z2⟩:=HK.out W0 (Below.refl _ _)
 go_enter Tryz.func19,Tryz.ntmps19
 go_wp2_with fail
 refine(HCH.out _).mono ?_
 rintro e w1 ⟨rfl,hb1⟩
 have HB1:=zh (blN (Below.refl _ _) hb1)
 clear hb1
 clear z0 z1 z2
 obtain⟨z0,z1,z2⟩:=HK.out w1 HB1.out
 go_wp2_with fail
 refine(HSI.out _).mono ?_
 rintro e w2 ⟨rfl,hb2⟩
 have HB2:=zh (blN HB1.out hb2)
 clear hb2
 clear z0 z1 z2
 obtain⟨z0,z1,z2⟩:=HK.out w2 HB2.out
 go_wp2_with fail
 refine(HL.out _ (blN HB0.out HB2.out)).mono ?_
 rintro e w3 ⟨rfl,hb3⟩
 go_wp2
 first | exact HY.out _ (blN (blN HB0.out HB2.out) hb3) | (go_ret2; exact HY.out _ (blN (blN HB0.out HB2.out) hb3))
end
