import Derived.Test.YtgofmnhfajmbfaaGreatDoorSpCheck
set_option maxHeartbeats 4000000
namespace Go.Proofs.YtgofmnhfajmbfaaGreatDoor
open Go Go.RowKit
end Go.Proofs.YtgofmnhfajmbfaaGreatDoor
namespace Go.Proofs.YtgofmnhfajmbfaaGreatDoor
open Go Go.RowKit Txt Sp
theorem ownBlock_cells {α:Type} {e:TypeId} {size base:Nat} {f:α→List Value} {w:World} {v:Value} {l:List α} (h:OwnR e size f base w v l) {b:Nat} (hb:v.ownBlock=some b):∃cs,w.heap[b]? = some (.cells cs e (0,0)):=by
 obtain⟨_,⟨rfl,_⟩ | ⟨g,cap,cur,rfl,hg,hh,_⟩⟩:=h
 ·cases hb
 ·cases hb
  exact⟨_,hh⟩
theorem ownBlock_ne {α:Type} {e e':TypeId} {size base:Nat} {f:α→List Value} {w:World} {v:Value} {l:List α} (h:OwnR e size f base w v l) {b:Nat} {cs:Array Value} {fr:Nat×Nat} (hc:w.heap[b]? = some (.cells cs e' fr)) (hne:e≠e'):v.ownBlock≠some b:=fun hb=>by
 obtain⟨cs',hc'⟩:=ownBlock_cells h hb
 rw[hc] at hc'
 cases hc'
 exact hne rfl
section
variable {w0 wr wr':World} {base B Bd Bf:Nat} {D0 D K:Nat→Prop} {g:Sp.Geom} {i at_:Int} {n:Sp.Inode} {t t':BSt} {vb vm:Value} {S S':Sp.Side} {F F':File}
end
section
end
section
variable {w0 w:World} {base B Bd Bf:Nat} {D0 D:Nat→Prop} {g:Sp.Geom} {i at_:Int} {n:Sp.Inode} {t:BSt} {vb vm:Value}
end
section
variable {w0 w w1:World} {base B Bd Bf:Nat} {D0 D K K1:Nat→Prop} {g:Sp.Geom} {i at_:Int} {n:Sp.Inode} {t t':BSt} {vb vm:Value}
end
section
variable {w0 w w1:World} {base B Bd Bf:Nat} {D0 D K K1:Nat→Prop} {g:Sp.Geom} {i at_:Int} {n:Sp.Inode} {t t':BSt} {vb vm:Value}
end
section
variable {w0 w w1 wr:World} {base B Bd Bf:Nat} {D0 D K K1:Nat→Prop} {g:Sp.Geom} {i at_:Int} {n:Sp.Inode} {t t':BSt} {vb vm:Value}
end
section
variable {w0 w w1 wr:World} {base B Bd Bf:Nat} {D0 D K K1:Nat→Prop} {g:Sp.Geom} {i at_:Int} {n:Sp.Inode} {t t':BSt} {vb vm:Value}
end
section
variable {w0 w w1 wr:World} {base B Bd Bf:Nat} {D0 D K K1:Nat→Prop} {g:Sp.Geom} {i at_:Int} {n:Sp.Inode} {t t':BSt} {vb vm:Value}
/-- What stands for all of a put: from a world w1 on. -/
structure PutK (w0:World) (base B Bd Bf:Nat) (D0:Nat→Prop) (g:Sp.Geom) (i at_:Int) (n:Sp.Inode) (vb:Value) (K:Nat→Prop) (w1:World) (vk:Value) (ks:List Int):Prop where
 ok:g.ok
 at_:at_=q132z g i
 groups:∀k∈ks,0≤k∧k<g.groups
 ints:∀W,Turn D0 w0 W→Ints W vk ks
variable {vk:Value} {ks:List Int}
end
theorem inodeAt_in {g:Sp.Geom} (hg:g.ok) {i:Int} (h1:1≤i) (h2:i≤g.groups*g.inodes):(q23z g i).1=q132z g i∧(q23z g i).2.2.2=0:=by
 have hm:=Geom.many_ok hg
 unfold q23z Geom.within
 rw[if_pos hg,hm,if_neg (show ¬(i<0∨g.groups*g.inodes+1≤i) by omega),if_pos rfl,if_neg (show ¬i=0 by omega)]
 exact⟨rfl,rfl⟩
section
theorem first_zeroI {w w5:World} {cs:Array Value} {e:TypeId} (hb:Below (w.alloc (.cells cs e)).drew.heap.size (w.alloc (.cells cs e)).drew w5):w5.heap[w.heap.size]? = some (.cells cs e (0,0)):=q1z (blN (blD (Below.refl _ _)) hb) (q5z w _)
theorem next_zeroI {w w5:World} {cs:Array Value} {e:TypeId} (hb:Below (w.alloc (.cells cs e)).heap.size (w.alloc (.cells cs e)) w5):w5.heap[w.heap.size]? = some (.cells cs e (0,0)):=q1z hb (q5z w _)
theorem sets14 {w0 w:World} {B b:Nat} (hB:B≤b) (h:Below B w0 w) {v0 v1 v2 v3 v4 v5 v6 v7 v8 v9 v10 v11 v12 v13:Value}:Below B w0 ((((((((((((((w.setCell ⟨b,0,none⟩ v0).setCell ⟨b,1,none⟩ v1).setCell ⟨b,2,none⟩ v2).setCell ⟨b,3,none⟩ v3).setCell ⟨b,4,none⟩ v4).setCell ⟨b,5,none⟩ v5).setCell ⟨b,6,none⟩ v6).setCell ⟨b,7,none⟩ v7).setCell ⟨b,8,none⟩ v8).setCell ⟨b,9,none⟩ v9).setCell ⟨b,10,none⟩ v10).setCell ⟨b,11,none⟩ v11).setCell ⟨b,12,none⟩ v12).setCell ⟨b,13,none⟩ v13):=
 q28z hB [v0,v1,v2,v3,v4,v5,v6,v7,v8,v9,v10,v11,v12,v13] 0 w h
theorem blk_cells {w:World} {n:Nat} {cs:Array Value} {e:TypeId} (h:w.heap[n]? = some (.cells cs e (0,0))):(∀k,w.cell? ⟨n,k,none⟩=cs[k]?)∧∀k,w.frozen? ⟨n,k,none⟩=false:=
 ⟨fun k=>by simp[World.cell?,h],fun k=>by simp[World.frozen?,h]⟩
theorem ino_cells {w:World} {n:Nat} (h:w.heap[n]? = some (.cells #[.int .i64 0,.int .i64 0,.int .i64 0,.int .i64 0,.int .i64 0,.int .i64 0,.int .i64 0,.int .i64 0,.int .i64 0,.int .i64 0,.int .i64 0,.int .i64 0,.int .i64 0,.int .i64 0] 69 (0,0))) :
 (∀k,w.cell? ⟨n,k,none⟩=(#[.int .i64 0,.int .i64 0,.int .i64 0,.int .i64 0,.int .i64 0,.int .i64 0,.int .i64 0,.int .i64 0,.int .i64 0,.int .i64 0,.int .i64 0,.int .i64 0,.int .i64 0,.int .i64 0]:Array Value)[k]?)∧∀k,w.frozen? ⟨n,k,none⟩=false:=
 ⟨fun k=>by simp[World.cell?,h],fun k=>by simp[World.frozen?,h]⟩
end
section
end
section
end
section
variable {w0 w:World} {base B Bd Bf:Nat} {D0 D:Nat→Prop} {g:Sp.Geom} {i at_:Int} {n:Sp.Inode} {t:BSt} {vb vm:Value}
end
section
end
