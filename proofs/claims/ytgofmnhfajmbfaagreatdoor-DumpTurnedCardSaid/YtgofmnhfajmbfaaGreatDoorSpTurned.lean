import Derived.Test.YtgofmnhfajmbfaaGreatDoorSpLoadC
namespace Go.Proofs.YtgofmnhfajmbfaaGreatDoor
open Go Txt Sp
theorem diff_same (g:Sp.Geom):∀(l:List ByteArray) (i:Nat),q15z i g l l=[]
 | [],_=>rfl
 | s :: r,i=>by
   unfold q15z
   rw[if_pos rfl]
   exact diff_same g r (i+1)
theorem diff_set (g:Sp.Geom) {t:ByteArray}:∀(l:List ByteArray) (i k:Nat) (s:ByteArray),l[k]? = some s→s≠t→q15z i g l (l.set k t)=[ofL (45 :: 32 :: lineL g ((i+k:Nat):Int) s),ofL (43 :: 32 :: lineL g ((i+k:Nat):Int) t)]
 | [],_,_,_,h,_=>by cases h
 | x :: r,i,0,s,h,hne=>by
   have e:x=s:=Option.some.inj h
   subst e
   rw[List.set_cons_zero]
   unfold q15z
   rw[if_neg hne,diff_same]
   rfl
 | x :: r,i,k+1,s,h,hne=>by
   rw[List.set_cons_succ]
   unfold q15z
   rw[if_pos rfl,diff_set g r (i+1) k s h hne,show i+1+k=i+(k+1) by omega]
theorem line_inj {g:Sp.Geom} {i:Nat} {s t:ByteArray} (hg:g.ok) (hs:s.size=64) (ht:t.size=64) (h:lineL g (i:Int) s=lineL g (i:Int) t):s=t:=by
 have h1:=line_back (i:=i) hg hs
 rw[h,line_back hg ht] at h1
 exact(Option.some.inj h1).symm
