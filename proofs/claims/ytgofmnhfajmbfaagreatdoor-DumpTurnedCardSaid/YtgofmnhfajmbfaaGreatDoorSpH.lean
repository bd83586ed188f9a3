import Derived.Test.YtgofmnhfajmbfaaGreatDoorSpA
namespace Go.Proofs.YtgofmnhfajmbfaaGreatDoor.Sp
open Go Txt
/-- A change that is not done: 1 pending, 2 under way. -/
structure Chg where
 num:Nat
 at_:Int
 off:Int
 bytes:ByteArray
 ahead:List Int
 state:Int
structure Deps where
 l:List Chg
 last:Nat
structure Wr where
 node:Int
 epoch:Int
 at_:Int
 s:ByteArray
structure Disk where
 l:List ByteArray
 waits:List (Int×Wr)
 last:Nat
structure Side where
 disk:Disk
 deps:Deps
 node:Int
 epoch:Int
 fly:List (Int×Int)
/-- Changes of a side: as many as may be, each in its sector, their numbers rising. -/
structure Deps.Ok (d:Deps):Prop where
 few:d.l.length≤1024
 fit:∀c∈d.l,inside c.off c.bytes.size
 st:∀c∈d.l,c.state=1∨c.state=2
 num:∀c∈d.l,1≤c.num∧c.num≤d.last
 rise:d.l.Pairwise (fun a b=>a.num<b.num)
 last:d.last≤1000000000
structure Side.Ok (S:Side):Prop where
 deps:S.deps.Ok
 sect:∀s∈S.disk.l,s.size=64
 size:S.disk.l.length≤2048
def q134z (g:Geom) (k:Int) (b:Bool):Int:=g.first k+(if b then 1 else 0)
/-- What a taking answers: its group, its place, its change, a code. -/
structure Took where
 group:Int
 place:Int
 change:Int
 code:Int
def inodeNo (g:Geom) (k p:Int):Int:=k*g.inodes+p+1
def blockNo (g:Geom) (k p:Int):Int:=g.first k+2+g.inodes+p
def inodeC (g:Geom) (n:Int):Int:=if g.ok then(if n<1∨g.groups*g.inodes<n then 1 else 0) else 4
section
variable {S:Side} {g:Geom} {X Y:List Int} {r:Nat}
theorem inodeC_no {g:Geom} (hg:g.ok) {n:Int} (h1:1≤n) (h2:n≤g.groups*g.inodes):inodeC g n=0∧(0≤(n-1) / g.inodes∧(n-1) / g.inodes<g.groups)∧(0≤(n-1) % g.inodes∧(n-1) % g.inodes<g.inodes)∧inodeNo g ((n-1) / g.inodes) ((n-1) % g.inodes)=n:=by
 have hi:0<g.inodes:=hg.2.2.1
 refine⟨?_,⟨Int.ediv_nonneg (by omega) (by omega),Int.ediv_lt_of_lt_mul hi (by omega)⟩,⟨Int.emod_nonneg _ (by omega),Int.emod_lt_of_pos _ hi⟩,?_⟩
 ·unfold inodeC
  rw[if_pos hg,if_neg (by omega)]
 ·unfold inodeNo
  have:=Int.mul_ediv_add_emod (n-1) g.inodes
  rw[Int.mul_comm] at this
  omega
end
def secAt (g:Geom) (i:Int):ByteArray:=if i=0 then q65z g else if i=1 then wallB 0 0 else if i=g.first 0 then ofL (1 :: zeros 63) else if i=g.first 0+2 then q53z rootN else blank
section
variable {g:Geom} {node epoch:Int}
theorem map_in (hg:g.ok) {k:Int} (hk:0≤k∧k<g.groups) (b:Bool):0≤q134z g k b∧q134z g k b<g.size∧secAt g (q134z g k b)=if k=0∧b=false then ofL (1 :: zeros 63) else blank:=by
 have h0:=Geom.first_bd hg (k:=0) (by omega) (by omega)
 have hl:=Geom.long_bd hg
 have hkl:0≤k*g.long:=Int.mul_nonneg hk.1 (by omega)
 have hs:(k+1)*g.long≤g.groups*g.long:=Int.mul_le_mul_of_nonneg_right (by omega) (by omega)
 rw[Int.add_mul] at hs
 have hf:g.first k=g.first 0+k*g.long:=by unfold Geom.first; omega
 have hz:g.size=g.first 0+g.groups*g.long:=by rw[Geom.size_ok hg]; unfold Geom.first; omega
 have hk1:k≠0→g.long≤k*g.long:=fun h=>by
  have:=Int.mul_le_mul_of_nonneg_right (show 1≤k by omega) (show 0≤g.long by omega)
  omega
 unfold q134z secAt
 have hb:(if b then(1:Int) else 0)=0∧b=false∨(if b then(1:Int) else 0)=1∧b=true:=by cases b <;> simp
 have hk0:k=0→k*g.long=0:=fun h=>by rw[h,Int.zero_mul]
 rcases hb with ⟨hb,rfl⟩ | ⟨hb,rfl⟩
 ·rw[hb]
  refine⟨by omega,by omega,?_⟩
  rw[if_neg (by omega),if_neg (by omega)]
  by_cases hk0':k=0
  ·have:=hk0 hk0'
   rw[if_pos (by omega),if_pos ⟨hk0',rfl⟩]
  ·have:=hk1 hk0'
   rw[if_neg (by omega),if_neg (by omega),if_neg (fun h=>hk0' h.1)]
 ·rw[hb]
  refine⟨by omega,by omega,?_⟩
  have h3:g.first k+1≠g.first 0∧g.first k+1≠g.first 0+2:=by
   by_cases hk0':k=0
   ·have:=hk0 hk0'; omega
   ·have:=hk1 hk0'; omega
  rw[if_neg (by omega),if_neg (by omega),if_neg h3.1,if_neg h3.2,if_neg (fun h=>absurd h.2 (by decide))]
end
section
variable {n:Inode} (h:n.direct.length=8)
include h
end
structure File where
 kind:Int
 links:Int
 size:Int
 parent:Int
 gen:Int
 blocks:List Int
 more:Int
section
variable {V:Int→ByteArray} {j:Int} {F:File}
end
section
variable {V:Int→ByteArray} {j:Int} {F:File}
end
def q132z (g:Geom) (i:Int):Int:=g.first ((i-1) / g.inodes)+2+(i-1) % g.inodes
section
variable {g:Geom} (hg:g.ok)
include hg
theorem inodeSec_in {i:Int} (h1:1≤i) (h2:i≤g.groups*g.inodes):0≤q132z g i∧q132z g i<g.size:=by
 have hl:g.long=2+g.inodes+g.blocks:=rfl
 have hlp:=Geom.long_bd hg
 have hb:=hg.2.2.2.2.1
 obtain⟨_,⟨k0,k1⟩,⟨p0,p1⟩,_⟩:=inodeC_no hg h1 h2
 have h0:=Geom.first_bd hg (k:=0) (by omega) (by omega)
 have hkl:0≤(i-1) / g.inodes*g.long:=Int.mul_nonneg k0 (by omega)
 have hs:((i-1) / g.inodes+1)*g.long≤g.groups*g.long:=Int.mul_le_mul_of_nonneg_right (by omega) (by omega)
 rw[Int.add_mul] at hs
 have hf:g.first ((i-1) / g.inodes)=g.first 0+(i-1) / g.inodes*g.long:=by unfold Geom.first; omega
 have hz:g.size=g.first 0+g.groups*g.long:=by rw[Geom.size_ok hg]; unfold Geom.first; omega
 unfold q132z
 omega
end
section
variable {g:Geom} {i:Int} {S:Side} {F:File} {X Y:List Int} {r:Nat}
end
section
variable {g:Geom} {i:Int} {S:Side} {F:File} {X Y:List Int} {r:Nat}
theorem whole {l x:List UInt8} (h:l.length=64) (hx:x.length=64):q40z l 0 x=x:=by
 unfold q40z
 rw[List.take_zero,List.nil_append,Nat.zero_add,List.drop_of_length_le (by omega),List.append_nil]
end
section
variable {V:Int→ByteArray} {j:Int} {F:File}
end
section
variable {g:Geom} {i:Int} {S:Side} {F:File} {X Y:List Int} {r:Nat}
end
section
variable {g:Geom} {node epoch:Int}
end
/-- A file that is open: its side, what it is, the changes that were made. -/
structure BSt where
 S:Side
 F:File
 made:List Int
section
variable {g:Geom} {i:Int} {X Y:List Int} {r:Nat} {t:BSt}
end
section
variable {g:Geom} {i:Int} {X Y:List Int} {r:Nat} {t:BSt}
end
section
variable {V:Int→ByteArray} {j:Int} {F:File}
end
section
variable {g:Geom} {i:Int} {X Y:List Int} {r:Nat} {t:BSt} {first:Int}
end
section
variable {g:Geom} {i:Int} {X Y:List Int} {r:Nat} {t:BSt} {first:Int}
end
section
variable (t:BSt) (g:Geom) (i:Int) (ks:List Int)
end
section
variable (t:BSt) (g:Geom) (i first:Int)
end
section
variable {g:Geom} {i:Int} {X Y:List Int} {r:Nat} {t:BSt}
variable {first:Int}
end
section
variable {g:Geom} {i:Int} {ks:List Int} {f0 f:Nat} {t0 t:BSt} {off a:Nat} {d0 d:List UInt8}
end
section
variable {g:Geom} {i first:Int} {u q:Nat} {t0 t:BSt}
end
