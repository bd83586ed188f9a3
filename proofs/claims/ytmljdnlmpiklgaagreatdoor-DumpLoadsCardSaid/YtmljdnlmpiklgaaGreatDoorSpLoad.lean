import Derived.Test.YtmljdnlmpiklgaaGreatDoorSpA
import Derived.Lib.Atoi
namespace Go.Proofs.YtmljdnlmpiklgaaGreatDoor.Sp
open Go Txt
def numP (l:List UInt8):Option Nat:=if 12<l.length∨(1<l.length∧l.head? = some 48) then none else Lib.decNat l
def allP {α β:Type} (f:α→Option β):List α→Option (List β)
 | []=>some []
 | x :: r=>match f x,allP f r with
   | some y,some ys=>some (y :: ys)
   | _,_=>none
def numsP:List (List UInt8)→Option (List Nat):=allP numP
def hexV (b:UInt8):Option Nat:=if 48≤b.toNat∧b.toNat≤57 then some (b.toNat-48) else if 97≤b.toNat∧b.toNat≤102 then some (b.toNat-87) else none
def q4z:List UInt8→Option (List UInt8)
 | []=>some []
 | [_]=>none
 | a :: b :: r=>match hexV a,hexV b,q4z r with
   | some x,some y,some l=>some (UInt8.ofNat (16*x+y) :: l)
   | _,_,_=>none
def q13z (w:List UInt8):Option (Int×Int):=match cutAt 46 w with
 | [a,b]=>match numP a,numP b with
   | some x,some y=>some ((x:Int),(y:Int))
   | _,_=>none
 | _=>none
def q8z (g:Geom) (at_:Int) (ws:List (List UInt8)):Option ByteArray:=
 if 0≤(at_-2)*16∧(at_-2)*16<g.regions∧(ws.length:Int)≤min 16 (g.regions-(at_-2)*16) then
  match allP q13z ws with
  | some l=>(tableN g (List.replicate ((at_-2)*16).toNat (0,0) ++ l ++ List.replicate (g.regions-(at_-2)*16-ws.length).toNat (0,0)))[(at_-2).toNat]?
  | none=>none
 else none
def kindP (w:List UInt8):Int:=if w=wFile then 1 else if w=wDir then 2 else 0
def q36z (w:List UInt8) (n:List Nat):Inode:=
 ⟨kindP w,n.getD 0 0,n.getD 3 0,n.getD 1 0,n.getD 2 0,(List.range 8).map (fun i=>((n.getD (4+i) 0:Nat):Int)),n.getD 12 0⟩
def q15z (g:Geom):List (List UInt8)→Option ByteArray
 | []=>none
 | w :: r=>if r.length=13 then match numsP r with
    | some n=>if(q36z w n).check g=0 then some (inodeB (q36z w n)) else none
    | none=>none
   else none
def q10z (w:List UInt8):Option Entry:=if w=[45] then some ⟨0,ofL []⟩ else match cutAt 58 w with
 | [a,b]=>match numP a,q4z b with
   | some n,some t=>if Entry.may ⟨(n:Int),ofL t⟩ then some ⟨(n:Int),ofL t⟩ else none
   | _,_=>none
 | _=>none
def q27z (ws:List (List UInt8)):Option ByteArray:=if ws.length=4 then match allP q10z ws with
 | some l=>some (ofL (l.flatMap slotL))
 | none=>none
 else none
def mapS (n:Int) (l:List Nat):Option ByteArray:=if ofC n (l.map Int.ofNat)=0 then some (ofL (mapB l)) else none
def q17z:List UInt8:=[105,110,111,100,101]
def wRaw3:List UInt8:=[114,97,119]
def readP (g:Geom) (at_:Int):List (List UInt8)→Option ByteArray
 | []=>none
 | w :: r=>
   if w=wBlank then(if r=[] then some blank else none)
   else if w=wLeases then q8z g at_ r
   else if w=q17z then q15z g r
   else if w=wDir then q27z r
   else if w=wSuper then match numsP r with
    | some [a,b,c]=>if Geom.ok ⟨a,b,c⟩ then some (superB ⟨a,b,c⟩) else none
    | _=>none
   else if w=wFence then match numsP r with
    | some [a,b]=>if a<4294967296∧b<4294967296 then some (wallB a b) else none
    | _=>none
   else if w=wInodes then match numsP r with
    | some l=>mapS g.inodes l
    | none=>none
   else if w=wBlocks then match numsP r with
    | some l=>mapS g.blocks l
    | none=>none
   else if w=wRaw3 then match r with
    | [x]=>match q4z x with
      | some l=>if l.length=64 then some (ofL l) else none
      | none=>none
    | _=>none
   else none
def lineP (g:Geom) (i:Nat) (t:List UInt8):Option ByteArray:=match cutAt 32 t with
 | w :: x :: r=>if w=digitsL i then match readP g (i:Int) (x :: r) with
    | some s=>if lineL g (i:Int) s=t then some s else none
    | none=>none
   else none
 | _=>none
def q5z (g:Geom):Nat→List (List UInt8)→Option (List ByteArray)×Nat
 | i,[]=>(none,i)
 | i,[t]=>if(i:Int)=g.size∧t=[] then(some [],0) else(none,i+1)
 | i,t :: r=>if g.size≤(i:Int) then(none,i+1) else match lineP g i t with
   | some s=>match q5z g (i+1) r with
     | (some l,k)=>(some (s :: l),k)
     | (none,k)=>(none,k)
   | none=>(none,i+1)
def loadN (g:Geom) (text:ByteArray):List ByteArray×Nat×Int:=
 if g.ok then if 1048576<text.size then([],0,2) else match q5z g 0 (cutAt 10 text.data.toList) with
  | (some l,k)=>(l,k,0)
  | (none,k)=>([],k,280)
 else([],0,4)
