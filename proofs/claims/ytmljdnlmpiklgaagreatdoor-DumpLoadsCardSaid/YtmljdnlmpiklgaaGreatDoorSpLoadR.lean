import Derived.Test.YtmljdnlmpiklgaaGreatDoorSpLoadS
namespace Go.Proofs.YtmljdnlmpiklgaaGreatDoor.Sp
open Go Txt
def preL (acc:List ByteArray):Option (List ByteArray)×Nat→Option (List ByteArray)×Nat
 | (some l,c)=>(some (acc ++ l),c)
 | (none,c)=>(none,c)
theorem preL_nil (x:Option (List ByteArray)×Nat):preL [] x=x:=by
 obtain⟨o,c⟩:=x
 cases o <;> rfl
theorem preL_snoc (acc:List ByteArray) (s:ByteArray) (x:Option (List ByteArray)×Nat):preL acc (preL [s] x)=preL (acc ++ [s]) x:=by
 obtain⟨o,c⟩:=x
 cases o with
 | none=>rfl
 | some l=>simp[preL]
theorem loadFrom_end {g:Geom} {i:Nat} {t:List UInt8}:q5z g i [t]=if(i:Int)=g.size∧t=[] then(some [],0) else(none,i+1):=by
 rw[q5z]
theorem loadFrom_step {g:Geom} {i:Nat} {t:List UInt8} {r:List (List UInt8)} (hr:r≠[]) (hi:¬g.size≤(i:Int)) {s:ByteArray} (h:lineP g i t=some s):q5z g i (t :: r)=preL [s] (q5z g (i+1) r):=by
 cases r with
 | nil=>exact absurd rfl hr
 | cons x q=>
   rw[q5z,if_neg hi,h]
   ·dsimp only
    cases hq:q5z g (i+1) (x :: q) with
    | mk o c=>cases o <;> rfl
   ·exact fun h=>by cases h
theorem loadFrom_line_no {g:Geom} {i:Nat} {t:List UInt8} {r:List (List UInt8)} (hr:r≠[]) (h:lineP g i t=none):q5z g i (t :: r)=(none,i+1):=by
 cases r with
 | nil=>exact absurd rfl hr
 | cons x q=>
   rw[q5z]
   ·split
    ·rfl
    ·rw[h]
   ·exact fun h=>by cases h
theorem loadFrom_big {g:Geom} {i:Nat} {t:List UInt8} {r:List (List UInt8)} (hr:r≠[]) (hi:g.size≤(i:Int)):q5z g i (t :: r)=(none,i+1):=by
 cases r with
 | nil=>exact absurd rfl hr
 | cons x q=>
   rw[q5z,if_pos hi]
   exact fun h=>by cases h
theorem lineP_none_word {g:Geom} {i:Nat} {t:List UInt8} {ws:List (List UInt8)} (hc:cutAt 32 t=ws) (h:ws.length<2):lineP g i t=none:=by
 unfold lineP
 rw[hc]
 match ws,h with
 | [],_=>rfl
 | [_],_=>rfl
theorem lineP_none_num {g:Geom} {i:Nat} {t w x:List UInt8} {r:List (List UInt8)} (hc:cutAt 32 t=w :: x :: r) (h:¬w=digitsL i):lineP g i t=none:=by
 unfold lineP
 rw[hc]
 exact if_neg h
theorem lineP_none_read {g:Geom} {i:Nat} {t w x:List UInt8} {r:List (List UInt8)} (hc:cutAt 32 t=w :: x :: r) (h:readP g (i:Int) (x :: r)=none):lineP g i t=none:=by
 unfold lineP
 rw[hc]
 dsimp only
 rw[h]
 exact ite_self _
theorem lineP_none_line {g:Geom} {i:Nat} {t w x:List UInt8} {r:List (List UInt8)} (hc:cutAt 32 t=w :: x :: r) {s:ByteArray} (h:readP g (i:Int) (x :: r)=some s) (hl:¬lineL g (i:Int) s=t):lineP g i t=none:=by
 unfold lineP
 rw[hc]
 dsimp only
 rw[h]
 dsimp only
 rw[if_neg hl]
 exact ite_self _
theorem lineP_yes {g:Geom} {i:Nat} {t w x:List UInt8} {r:List (List UInt8)} (hc:cutAt 32 t=w :: x :: r) (hw:w=digitsL i) {s:ByteArray} (h:readP g (i:Int) (x :: r)=some s) (hl:lineL g (i:Int) s=t):lineP g i t=some s:=by
 unfold lineP
 rw[hc]
 dsimp only
 rw[if_pos hw,h]
 dsimp only
 rw[if_pos hl]
theorem loadN_shape {g:Geom} (h:¬g.ok) (t:ByteArray):loadN g t=([],0,4):=if_neg h
theorem loadN_long {g:Geom} (h:g.ok) {t:ByteArray} (h2:1048576<t.size):loadN g t=([],0,2):=by
 unfold loadN
 rw[if_pos h,if_pos h2]
theorem loadN_some {g:Geom} (h:g.ok) {t:ByteArray} (h2:¬1048576<t.size) {l:List ByteArray} {k:Nat} (h3:q5z g 0 (cutAt 10 t.data.toList)=(some l,k)):loadN g t=(l,k,0):=by
 unfold loadN
 rw[if_pos h,if_neg h2,h3]
theorem loadN_none {g:Geom} (h:g.ok) {t:ByteArray} (h2:¬1048576<t.size) {k:Nat} (h3:q5z g 0 (cutAt 10 t.data.toList)=(none,k)):loadN g t=([],k,280):=by
 unfold loadN
 rw[if_pos h,if_neg h2,h3]
