import Derived.Test.YtmljdnlmpiklgaaGreatDoorTk
import Derived.Test.YtmljdnlmpiklgaaGreatDoorCutAt
import Derived.WalkSpells
import Derived.WalkLawsBesides
import Derived.BigQuiet
import Derived.Test.YtmljdnlmpiklgaaGreatDoorShelf
set_option maxHeartbeats 400000
namespace Go.Proofs.YtmljdnlmpiklgaaGreatDoor
open Go.RowKit
def Texts (w:World) (v:Value) (l:List ByteArray):Prop:=
 ∃(ad:Option Addr) (cap:Nat),v = .slice ad l.length cap∧l.length≤cap∧cap≤maxLen ∧
  (0<l.length→∃b off,ad=some ⟨b,off,none⟩∧b<w.heap.size∧∀j x,l[j]? = some x→w.cell? ⟨b,off+j,none⟩=some (.string x))
theorem Texts.below {w w':World} {v:Value} {l:List ByteArray} (h:Texts w v l) (hb:Below w.heap.size w w'):Texts w' v l:=by
 obtain⟨ad,cap,hv,h1,h2,h3⟩:=h
 refine⟨ad,cap,hv,h1,h2,fun hp=>?_⟩
 obtain⟨b,off,e,hlt,hc⟩:=h3 hp
 have:=hb.size
 exact⟨b,off,e,by omega,fun j x hx=>(hb.cell (p:=⟨b,off+j,none⟩) hlt).trans (hc j x hx)⟩
theorem Texts.void (w:World):Texts w (.slice Option.none 0 0) []:=⟨Option.none,0,rfl,Nat.le_refl _,Nat.zero_le _,fun h=>absurd h (by simp)⟩
def MaxOk (w:World):Prop:=∃m,w.cell? ⟨0,0,Option.none⟩=some (.int .i64 m)
theorem MaxOk.below {w w':World} (h:MaxOk w) (hb:Below w.heap.size w w'):MaxOk w':=
 let ⟨m,hm⟩:=h
 ⟨m,(hb.cell (World.block_lt_of_cell? _ _ hm)).trans hm⟩
theorem ret_bool {a b:Bool} (h:a=b):Ending.returned (.bool a) = .returned (.bool b):=by rw[h]
theorem u8_eq (c:UInt8) (n:Nat) (hn:n<256):((c.toNat:Int) == (n:Int))=decide (c=UInt8.ofNat n):=by
 rw[Bool.eq_iff_iff,beq_iff_eq,decide_eq_true_iff]
 constructor
 ·intro h
  have:c.toNat=n:=by omega
  rw[←this,UInt8.ofNat_toNat]
 ·intro h
  rw[h,UInt8.toNat_ofNat_of_lt' hn]
theorem at_data (s:ByteArray) (k:Nat) (h:k<s.size):s.data.toList[k]? = some (s[k]'h):=by
 rw[List.getElem?_eq_getElem (by rw[←Lib.size_eq]; exact h)]
 rfl
theorem take_snoc {α:Type} (l:List α) (k:Nat) (x:α) (h:l[k]? = some x):l.take (k+1)=l.take k ++ [x]:=by
 rw[List.take_add_one,h]; rfl
end Go.Proofs.YtmljdnlmpiklgaaGreatDoor
namespace Go.Proofs.YtmljdnlmpiklgaaGreatDoor
open Go Go.RowKit
def ptr (b:Nat):Value:=.pointer (some ⟨b,0,none⟩)
def ptrO:Option Nat→Value
 | none=>.pointer none
 | some b=>ptr b
theorem nodup_of_map {α β:Type} (f:α→β):∀{l:List α},(l.map f).Nodup→l.Nodup
 | [],_=>by simp
 | x :: r,h=>by
   rw[List.map_cons,List.nodup_cons] at h
   rw[List.nodup_cons]
   exact⟨fun hm=>h.1 (List.mem_map.2 ⟨x,hm,rfl⟩),nodup_of_map f h.2⟩
def getM (l:List (ByteArray×Nat)) (s:ByteArray):Option Nat:=(l.find? (fun x=>decide (x.1=s))).map (·.2)
def setM (l:List (ByteArray×Nat)) (s:ByteArray) (b:Nat):List (ByteArray×Nat):=if(getM l s).isSome then l.map (fun x=>if x.1=s then(s,b) else x) else l ++ [(s,b)]
def encE (x:ByteArray×Nat):Value×Value:=(.string x.1,ptr x.2)
def IsMap (o:Obj) (l:List (ByteArray×Nat)):Prop:=
 ∃es clock,o = .map es clock∧MapKept.Stamped es clock∧es.toList.map (fun e=>(e.key,e.val))=l.map encE
def MapAt (w:World) (m:Nat) (l:List (ByteArray×Nat)):Prop:=∃o,w.heap[m]? = some o∧IsMap o l
theorem IsMap.new:IsMap (.map #[] 0) []:=⟨#[],0,rfl,MapKept.stamped_empty 0,rfl⟩
section
variable {es:Array MapEntry} {l:List (ByteArray×Nat)}
theorem ents_key (h:es.toList.map (fun e=>(e.key,e.val))=l.map encE):∀x∈es.toList,MapKept.IsKey .string x.key:=by
 intro x hx
 have:(x.key,x.val)∈l.map encE:=by rw[←h]; exact List.mem_map.2 ⟨x,hx,rfl⟩
 obtain⟨y,_,e⟩:=List.mem_map.1 this
 have:=(Prod.mk.inj e).1
 rw[←this]
 trivial
theorem ents_at (h:es.toList.map (fun e=>(e.key,e.val))=l.map encE) {j:Nat} {e:MapEntry} (he:es.toList[j]? = some e):∃x,l[j]? = some x∧e.key = .string x.1∧e.val=ptr x.2:=by
 have h1:(es.toList.map (fun e=>(e.key,e.val)))[j]? = some (e.key,e.val):=by rw[List.getElem?_map,he]; rfl
 rw[h,List.getElem?_map] at h1
 obtain⟨x,hx,e1⟩:=Option.map_eq_some_iff.1 h1
 exact⟨x,hx,(Prod.mk.inj e1).1.symm,(Prod.mk.inj e1).2.symm⟩
theorem ents_keys (h:es.toList.map (fun e=>(e.key,e.val))=l.map encE):es.toList.map (·.key)=l.map (fun x=>Value.string x.1):=by
 have:=congrArg (List.map Prod.fst) h
 rw[List.map_map,List.map_map] at this
 exact this
theorem keys_nodup (h:es.toList.map (fun e=>(e.key,e.val))=l.map encE) {clock:Nat} (hs:MapKept.Stamped es clock):(l.map (·.1)).Nodup:=by
 have h1:=hs.2.2
 rw[ents_keys h] at h1
 have:l.map (fun x=>Value.string x.1)=(l.map (·.1)).map Value.string:=by rw[List.map_map]; rfl
 rw[this] at h1
 exact nodup_of_map _ h1
theorem getM_at (hn:(l.map (·.1)).Nodup) {j:Nat} {x:ByteArray×Nat} (hx:l[j]? = some x):getM l x.1=some x.2:=by
 induction l generalizing j with
 | nil=>simp at hx
 | cons y r ih=>
   rw[List.map_cons,List.nodup_cons] at hn
   unfold getM
   rw[List.find?_cons]
   cases j with
   | zero=>
     simp at hx
     subst hx
     simp
   | succ j=>
     have hxr:r[j]? = some x:=by simpa using hx
     have hne:y.1≠x.1:=fun e=>hn.1 (by rw[e]; exact List.mem_map.2 ⟨x,List.mem_of_getElem? hxr,rfl⟩)
     rw[decide_eq_false hne]
     exact ih hn.2 hxr
theorem getM_none {s:ByteArray} (h:∀x∈l,x.1≠s):getM l s=none:=by
 unfold getM
 rw[List.find?_eq_none.2 (fun x hx=>by simp[h x hx])]
 rfl
end
section
variable {P:Program} {w:World} {T K E:TypeId} {m:Nat} {l:List (ByteArray×Nat)}
theorem list_set_ents {j:Nat} {es:List MapEntry} {l:List (ByteArray×Nat)} (h:es.map (fun e=>(e.key,e.val))=l.map encE) {x:ByteArray×Nat} (hx:l[j]? = some x) (hn:(l.map (·.1)).Nodup) (e':MapEntry) {s:ByteArray} {b:Nat} (hs:s=x.1) (h1:e'.key = .string s) (h2:e'.val=ptr b) :
 (es.set j e').map (fun e=>(e.key,e.val))=(l.map (fun y=>if y.1=s then(s,b) else y)).map encE:=by
 rw[List.map_set,h,h1,h2]
 apply List.ext_getElem?
 intro i
 rw[List.getElem?_set,List.getElem?_map,List.getElem?_map,List.getElem?_map]
 by_cases hij:j=i
 ·subst hij
  have hl:=(List.getElem?_eq_some_iff.1 hx).1
  rw[if_pos rfl,if_pos (by simpa using hl),hx]
  simp[hs,encE]
 ·rw[if_neg hij]
  cases hy:l[i]? with
  | none=>rfl
  | some y=>
    have hne:y.1≠s:=by
     intro e
     have a1:(l.map (·.1))[j]? = some s:=by rw[List.getElem?_map,hx,hs]; rfl
     have a2:(l.map (·.1))[i]? = some s:=by rw[List.getElem?_map,hy,←e]; rfl
     exact hij ((List.getElem?_inj (List.getElem?_eq_some_iff.1 a1).1 hn).1 (a1.trans a2.symm))
    simp[hne]
end
end Go.Proofs.YtmljdnlmpiklgaaGreatDoor
namespace Go.Proofs.YtmljdnlmpiklgaaGreatDoor
open Go.RowKit Txt
theorem nameB_dot {s:ByteArray} (h:(s.toList == [46])=true):nameB s=false:=by
 unfold nameB nameL
 rw[←Lib.toList_data,h]
 simp
theorem nameB_dots {s:ByteArray} (h:(s.toList == [46,46])=true):nameB s=false:=by
 unfold nameB nameL
 rw[←Lib.toList_data,h]
 simp
theorem nameB_short {s:ByteArray} (h:s.size<1):nameB s=false:=by
 unfold nameB nameL
 rw[Lib.size_eq] at h
 rw[decide_eq_false (by omega)]
 simp
theorem nameB_long {s:ByteArray} (h:13<s.size):nameB s=false:=by
 unfold nameB nameL
 rw[Lib.size_eq] at h
 rw[decide_eq_false (p:=s.data.toList.length≤13) (by omega)]
 simp
theorem nameB_slash {s:ByteArray} (h:s.data.toList.contains 47=true):nameB s=false:=by
 unfold nameB nameL
 rw[h]
 simp
theorem nameB_zero {s:ByteArray} (h:s.data.toList.contains 0=true):nameB s=false:=by
 unfold nameB nameL
 rw[h]
 simp
theorem nameB_good {s:ByteArray} (h1:1≤s.size) (h2:s.size≤13) (h3:(s.toList == [46])=false) (h4:(s.toList == [46,46])=false) (h5:s.data.toList.contains 47=false) (h6:s.data.toList.contains 0=false):nameB s=true:=by
 unfold nameB nameL
 rw[Lib.toList_data] at h3 h4
 rw[h3,h4,h5,h6]
 rw[Lib.size_eq] at h1 h2
 rw[decide_eq_true h1,decide_eq_true h2]
 rfl
theorem contains_snoc (l:List UInt8) (k:Nat) (x y:UInt8) (h:l[k]? = some x):(l.take (k+1)).contains y=((l.take k).contains y||decide (y=x)):=by
 rw[take_snoc l k x h]
 simp[List.contains_eq_mem,Bool.decide_or]
theorem contains_of_at {l:List UInt8} {k:Nat} {x:UInt8} (h:l[k]? = some x):l.contains x=true:=by
 rw[List.contains_eq_mem,decide_eq_true_iff]
 exact List.mem_of_getElem? h
theorem refName_any (s:ByteArray) (w:World) (hs:s.size≤maxLen) :
 Calls Tryz.prog 183 #[.string s] w fun e w'=>e = .returned (.bool (nameB s))∧w=w':=by
 unfold maxLen at hs
 by_cases h1:s.size<1
 ·have H:=zh (nameB_short h1)
  go_enter Tryz.func183,Tryz.ntmps183
  go_wp2
  go_ret
  exact⟨ret_bool H.out.symm,rfl⟩
 by_cases h2:13<s.size
 ·have H:=zh (nameB_long h2)
  go_enter Tryz.func183,Tryz.ntmps183
  go_wp2
  go_ret
  exact⟨ret_bool H.out.symm,rfl⟩
 cases h3:(s.toList == [46]) with
 | true=>
   have H:=zh (nameB_dot h3)
   go_enter Tryz.func183,Tryz.ntmps183
   go_wp2
   go_ret
   exact⟨ret_bool H.out.symm,rfl⟩
 | false=>
 cases h4:(s.toList == [46,46]) with
 | true=>
   have H:=zh (nameB_dots h4)
   go_enter Tryz.func183,Tryz.ntmps183
   go_wp2
   go_ret
   exact⟨ret_bool H.out.symm,rfl⟩
 | false=>
 go_enter Tryz.func183,Tryz.ntmps183
 go_wp2
 go_loop [3] (fun i=>∃k:Nat,k≤s.size∧i = .int .i64 k∧(s.data.toList.take k).contains 47=false∧(s.data.toList.take k).contains 0=false) (fun i=>s.size-(intOf i).toNat)
 case atStart=>exact⟨0,Nat.zero_le _,rfl,rfl,rfl⟩
 case round=>
  obtain⟨k,hk,rfl,ha,hb⟩:=hrel
  have HA:=zh ha
  have HB:=zh hb
  clear ha hb
  by_cases hlt:k<s.size
  ·have HX:=zh (at_data s k hlt)
   have e0:=u8_eq (s[k]'hlt) 0 (by decide)
   have e47:=u8_eq (s[k]'hlt) 47 (by decide)
   by_cases c0:(s[k]'hlt)=0
   ·have H:=zh (nameB_zero (s:=s) (by have:=contains_of_at HX.out; rw[c0] at this; exact this))
    have e0':(((s[k]'hlt).toNat:Int) == 0)=true:=by rw[c0]; rfl
    clear e0 e47 c0
    go_wp2
    go_ret
    exact⟨ret_bool H.out.symm,rfl⟩
   by_cases c47:(s[k]'hlt)=47
   ·have H:=zh (nameB_slash (s:=s) (by have:=contains_of_at HX.out; rw[c47] at this; exact this))
    have e0':(((s[k]'hlt).toNat:Int) == 0)=false:=by rw[c47]; rfl
    have e47':(((s[k]'hlt).toNat:Int) == 47)=true:=by rw[c47]; rfl
    clear e0 e47 c0 c47
    go_wp2
    go_ret
    exact⟨ret_bool H.out.symm,rfl⟩
   ·have e0':(((s[k]'hlt).toNat:Int) == 0)=false:=e0.trans (decide_eq_false c0)
    have e47':(((s[k]'hlt).toNat:Int) == 47)=false:=e47.trans (decide_eq_false c47)
    have C0:=zh c0
    have C47:=zh c47
    clear e0 e47 c0 c47
    go_wp2
    go_round
    case rel=>exact⟨k+1,by omega,by go_num,by rw[contains_snoc _ _ _ _ HX.out,HA.out]; simp[Ne.symm C47.out],by rw[contains_snoc _ _ _ _ HX.out,HB.out]; simp[Ne.symm C0.out]⟩
    case measure=>simp[intOf]; omega
  ·have he:s.data.toList.take k=s.data.toList:=List.take_of_length_le (by rw[←Lib.size_eq]; omega)
   have H:=zh (nameB_good (s:=s) (by omega) (by omega) h3 h4 (by have:=HA.out; rw[he] at this; exact this) (by have:=HB.out; rw[he] at this; exact this))
   clear he
   go_wp2
   go_ret
   exact⟨ret_bool H.out.symm,rfl⟩
theorem contains_one (c:UInt8):∀l:List UInt8,Lib.contains l [c]=l.contains c
 | []=>by simp[Lib.contains,Lib.index]
 | b :: r=>by
   have ih:=contains_one c r
   have hge:=Lib.index_ge r [c]
   unfold Lib.contains at ih ⊢
   rw[Lib.index]
   by_cases hb:c=b
   ·subst hb; simp[List.isPrefixOf]
   ·have hp:([c]:List UInt8).isPrefixOf (b :: r)=false:=by simp[List.isPrefixOf,hb]
    rw[hp,List.contains_cons,←ih,beq_eq_false_iff_ne.2 hb,Bool.false_or,decide_eq_decide]
    simp only[Bool.false_eq_true,if_false]
    split
    ·rename_i h
     rw[beq_iff_eq.1 h]
    ·rename_i h
     have:Lib.index r [c]≠-1:=fun e=>h (beq_iff_eq.2 e)
     omega
theorem containsByte_any (s:ByteArray) (c:UInt8) (b:Bool) (h:s.data.toList.contains c=b) (w:World) (hm:MaxOk w) (hs:s.size≤13) :
 Calls Tryz.prog 202 #[.string s,.string ⟨#[c]⟩] w fun e w'=>e = .returned (.bool b)∧w=w':=by
 obtain⟨m,hm⟩:=hm
 refine(Tryz.strings_Contains s ⟨#[c]⟩ m w (by omega) hm).mono ?_
 rintro e w' ⟨rfl,rfl⟩
 exact⟨ret_bool ((contains_one c _).trans h),rfl⟩
theorem name_any (s:ByteArray) (w:World) (hm:MaxOk w) (hs:s.size≤maxLen) :
 Calls Tryz.prog 176 #[.string s] w fun e w'=>e = .returned (.bool (nameB s))∧w=w':=by
 unfold maxLen at hs
 by_cases h1:s.size<1
 ·have H:=zh (nameB_short h1)
  have h0:s.toList.isEmpty=true:=by
   rw[Lib.toList_data,List.isEmpty_iff]
   exact List.length_eq_zero_iff.1 (by rw[←Lib.size_eq]; omega)
  go_enter Tryz.func176,Tryz.ntmps176
  go_wp2
  go_ret
  exact⟨ret_bool H.out.symm,rfl⟩
 have h0:s.toList.isEmpty=false:=by
  rw[Lib.toList_data,List.isEmpty_eq_false_iff]
  intro e
  rw[Lib.size_eq,e] at h1
  exact h1 (by simp)
 by_cases h2:13<s.size
 ·have H:=zh (nameB_long h2)
  go_enter Tryz.func176,Tryz.ntmps176
  go_wp2
  go_ret
  exact⟨ret_bool H.out.symm,rfl⟩
 have h2':s.size≤13:=by omega
 cases h3:(s.toList == [46]) with
 | true=>
   have H:=zh (nameB_dot h3)
   go_enter Tryz.func176,Tryz.ntmps176
   go_wp2
   go_ret
   exact⟨ret_bool H.out.symm,rfl⟩
 | false=>
 cases h4:(s.toList == [46,46]) with
 | true=>
   have H:=zh (nameB_dots h4)
   go_enter Tryz.func176,Tryz.ntmps176
   go_wp2
   go_ret
   exact⟨ret_bool H.out.symm,rfl⟩
 | false=>
 cases h5:s.data.toList.contains 47 with
 | true=>
   have H:=zh (nameB_slash h5)
   have H5:=zh h5
   clear h5
   go_enter Tryz.func176,Tryz.ntmps176
   go_wp2_with (go_at_call 202; refine(containsByte_any _ 47 true H5.out _ hm h2').mono ?_; rintro e w' ⟨rfl,rfl⟩)
   go_ret
   exact⟨ret_bool H.out.symm,rfl⟩
 | false=>
 cases h6:s.data.toList.contains 0 with
 | true=>
   have H:=zh (nameB_zero h6)
   have H5:=zh h5
   have H6:=zh h6
   clear h5 h6
   go_enter Tryz.func176,Tryz.ntmps176
   go_wp2_with fail
   refine(containsByte_any _ 47 false H5.out _ hm h2').mono ?_
   rintro e w' ⟨rfl,rfl⟩
   go_wp2_with fail
   refine(containsByte_any _ 0 true H6.out _ hm h2').mono ?_
   rintro e w' ⟨rfl,rfl⟩
   go_wp2
   go_ret
   exact⟨ret_bool H.out.symm,rfl⟩
 | false=>
   have H:=zh (nameB_good (s:=s) (by omega) h2' h3 h4 h5 h6)
   have H5:=zh h5
   have H6:=zh h6
   clear h5 h6
   go_enter Tryz.func176,Tryz.ntmps176
   go_wp2_with fail
   refine(containsByte_any _ 47 false H5.out _ hm h2').mono ?_
   rintro e w' ⟨rfl,rfl⟩
   go_wp2_with fail
   refine(containsByte_any _ 0 false H6.out _ hm h2').mono ?_
   rintro e w' ⟨rfl,rfl⟩
   go_wp2
   go_ret
   exact⟨ret_bool H.out.symm,rfl⟩
theorem text_eq (x y:ByteArray):(x.toList == y.toList)=decide (x=y):=by
 rw[Bool.eq_iff_iff,beq_iff_eq,decide_eq_true_iff,Lib.toList_data,Lib.toList_data]
 exact⟨fun h=>Txt.ext h,fun h=>by rw[h]⟩
theorem sameTexts_draws (v u:Value) (l m:List ByteArray) (w:World) (ht:Texts w v l) (hu:Texts w u m) :
 Calls Tryz.prog 9 #[v,u] w fun e w'=>e = .returned (.bool (decide (l=m)))∧∃q,w' = w.drewN q:=by
 obtain⟨ad,cap,rfl,h1,h2,h3⟩:=ht
 obtain⟨ae,cae,rfl,g1,g2,g3⟩:=hu
 obtain⟨n,hn⟩:∃n,n=l.length:=⟨_,rfl⟩
 obtain⟨n2,hn2⟩:∃n,n=m.length:=⟨_,rfl⟩
 have hmax:n≤9223372036854775807:=by unfold maxLen at h2; omega
 have hmax2:n2≤9223372036854775807:=by unfold maxLen at g2; omega
 have HN:=zh hn
 have HN2:=zh hn2
 have H3:=zh h3
 have G3:=zh g3
 rw[←hn,←hn2]
 clear hn h1 h2 h3 hn2 g1 g2 g3
 by_cases hne:n=n2
 ·subst hne
  go_enter Tryz.func9,Tryz.ntmps9
  go_wp2
  go_loopw [5] (fun i wr=>∃k:Nat,k≤n∧i = .int .i64 k∧l.take k=m.take k∧∃q,wr=w.drewN q) (fun i _=>n-(intOf i).toNat)
  case atStart=>exact⟨0,Nat.zero_le _,rfl,rfl,0,rfl⟩
  case round=>
   obtain⟨k,hk,rfl,hall,q0,rfl⟩:=hrel
   have HA:=zh hall
   clear hall
   by_cases hlt:k<n
   ·obtain⟨b,off,rfl,hb,hc⟩:=H3.out (by have:=HN.out; omega)
    obtain⟨c,offc,rfl,hbc,hcc⟩:=G3.out (by have:=HN2.out; omega)
    obtain⟨s,hs⟩:∃s,l[k]? = some s:=⟨l[k]'(by have:=HN.out; omega),by simp⟩
    obtain⟨t,hst⟩:∃s,m[k]? = some s:=⟨m[k]'(by have:=HN2.out; omega),by simp⟩
    have hcell:=hc k s hs
    have hcellt:=hcc k t hst
    have HS:=zh hs
    have HT:=zh hst
    have q:=text_eq s t
    clear hc hs H3 hcc hst G3
    by_cases hq:s=t
    ·have q':(s.toList == t.toList)=true:=q.trans (decide_eq_true hq)
     have HQ:=zh hq
     clear q hq
     go_wp2
     go_quiet (fail)
     go_wp2
     go_roundw
     case rel=>exact⟨k+1,by omega,by go_num,by rw[take_snoc l k s HS.out,take_snoc m k t HT.out,HA.out,HQ.out],_,rfl⟩
     case measure=>simp[intOf]; omega
    ·have q':(s.toList == t.toList)=false:=q.trans (decide_eq_false hq)
     have HQ:=zh hq
     clear q hq
     go_wp2
     go_quiet (fail)
     go_wp2
     go_ret
     refine⟨ret_bool (decide_eq_false ?_).symm,_,World.drewN_drewN _ _ _⟩
     intro e
     have h1:=HS.out
     have h2:=HT.out
     rw[e,h2] at h1
     exact HQ.out (Option.some.inj h1).symm
   ·have he:l=m:=by
     have:=HA.out
     rw[List.take_of_length_le (by have:=HN.out; omega),List.take_of_length_le (by have:=HN2.out; omega)] at this
     exact this
    have HE:=zh he
    clear he
    go_wp2
    go_ret
    exact⟨ret_bool (decide_eq_true HE.out).symm,_,rfl⟩
 ·have q:((n:Int) == (n2:Int))=false:=beq_eq_false_iff_ne.2 (by omega)
  have H:=zh hne
  clear hne
  go_enter Tryz.func9,Tryz.ntmps9
  go_wp2
  go_ret
  refine⟨ret_bool (decide_eq_false ?_).symm,0,rfl⟩
  intro e
  exact H.out (by rw[HN.out,HN2.out,e])
theorem sameTexts_any (v u:Value) (l m:List ByteArray) (w:World) (ht:Texts w v l) (hu:Texts w u m) :
 Calls Tryz.prog 9 #[v,u] w fun e w'=>e = .returned (.bool (decide (l=m)))∧Below w.heap.size w w':=
 (sameTexts_draws v u l m w ht hu).mono fun _ _ ⟨he,q,hw⟩=>⟨he,hw ▸ below_drewN (Below.refl _ _) q⟩
theorem sameTexts_yes (v u:Value) (l:List ByteArray) (w:World) (ht:Texts w v l) (hu:Texts w u l) :
 Calls Tryz.prog 9 #[v,u] w fun e w'=>e = .returned (.bool true)∧Below w.heap.size w w':=by
 refine(sameTexts_any v u l l w ht hu).mono ?_
 rintro e w' ⟨rfl,hb⟩
 exact⟨ret_bool (decide_eq_true rfl),hb⟩
theorem Texts.own {w:World} {base:Nat} {e:TypeId} {v:Value} {l:List ByteArray} (h:w.ownsRow base e 1 v l.length (l.map Value.string)):Texts w v l:=by
 rcases h.2 with ⟨rfl,h0⟩ | ⟨g,cap,cur,rfl,hb,hh,hle,hm,hsz,hcur⟩
 ·rw[List.length_eq_zero_iff.1 h0]
  exact Texts.void w
 ·refine⟨_,cap,rfl,hle,hm,fun hp=>⟨g,0,rfl,?_,fun j x hx=>?_⟩⟩
  ·exact(Array.getElem?_eq_some_iff.1 hh).1
  ·rw[Nat.zero_add,h.cellAt j (by have:=(List.getElem?_eq_some_iff.1 hx).1; omega),List.getElem?_map,hx]
   rfl
theorem Tryz.infoText:(Tryz.prog.info? 9).map (fun i=>(i.zero,i.size,i.bytes))=some (some (.string ByteArray.empty),1,16):=by kernel_rfl
end Go.Proofs.YtmljdnlmpiklgaaGreatDoor
namespace Go.Proofs.YtmljdnlmpiklgaaGreatDoor
open Go Go.RowKit
def OwnTexts (n:Nat) (w:World) (v:Value) (l:List ByteArray):Prop:=∃e,w.ownsRow n e 1 v l.length (l.map Value.string)
theorem OwnTexts.void (n:Nat) (w:World):OwnTexts n w (.slice none 0 0) []:=⟨0,rfl,Or.inl ⟨rfl,rfl⟩⟩
theorem OwnTexts.texts {n:Nat} {w:World} {v:Value} {l:List ByteArray} (h:OwnTexts n w v l):Texts w v l:=let ⟨_,h⟩:=h; Texts.own h
end Go.Proofs.YtmljdnlmpiklgaaGreatDoor
namespace Go.Proofs.YtmljdnlmpiklgaaGreatDoor
open Go.RowKit Txt
theorem Texts.laid (w:World) (l:List ByteArray) (t:TypeId) (hl:l.length≤maxLen):Texts (w.alloc (.cells (l.map Value.string).toArray t)) (.slice (some ⟨w.heap.size,0,none⟩) l.length l.length) l:=by
 refine⟨_,_,rfl,Nat.le_refl _,hl,fun hp=>⟨w.heap.size,0,rfl,by simp,fun j x hx=>?_⟩⟩
 rw[Nat.zero_add,World.cell?_alloc_at _ _ _ _ rfl]
 simp[hx]
section
end
section
end
