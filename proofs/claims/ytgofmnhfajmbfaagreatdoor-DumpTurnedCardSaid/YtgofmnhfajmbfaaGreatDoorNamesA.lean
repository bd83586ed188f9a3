import Derived.Test.YtgofmnhfajmbfaaGreatDoorPs
import Derived.WalkSpells
import Derived.WalkLawsBesides
import Derived.Test.YtgofmnhfajmbfaaGreatDoorShelf
set_option maxHeartbeats 400000
namespace Go.Proofs.YtgofmnhfajmbfaaGreatDoor
open Go.RowKit
def Texts (w:World) (v:Value) (l:List ByteArray):Prop:=
 ∃(ad:Option Addr) (cap:Nat),v = .slice ad l.length cap∧l.length≤cap∧cap≤maxLen ∧
  (0<l.length→∃b off,ad=some ⟨b,off,none⟩∧b<w.heap.size∧∀j x,l[j]? = some x→w.cell? ⟨b,off+j,none⟩=some (.string x))
theorem Texts.below {w w':World} {v:Value} {l:List ByteArray} (h:Texts w v l) (hb:Below w.heap.size w w'):Texts w' v l:=by
 obtain⟨ad,cap,hv,h1,h2,h3⟩:=h
 refine⟨ad,cap,hv,h1,h2,fun hp=>?_⟩
 obtain⟨b,off,e,hlt,hc⟩:=h3 hp
 have:=hb.size
 exact⟨b,off,e,by omega,fun j x hx=>(hb.cell (p:=⟨b,off+j,none⟩) hlt).trans (hc j x hx)⟩
theorem Texts.void (w:World):Texts w (.slice Option.none 0 0) []:=⟨Option.none,0,rfl,Nat.le_refl _,Nat.zero_le _,fun h=>absurd h (by simp)⟩
def MaxOk (w:World):Prop:=∃m,w.cell? ⟨0,0,Option.none⟩=some (.int .i64 m)
theorem MaxOk.below {w w':World} (h:MaxOk w) (hb:Below w.heap.size w w'):MaxOk w':=
 let ⟨m,hm⟩:=h
 ⟨m,(hb.cell (World.block_lt_of_cell? _ _ hm)).trans hm⟩
theorem q58z {a b:Bool} (h:a=b):Ending.returned (.bool a) = .returned (.bool b):=by rw[h]
theorem at_data (s:ByteArray) (k:Nat) (h:k<s.size):s.data.toList[k]? = some (s[k]'h):=by
 rw[List.getElem?_eq_getElem (by rw[←Lib.size_eq]; exact h)]
 rfl
theorem take_snoc {α:Type} (l:List α) (k:Nat) (x:α) (h:l[k]? = some x):l.take (k+1)=l.take k ++ [x]:=by
 rw[List.take_add_one,h]; rfl
end Go.Proofs.YtgofmnhfajmbfaaGreatDoor
namespace Go.Proofs.YtgofmnhfajmbfaaGreatDoor
open Go.RowKit Txt
theorem nameB_dot {s:ByteArray} (h:(s.toList == [46])=true):nameB s=false:=by
 unfold nameB nameL
 rw[←Lib.toList_data,h]
 simp
theorem nameB_dots {s:ByteArray} (h:(s.toList == [46,46])=true):nameB s=false:=by
 unfold nameB nameL
 rw[←Lib.toList_data,h]
 simp
theorem nameB_short {s:ByteArray} (h:s.size<1):nameB s=false:=by
 unfold nameB nameL
 rw[Lib.size_eq] at h
 rw[decide_eq_false (by omega)]
 simp
theorem nameB_long {s:ByteArray} (h:13<s.size):nameB s=false:=by
 unfold nameB nameL
 rw[Lib.size_eq] at h
 rw[decide_eq_false (p:=s.data.toList.length≤13) (by omega)]
 simp
theorem nameB_slash {s:ByteArray} (h:s.data.toList.contains 47=true):nameB s=false:=by
 unfold nameB nameL
 rw[h]
 simp
theorem nameB_zero {s:ByteArray} (h:s.data.toList.contains 0=true):nameB s=false:=by
 unfold nameB nameL
 rw[h]
 simp
theorem nameB_good {s:ByteArray} (h1:1≤s.size) (h2:s.size≤13) (h3:(s.toList == [46])=false) (h4:(s.toList == [46,46])=false) (h5:s.data.toList.contains 47=false) (h6:s.data.toList.contains 0=false):nameB s=true:=by
 unfold nameB nameL
 rw[Lib.toList_data] at h3 h4
 rw[h3,h4,h5,h6]
 rw[Lib.size_eq] at h1 h2
 rw[decide_eq_true h1,decide_eq_true h2]
 rfl
theorem contains_one (c:UInt8):∀l:List UInt8,Lib.contains l [c]=l.contains c
 | []=>by simp[Lib.contains,Lib.index]
 | b :: r=>by
   have ih:=contains_one c r
   have hge:=Lib.index_ge r [c]
   unfold Lib.contains at ih ⊢
   rw[Lib.index]
   by_cases hb:c=b
   ·subst hb; simp[List.isPrefixOf]
   ·have hp:([c]:List UInt8).isPrefixOf (b :: r)=false:=by simp[List.isPrefixOf,hb]
    rw[hp,List.contains_cons,←ih,beq_eq_false_iff_ne.2 hb,Bool.false_or,decide_eq_decide]
    simp only[Bool.false_eq_true,if_false]
    split
    ·rename_i h
     rw[beq_iff_eq.1 h]
    ·rename_i h
     have:Lib.index r [c]≠-1:=fun e=>h (beq_iff_eq.2 e)
     omega
theorem q63z (s:ByteArray) (c:UInt8) (b:Bool) (h:s.data.toList.contains c=b) (w:World) (hm:MaxOk w) (hs:s.size≤13) :
 Calls Tryz.prog 323 #[.string s,.string ⟨#[c]⟩] w fun e w'=>e = .returned (.bool b)∧w=w':=by
 obtain⟨m,hm⟩:=hm
 refine(Tryz.strings_Contains s ⟨#[c]⟩ m w (by omega) hm).mono ?_
 rintro e w' ⟨rfl,rfl⟩
 exact⟨q58z ((contains_one c _).trans h),rfl⟩
theorem name_any (s:ByteArray) (w:World) (hm:MaxOk w) (hs:s.size≤maxLen) :
 Calls Tryz.prog 312 #[.string s] w fun e w'=>e = .returned (.bool (nameB s))∧w=w':=by
 unfold maxLen at hs
 by_cases h1:s.size<1
 ·have H:=zh (nameB_short h1)
  have h0:s.toList.isEmpty=true:=by
   rw[Lib.toList_data,List.isEmpty_iff]
   exact List.length_eq_zero_iff.1 (by rw[←Lib.size_eq]; omega)
  go_enter Tryz.func312,Tryz.ntmps312
  go_wp2
  go_ret
  exact⟨q58z H.out.symm,rfl⟩
 have h0:s.toList.isEmpty=false:=by
  rw[Lib.toList_data,List.isEmpty_eq_false_iff]
  intro e
  rw[Lib.size_eq,e] at h1
  exact h1 (by simp)
 by_cases h2:13<s.size
 ·have H:=zh (nameB_long h2)
  go_enter Tryz.func312,Tryz.ntmps312
  go_wp2
  go_ret
  exact⟨q58z H.out.symm,rfl⟩
 have h2':s.size≤13:=by omega
 cases h3:(s.toList == [46]) with
 | true=>
   have H:=zh (nameB_dot h3)
   go_enter Tryz.func312,Tryz.ntmps312
   go_wp2
   go_ret
   exact⟨q58z H.out.symm,rfl⟩
 | false=>
 cases h4:(s.toList == [46,46]) with
 | true=>
   have H:=zh (nameB_dots h4)
   go_enter Tryz.func312,Tryz.ntmps312
   go_wp2
   go_ret
   exact⟨q58z H.out.symm,rfl⟩
 | false=>
 cases h5:s.data.toList.contains 47 with
 | true=>
   have H:=zh (nameB_slash h5)
   have H5:=zh h5
   clear h5
   go_enter Tryz.func312,Tryz.ntmps312
   go_wp2_with (go_at_call 323; refine(q63z _ 47 true H5.out _ hm h2').mono ?_; rintro e w' ⟨rfl,rfl⟩)
   go_ret
   exact⟨q58z H.out.symm,rfl⟩
 | false=>
 cases h6:s.data.toList.contains 0 with
 | true=>
   have H:=zh (nameB_zero h6)
   have H5:=zh h5
   have H6:=zh h6
   clear h5 h6
   go_enter Tryz.func312,Tryz.ntmps312
   go_wp2_with fail
   refine(q63z _ 47 false H5.out _ hm h2').mono ?_
   rintro e w' ⟨rfl,rfl⟩
   go_wp2_with fail
   refine(q63z _ 0 true H6.out _ hm h2').mono ?_
   rintro e w' ⟨rfl,rfl⟩
   go_wp2
   go_ret
   exact⟨q58z H.out.symm,rfl⟩
 | false=>
   have H:=zh (nameB_good (s:=s) (by omega) h2' h3 h4 h5 h6)
   have H5:=zh h5
   have H6:=zh h6
   clear h5 h6
   go_enter Tryz.func312,Tryz.ntmps312
   go_wp2_with fail
   refine(q63z _ 47 false H5.out _ hm h2').mono ?_
   rintro e w' ⟨rfl,rfl⟩
   go_wp2_with fail
   refine(q63z _ 0 false H6.out _ hm h2').mono ?_
   rintro e w' ⟨rfl,rfl⟩
   go_wp2
   go_ret
   exact⟨q58z H.out.symm,rfl⟩
theorem text_eq (x y:ByteArray):(x.toList == y.toList)=decide (x=y):=by
 rw[Bool.eq_iff_iff,beq_iff_eq,decide_eq_true_iff,Lib.toList_data,Lib.toList_data]
 exact⟨fun h=>Txt.ext h,fun h=>by rw[h]⟩
theorem sameTexts_draws (v u:Value) (l m:List ByteArray) (w:World) (ht:Texts w v l) (hu:Texts w u m) :
 Calls Tryz.prog 9 #[v,u] w fun e w'=>e = .returned (.bool (decide (l=m)))∧∃q,w' = w.drewN q:=by
 obtain⟨ad,cap,rfl,h1,h2,h3⟩:=ht
 obtain⟨ae,cae,rfl,g1,g2,g3⟩:=hu
 obtain⟨n,hn⟩:∃n,n=l.length:=⟨_,rfl⟩
 obtain⟨n2,hn2⟩:∃n,n=m.length:=⟨_,rfl⟩
 have hmax:n≤9223372036854775807:=by unfold maxLen at h2; omega
 have hmax2:n2≤9223372036854775807:=by unfold maxLen at g2; omega
 have HN:=zh hn
 have HN2:=zh hn2
 have H3:=zh h3
 have G3:=zh g3
 rw[←hn,←hn2]
 clear hn h1 h2 h3 hn2 g1 g2 g3
 by_cases hne:n=n2
 ·subst hne
  go_enter Tryz.func9,Tryz.ntmps9
  go_wp2
  go_loopw [5] (fun i wr=>∃k:Nat,k≤n∧i = .int .i64 k∧l.take k=m.take k∧∃q,wr=w.drewN q) (fun i _=>n-(intOf i).toNat)
  case atStart=>exact⟨0,Nat.zero_le _,rfl,rfl,0,rfl⟩
  case round=>
   obtain⟨k,hk,rfl,hall,q0,rfl⟩:=hrel
   have HA:=zh hall
   clear hall
   by_cases hlt:k<n
   ·obtain⟨b,off,rfl,hb,hc⟩:=H3.out (by have:=HN.out; omega)
    obtain⟨c,offc,rfl,hbc,hcc⟩:=G3.out (by have:=HN2.out; omega)
    obtain⟨s,hs⟩:∃s,l[k]? = some s:=⟨l[k]'(by have:=HN.out; omega),by simp⟩
    obtain⟨t,hst⟩:∃s,m[k]? = some s:=⟨m[k]'(by have:=HN2.out; omega),by simp⟩
    have hcell:=hc k s hs
    have hcellt:=hcc k t hst
    have HS:=zh hs
    have HT:=zh hst
    have q:=text_eq s t
    clear hc hs H3 hcc hst G3
    by_cases hq:s=t
    ·have q':(s.toList == t.toList)=true:=q.trans (decide_eq_true hq)
     have HQ:=zh hq
     clear q hq
     go_wp2
     go_quiet (fail)
     go_wp2
     go_roundw
     case rel=>exact⟨k+1,by omega,by go_num,by rw[take_snoc l k s HS.out,take_snoc m k t HT.out,HA.out,HQ.out],_,rfl⟩
     case measure=>simp[intOf]; omega
    ·have q':(s.toList == t.toList)=false:=q.trans (decide_eq_false hq)
     have HQ:=zh hq
     clear q hq
     go_wp2
     go_quiet (fail)
     go_wp2
     go_ret
     refine⟨q58z (decide_eq_false ?_).symm,_,World.drewN_drewN _ _ _⟩
     intro e
     have h1:=HS.out
     have h2:=HT.out
     rw[e,h2] at h1
     exact HQ.out (Option.some.inj h1).symm
   ·have he:l=m:=by
     have:=HA.out
     rw[List.take_of_length_le (by have:=HN.out; omega),List.take_of_length_le (by have:=HN2.out; omega)] at this
     exact this
    have HE:=zh he
    clear he
    go_wp2
    go_ret
    exact⟨q58z (decide_eq_true HE.out).symm,_,rfl⟩
 ·have q:((n:Int) == (n2:Int))=false:=beq_eq_false_iff_ne.2 (by omega)
  have H:=zh hne
  clear hne
  go_enter Tryz.func9,Tryz.ntmps9
  go_wp2
  go_ret
  refine⟨q58z (decide_eq_false ?_).symm,0,rfl⟩
  intro e
  exact H.out (by rw[HN.out,HN2.out,e])
theorem sameTexts_any (v u:Value) (l m:List ByteArray) (w:World) (ht:Texts w v l) (hu:Texts w u m) :
 Calls Tryz.prog 9 #[v,u] w fun e w'=>e = .returned (.bool (decide (l=m)))∧Below w.heap.size w w':=
 (sameTexts_draws v u l m w ht hu).mono fun _ _ ⟨he,q,hw⟩=>⟨he,hw ▸ below_drewN (Below.refl _ _) q⟩
theorem sameTexts_yes (v u:Value) (l:List ByteArray) (w:World) (ht:Texts w v l) (hu:Texts w u l) :
 Calls Tryz.prog 9 #[v,u] w fun e w'=>e = .returned (.bool true)∧Below w.heap.size w w':=by
 refine(sameTexts_any v u l l w ht hu).mono ?_
 rintro e w' ⟨rfl,hb⟩
 exact⟨q58z (decide_eq_true rfl),hb⟩
theorem Texts.own {w:World} {base:Nat} {e:TypeId} {v:Value} {l:List ByteArray} (h:w.ownsRow base e 1 v l.length (l.map Value.string)):Texts w v l:=by
 rcases h.2 with ⟨rfl,h0⟩ | ⟨g,cap,cur,rfl,hb,hh,hle,hm,hsz,hcur⟩
 ·rw[List.length_eq_zero_iff.1 h0]
  exact Texts.void w
 ·refine⟨_,cap,rfl,hle,hm,fun hp=>⟨g,0,rfl,?_,fun j x hx=>?_⟩⟩
  ·exact(Array.getElem?_eq_some_iff.1 hh).1
  ·rw[Nat.zero_add,h.cellAt j (by have:=(List.getElem?_eq_some_iff.1 hx).1; omega),List.getElem?_map,hx]
   rfl
theorem Tryz.infoText:(Tryz.prog.info? 9).map (fun i=>(i.zero,i.size,i.bytes))=some (some (.string ByteArray.empty),1,16):=by kernel_rfl
end Go.Proofs.YtgofmnhfajmbfaaGreatDoor
namespace Go.Proofs.YtgofmnhfajmbfaaGreatDoor
open Go Go.RowKit
def q19z (n:Nat) (w:World) (v:Value) (l:List ByteArray):Prop:=∃e,w.ownsRow n e 1 v l.length (l.map Value.string)
theorem q19z.void (n:Nat) (w:World):q19z n w (.slice none 0 0) []:=⟨0,rfl,Or.inl ⟨rfl,rfl⟩⟩
theorem q19z.texts {n:Nat} {w:World} {v:Value} {l:List ByteArray} (h:q19z n w v l):Texts w v l:=let ⟨_,h⟩:=h; Texts.own h
theorem q19z.mono {n m:Nat} {w:World} {v:Value} {l:List ByteArray} (h:q19z n w v l) (hm:m≤n):q19z m w v l:=by
 obtain⟨e,h1,h2⟩:=h
 refine⟨e,h1,h2.imp_right ?_⟩
 rintro⟨g,cap,cur,hv,hb,h3⟩
 exact⟨g,cap,cur,hv,by omega,h3⟩
end Go.Proofs.YtgofmnhfajmbfaaGreatDoor
namespace Go.Proofs.YtgofmnhfajmbfaaGreatDoor
open Go.RowKit Txt
