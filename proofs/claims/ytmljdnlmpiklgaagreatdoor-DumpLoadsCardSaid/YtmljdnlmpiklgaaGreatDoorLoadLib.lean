import Derived.Test.YtmljdnlmpiklgaaGreatDoorSpLoadW
import Derived.Test.YtmljdnlmpiklgaaGreatDoorDumpAA
namespace Go.Proofs.YtmljdnlmpiklgaaGreatDoor
open Go Go.RowKit Txt Sp
def OwnR {α:Type} (e:TypeId) (size:Nat) (f:α→List Value) (base:Nat) (w:World) (v:Value) (l:List α):Prop:=w.ownsRow base e size v l.length (l.flatMap f)
section
variable {α:Type} {e:TypeId} {size:Nat} {f:α→List Value}
theorem OwnR.void (base:Nat) (w:World):OwnR e size f base w (.slice none 0 0) []:=⟨by simp,Or.inl ⟨rfl,rfl⟩⟩
theorem OwnR.below {n:Nat} {w w':World} {v:Value} {l:List α} (h:OwnR e size f n w v l) (hb:Below w.heap.size w w'):OwnR e size f n w' v l:=by
 obtain⟨h1,h2⟩:=h
 refine⟨h1,h2.imp_right ?_⟩
 rintro⟨g,cap,cur,hv,hg,hh,h3⟩
 exact⟨g,cap,cur,hv,hg,heapOld hb hh,h3⟩
theorem OwnR.form {n:Nat} {w:World} {v:Value} {l:List α} (h:OwnR e size f n w v l):∃ad cap,v = .slice ad l.length cap:=by
 obtain⟨_,⟨rfl,h0⟩ | ⟨g,cap,cur,rfl,_⟩⟩:=h
 ·exact⟨none,0,by rw[h0]⟩
 ·exact⟨_,_,rfl⟩
theorem OwnR.mono {n m:Nat} {w:World} {v:Value} {l:List α} (h:OwnR e size f n w v l) (hm:m≤n):OwnR e size f m w v l:=by
 obtain⟨h1,h2⟩:=h
 refine⟨h1,h2.imp_right ?_⟩
 rintro⟨g,cap,cur,hv,hg,h3⟩
 exact⟨g,cap,cur,hv,by omega,h3⟩
theorem OwnR.block {base b:Nat} {w:World} {l:List α} {cs:Array Value} (h:w.heap[b]? = some (.cells cs e (0,0))) (hc:cs.toList=l.flatMap f) (hl:cs.size=l.length*size) (hb:base≤b) (hm:l.length≤maxLen):OwnR e size f base w (.slice (some ⟨b,0,none⟩) l.length l.length) l:=by
 refine⟨by rw[←hc,Array.length_toList,hl],Or.inr ⟨b,l.length,cs,rfl,hb,h,Nat.le_refl _,hm,hl,?_⟩⟩
 rw[←hc,List.take_of_length_le (by rw[Array.length_toList,hl]; exact Nat.le_refl _)]
theorem OwnR.snoc {base:Nat} {w:World} {l:List α} {v:Value} {x:α} {cs:List Value} {n:Nat} (h:w.ownsRow base e size v n (l.flatMap f ++ cs)) (hx:f x=cs) (hn:n=l.length+1):OwnR e size f base w v (l ++ [x]):=by
 subst hn
 unfold OwnR
 rw[List.length_append,List.flatMap_append,List.flatMap_cons,List.flatMap_nil,List.append_nil,hx]
 exact h
theorem OwnR.row {base:Nat} {w:World} {l:List α} {v:Value} (hf:∀x∈l,(f x).length=size) (h:OwnR e size f base w v l):RowAt w v size (l.map f):=
 RowAt.own (base:=base) (e:=e) (fun x hx=>by
  obtain⟨y,hy,rfl⟩:=List.mem_map.1 hx
  exact hf y hy) (by
  rw[List.length_map,List.flatten_eq_flatMap,List.flatMap_map]
  exact h)
end
def hexT:ByteArray:=⟨#[48,49,50,51,52,53,54,55,56,57,97,98,99,100,101,102]⟩
theorem trim_digs (s:ByteArray) (w:World) (hs:s.size≤4000000000) :
 Calls Tryz.prog 131 #[.string s,.string ⟨#[48,49,50,51,52,53,54,55,56,57]⟩] w fun e w'=>e = .returned (.string (ofL (Lib.trimS s.data.toList digs)))∧Below w.heap.size w w':=
 Any.strings_Trim_laid Tryz.lays160 (by kernel_rfl) s ⟨#[48,49,50,51,52,53,54,55,56,57]⟩ w (by omega) (by decide) (ascii_of_all (by decide))
theorem atoi_num (s:ByteArray) (n:Nat) (w:World) (hl:s.size≤12) (h:Lib.atoi s.data.toList=some (n:Int)) :
 Calls Tryz.prog 132 #[.string s] w fun e w'=>e = .returned (.tuple #[.int .i64 (n:Int),.nilIface])∧Below w.heap.size w w':=
 (Tryz.strconv_Atoi s n (by omega) h w).mono fun e w' ⟨h1,t,h2⟩=>⟨h1,by rw[h2]; exact⟨rfl,rfl,rfl,by rw[Lib.bytesWorld_size]; omega,fun k hk=>Lib.bytesWorld_at_old _ _ _ k hk⟩⟩
theorem cutText_any (s:ByteArray) (c:UInt8) (w:World) (hm:MaxOk w) (hs:s.size≤4000000000) :
 Calls Tryz.prog 83 #[.string s,.string ⟨#[c]⟩] w fun e w'=>e = .returned (.tuple #[.string (ofL (Lib.cut s.data.toList [c]).1),.string (ofL (Lib.cut s.data.toList [c]).2.1),.bool (Lib.cut s.data.toList [c]).2.2])∧Below w.heap.size w w':=by
 obtain⟨m,hm⟩:=hm
 exact(Tryz.strings_Cut s ⟨#[c]⟩ m w (by omega) hm).mono fun e w' ⟨h1,n,h2⟩=>⟨h1,by rw[h2]; exact below_drewN (Below.refl _ _) n⟩
def hexI (c:UInt8):Int:=match hexV c with
 | some n=>(n:Int)
 | none=>-1
theorem hexI_some {c:UInt8} {n:Nat} (h:hexV c=some n):hexI c=(n:Int):=by unfold hexI; rw[h]
theorem hexI_none {c:UInt8} (h:hexV c=none):hexI c = -1:=by unfold hexI; rw[h]
theorem indexHex_any (c:UInt8) (w:World) :
 Calls Tryz.prog 89 #[.string hexT,.int .u8 (c.toNat:Int)] w fun e w'=>e = .returned (.int .i64 (hexI c))∧w=w':=by
 refine(Tryz.strings_IndexByte hexT (c.toNat:Int) w).mono fun e w' ⟨h1,h2⟩=>⟨?_,h2.symm⟩
 rw[h1,Int.toNat_natCast]
 have:c.toNat.toUInt8=c:=UInt8.ofNat_toNat
 have h3:Lib.indexByte hexT.data.toList c=hexI c:=hexV_index c
 rw[this,h3]
