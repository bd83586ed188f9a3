/-
  Layer 17 in memory: a directory that is open.
-/
import Derived.Test.YtaphcmcimoloiaaGreatDoorSpDirAsk
import Derived.Test.YtaphcmcimoloiaaGreatDoorBmE
import Derived.Test.YtaphcmcimoloiaaGreatDoorEntryDec
import Derived.Test.YtaphcmcimoloiaaGreatDoorHeldIn
namespace Go.Proofs.YtaphcmcimoloiaaGreatDoor
open Go Go.RowKit Txt Sp

def slotC (s : ByteArray) : List Value := [.int .i64 (slotOf s 0).inode, .string (slotOf s 0).name, .int .i64 (slotOf s 1).inode, .string (slotOf s 1).name, .int .i64 (slotOf s 2).inode, .string (slotOf s 2).name, .int .i64 (slotOf s 3).inode, .string (slotOf s 3).name]
def dirV (n : Sp.Inode) (vs us : Value) : Array Value := #[.int .i64 n.kind, .int .i64 n.links, .int .i64 n.size, .int .i64 n.parent, .int .i64 n.gen, .int .i64 (n.direct.getD 0 0), .int .i64 (n.direct.getD 1 0), .int .i64 (n.direct.getD 2 0), .int .i64 (n.direct.getD 3 0), .int .i64 (n.direct.getD 4 0), .int .i64 (n.direct.getD 5 0), .int .i64 (n.direct.getD 6 0), .int .i64 (n.direct.getD 7 0), .int .i64 n.more, vs, us]
def dirO (n : Sp.Inode) (vs us : Value) : Obj := .cells (dirV n vs us) 281 (0, 0)
def DirAt (w : World) (base B : Nat) (n : Sp.Inode) (V : Int → ByteArray) (bl : List Int) : Prop :=
  base ≤ B ∧ ∃ vs us, w.heap[B]? = some (dirO n vs us) ∧ OwnR 3 1 intC base w vs bl ∧ OwnR 282 8 slotC base w us (bl.map V)
def DirTo (w0 w : World) (B : Nat) (n : Sp.Inode) (V : Int → ByteArray) (bl : List Int) : Prop :=
  Below B w0 w ∧ ∃ vs us, w.heap[B]? = some (dirO n vs us) ∧ OwnR 3 1 intC (B + 1) w vs bl ∧ OwnR 282 8 slotC (B + 1) w us (bl.map V)
theorem infoE4 : (Tryz.prog.info? 282).map (fun i => (i.zero, i.size, i.bytes)) = some (some (.agg #[.int .i64 0, .string ⟨#[]⟩, .int .i64 0, .string ⟨#[]⟩, .int .i64 0, .string ⟨#[]⟩, .int .i64 0, .string ⟨#[]⟩]), 8, 96) := by kernel_rfl
section
variable {w w0 w1 w' : World} {base B : Nat} {n : Sp.Inode} {V : Int → ByteArray} {bl : List Int}
theorem DirAt.below (h : DirAt w base B n V bl) (hb : Below w.heap.size w w') : DirAt w' base B n V bl := by
  obtain ⟨h0, vs, us, h1, h2, h3⟩ := h
  exact ⟨h0, vs, us, heapOld hb h1, h2.below hb, h3.below hb⟩
theorem DirTo.below (h : DirTo w0 w B n V bl) (hb : Below w.heap.size w w') : DirTo w0 w' B n V bl := by
  obtain ⟨h0, vs, us, h1, h2, h3⟩ := h
  have hlt := (Array.getElem?_eq_some_iff.1 h1).1
  exact ⟨h0.trans (hb.mono (by omega)), vs, us, heapOld hb h1, h2.below hb, h3.below hb⟩
theorem DirTo.at (h : DirTo w0 w B n V bl) (hb : base ≤ B) : DirAt w base B n V bl := by
  obtain ⟨_, vs, us, h1, h2, h3⟩ := h
  exact ⟨hb, vs, us, h1, h2.mono (by omega), h3.mono (by omega)⟩
/-- While a sector is laid behind the others: what stands in the world so far. -/
structure RegW (w0 W : World) (B X : Nat) (n : Sp.Inode) (vs us : Value) (V : Int → ByteArray) (bl : List Int) (cs : Array Value) : Prop where
  below : Below B w0 W
  box : W.heap[B]? = some (dirO n vs us)
  slots : OwnR 282 8 slotC (B + 1) W us (bl.map V)
  ex : W.heap[X]? = some (.cells cs 282 (0, 0))
  apart : us.ownBlock ≠ some X
section
variable {W W' : World} {X : Nat} {vs us v : Value} {cs : Array Value} {l : List Int}
theorem RegW.later (h : RegW w0 W B X n vs us V bl cs) (hb : Below W.heap.size W W') : RegW w0 W' B X n vs us V bl cs :=
  ⟨h.below.trans (hb.mono (by have := (Array.getElem?_eq_some_iff.1 h.box).1; omega)), heapOld hb h.box, h.slots.below hb, heapOld hb h.ex, h.apart⟩
theorem int_block {b k : Nat} (h : OwnR 3 1 intC b W v l) (hk : v.ownBlock = some k) : ∃ cs, W.heap[k]? = some (.cells cs 3 (0, 0)) := by
  obtain ⟨_, ⟨rfl, _⟩ | ⟨g, cap, cur, rfl, _, hh, _⟩⟩ := h
  · cases hk
  · cases hk
    exact ⟨_, hh⟩
theorem e4_block {b k : Nat} {ss : List ByteArray} (h : OwnR 282 8 slotC b W v ss) (hk : v.ownBlock = some k) : ∃ cs, W.heap[k]? = some (.cells cs 282 (0, 0)) := by
  obtain ⟨_, ⟨rfl, _⟩ | ⟨g, cap, cur, rfl, _, hh, _⟩⟩ := h
  · cases hk
  · cases hk
    exact ⟨_, hh⟩
theorem RegW.grownI (h : RegW w0 W B X n vs us V bl cs) (hv : OwnR 3 1 intC (B + 1) W v l) (hg : W.grownBy W' v.ownBlock) : RegW w0 W' B X n vs us V bl cs := by
  have hT : Turn (fun j => v.ownBlock = some j) W W' := ⟨hg.os, hg.tape, hg.output, hg.size, fun k hk hne => hg.block k hk (fun e => hne e.symm)⟩
  have hne : ∀ (k : Nat) (cs : Array Value) (e : TypeId), e ≠ 3 → W.heap[k]? = some (.cells cs e (0, 0)) → ¬ v.ownBlock = some k := fun k cs e he hk ho => by
    obtain ⟨cs', hc⟩ := int_block hv ho
    rw [hk] at hc
    cases hc
    exact he rfl
  refine ⟨h.below.grown hg (by have := (Array.getElem?_eq_some_iff.1 h.box).1; omega) (fun k hk => by have := (hv.lt k hk).1; omega), hT.heap h.box (hne B _ _ (by decide) h.box), h.slots.turn hT (fun k hk ho => ?_), hT.heap h.ex (hne X _ _ (by decide) h.ex), h.apart⟩
  obtain ⟨cs', hc⟩ := e4_block h.slots hk
  exact hne k _ _ (by decide) hc ho
theorem rowI_stays (hv : OwnR 3 1 intC (B + 1) W v l) {ss : List ByteArray} (hu : OwnR 282 8 slotC (B + 1) W us ss) (hg : W.grownBy W' us.ownBlock) : OwnR 3 1 intC (B + 1) W' v l := by
  have hT : Turn (fun j => us.ownBlock = some j) W W' := ⟨hg.os, hg.tape, hg.output, hg.size, fun k hk hne => hg.block k hk (fun e => hne e.symm)⟩
  refine hv.turn hT (fun k hk ho => ?_)
  obtain ⟨cs1, h1⟩ := int_block hv hk
  obtain ⟨cs2, h2⟩ := e4_block hu ho
  rw [h1] at h2
  cases h2
theorem RegW.grownE (h : RegW w0 W B X n vs us V bl cs) (hg : W.grownBy W' us.ownBlock) : Below B w0 W' ∧ W'.heap[B]? = some (dirO n vs us) ∧ W'.heap[X]? = some (.cells cs 282 (0, 0)) := by
  refine ⟨h.below.grown hg (by have := (Array.getElem?_eq_some_iff.1 h.box).1; omega) (fun k hk => by have := (h.slots.lt k hk).1; omega), ?_⟩
  have hT : Turn (fun j => us.ownBlock = some j) W W' := ⟨hg.os, hg.tape, hg.output, hg.size, fun k hk hne => hg.block k hk (fun e => hne e.symm)⟩
  refine ⟨hT.heap h.box (fun ho => ?_), hT.heap h.ex h.apart⟩
  obtain ⟨cs', hc⟩ := e4_block h.slots ho
  rw [h.box] at hc
  cases hc
theorem heapGI {k : Nat} {cs : Array Value} {e : TypeId} (hv : OwnR 3 1 intC (B + 1) W v l) (hg : W.grownBy W' v.ownBlock) (hk : W.heap[k]? = some (.cells cs e (0, 0))) (he : e ≠ 3) : W'.heap[k]? = some (.cells cs e (0, 0)) := by
  refine (hg.block k (Array.getElem?_eq_some_iff.1 hk).1 (fun ho => ?_)).trans hk
  obtain ⟨cs', hc⟩ := int_block hv ho.symm
  rw [hk] at hc
  cases hc
  exact he rfl
theorem DirTo.stored {v' u' : Value} (hb : Below B w0 W) (hz : W.heap[B]? = some (dirO n vs us)) (hv : OwnR 3 1 intC (B + 1) W v' l) (hu : OwnR 282 8 slotC (B + 1) W u' (l.map V)) :
    DirTo w0 ((W.setCell ⟨B, 14, none⟩ v').setCell ⟨B, 15, none⟩ u') B n V l := by
  have hT : Turn (fun j => j = B) W ((W.setCell ⟨B, 14, none⟩ v').setCell ⟨B, 15, none⟩ u') := (setCell_turn (w := W) (b := B)).trans setCell_turn (fun _ _ h => h) (fun _ _ h => h)
  refine ⟨(hb.setCell (p := ⟨B, 14, none⟩) (Nat.le_refl _) _).setCell (p := ⟨B, 15, none⟩) (Nat.le_refl _) _, v', u', ?_, hv.turn hT (fun k hk e => by have := (hv.lt k hk).1; omega), hu.turn hT (fun k hk e => by have := (hu.lt k hk).1; omega)⟩
  have h1 := setHeap_at (k := 14) hz v'
  have h2 := setHeap_at (k := 15) h1 u'
  exact h2
end
end
end Go.Proofs.YtaphcmcimoloiaaGreatDoor
