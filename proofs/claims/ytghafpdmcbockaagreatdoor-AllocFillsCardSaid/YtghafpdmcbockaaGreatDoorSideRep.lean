/-
  A disk, changes, a side of a disk: in memory.
-/
import Derived.Test.YtghafpdmcbockaaGreatDoorTurn
import Derived.Test.YtghafpdmcbockaaGreatDoorIntMap
import Derived.Test.YtghafpdmcbockaaGreatDoorOwnRows
import Derived.Test.YtghafpdmcbockaaGreatDoorSpSoft
import Derived.Laws.OwnMore
namespace Go.Proofs.YtghafpdmcbockaaGreatDoor
open Go Go.RowKit Txt Sp

def pt (b : Nat) : Value := .pointer (some ⟨b, 0, none⟩)
def intC (n : Int) : List Value := [.int .i64 n]
def chgC (x : Chg × Value) : List Value := [.int .i64 x.1.num, .int .i64 x.1.at_, .int .i64 x.1.off, .string x.1.bytes, x.2, .int .i64 x.1.state]
def wrV (x : Wr) : Value := .agg #[.int .i64 x.node, .int .i64 x.epoch, .int .i64 x.at_, .string x.s]
def intV (n : Int) : Value := .int .i64 n
def softO (c d : Nat) (node epoch : Int) (fm : Nat) : Obj := .cells #[pt c, pt d, .int .i64 node, .int .i64 epoch, .map (some fm)] 129 (0, 0)
def depsO (v : Value) (last : Nat) : Obj := .cells #[v, .int .i64 (last : Int)] 188 (0, 0)
def diskO (v : Value) (wm : Nat) (last : Nat) : Obj := .cells #[v, .map (some wm), .int .i64 (last : Int)] 143 (0, 0)

section
variable {α : Type} {e : TypeId} {size : Nat} {f : α → List Value} {base : Nat} {w w' : World} {v : Value} {l : List α} {D D' : Nat → Prop}
/-- A row of one's own outlives what turns elsewhere. -/
theorem OwnR.turn (h : OwnR e size f base w v l) (hT : Turn D w w') (hd : ∀ k, v.ownBlock = some k → ¬ D k) : OwnR e size f base w' v l := by
  obtain ⟨h1, h2⟩ := h
  refine ⟨h1, h2.imp_right ?_⟩
  rintro ⟨g, cap, cur, rfl, hg, hh, h3⟩
  exact ⟨g, cap, cur, rfl, hg, hT.heap hh (hd g rfl), h3⟩
theorem OwnR.lt (h : OwnR e size f base w v l) : ∀ k, v.ownBlock = some k → base ≤ k ∧ k < w.heap.size := by
  rintro k hk
  obtain ⟨_, ⟨rfl, _⟩ | ⟨g, cap, cur, rfl, hg, hh, _⟩⟩ := h
  · cases hk
  · cases hk
    exact ⟨hg, (Array.getElem?_eq_some_iff.1 hh).1⟩
end

/-- A disk at the block B; D: what it takes up. -/
structure DiskAt (w : World) (base B : Nat) (d : Sp.Disk) (D : Nat → Prop) : Prop where
  rep : ∃ v wm, w.heap[B]? = some (diskO v wm d.last) ∧ OwnR 9 1 textC base w v d.l ∧ IM.MapAt wrV w wm d.waits ∧ base ≤ wm ∧ D wm ∧ (∀ k, v.ownBlock = some k → D k)
  own : D B
  low : base ≤ B
/-- Changes at the block B. -/
structure DepsAt (w : World) (base B : Nat) (d : Sp.Deps) (D : Nat → Prop) : Prop where
  rep : ∃ v ps, w.heap[B]? = some (depsO v d.last) ∧ ps.map Prod.fst = d.l ∧ OwnR 190 6 chgC base w v ps ∧ (∀ k, v.ownBlock = some k → D k) ∧
    ∀ x ∈ ps, OwnR 3 1 intC base w x.2 x.1.ahead ∧ ∀ k, x.2.ownBlock = some k → D k
  own : D B
  low : base ≤ B
/-- A side at the block B, of the disk at the block Bd. -/
structure SideAt (w : World) (base B Bd : Nat) (S : Sp.Side) (D : Nat → Prop) : Prop where
  rep : ∃ Bc fm, w.heap[B]? = some (softO Bc Bd S.node S.epoch fm) ∧ DepsAt w base Bc S.deps D ∧ IM.MapAt intV w fm S.fly ∧ base ≤ fm ∧ D fm
  disk : DiskAt w base Bd S.disk D
  own : D B
  low : base ≤ B
section
variable {w w' : World} {base B Bd : Nat} {D D' K : Nat → Prop}
theorem DiskAt.turn {d : Sp.Disk} (h : DiskAt w base B d D) (hT : Turn K w w') (hk : ∀ k, D k → ¬ K k) : DiskAt w' base B d D := by
  obtain ⟨⟨v, wm, h1, h2, ⟨o, h3, h3'⟩, h4, h5, h6⟩, ho, hl⟩ := h
  exact ⟨⟨v, wm, hT.heap h1 (hk _ ho), h2.turn hT (fun k hv => hk k (h6 k hv)), ⟨o, hT.heap h3 (hk _ h5), h3'⟩, h4, h5, h6⟩, ho, hl⟩
theorem DepsAt.turn {d : Sp.Deps} (h : DepsAt w base B d D) (hT : Turn K w w') (hk : ∀ k, D k → ¬ K k) : DepsAt w' base B d D := by
  obtain ⟨⟨v, ps, h1, h2, h3, h4, h5⟩, ho, hl⟩ := h
  exact ⟨⟨v, ps, hT.heap h1 (hk _ ho), h2, h3.turn hT (fun k hv => hk k (h4 k hv)), h4, fun x hx => ⟨(h5 x hx).1.turn hT (fun k hv => hk k ((h5 x hx).2 k hv)), (h5 x hx).2⟩⟩, ho, hl⟩
theorem SideAt.turn {S : Sp.Side} (h : SideAt w base B Bd S D) (hT : Turn K w w') (hk : ∀ k, D k → ¬ K k) : SideAt w' base B Bd S D := by
  obtain ⟨⟨Bc, fm, h1, h2, ⟨o, h3, h3'⟩, h4, h5⟩, hd, ho, hl⟩ := h
  exact ⟨⟨Bc, fm, hT.heap h1 (hk _ ho), h2.turn hT hk, ⟨o, hT.heap h3 (hk _ h5), h3'⟩, h4, h5⟩, hd.turn hT hk, ho, hl⟩
theorem DiskAt.below {d : Sp.Disk} (h : DiskAt w base B d D) (hb : Below w.heap.size w w') : DiskAt w' base B d D := h.turn (K := fun _ => False) (Turn.of_below hb) (fun _ _ h => h)
theorem DepsAt.below {d : Sp.Deps} (h : DepsAt w base B d D) (hb : Below w.heap.size w w') : DepsAt w' base B d D := h.turn (K := fun _ => False) (Turn.of_below hb) (fun _ _ h => h)
theorem SideAt.below {S : Sp.Side} (h : SideAt w base B Bd S D) (hb : Below w.heap.size w w') : SideAt w' base B Bd S D := h.turn (K := fun _ => False) (Turn.of_below hb) (fun _ _ h => h)
theorem DiskAt.mono {d : Sp.Disk} (h : DiskAt w base B d D) (hd : ∀ k, D k → D' k) : DiskAt w base B d D' := by
  obtain ⟨⟨v, wm, h1, h2, h3, h4, h5, h6⟩, ho, hl⟩ := h
  exact ⟨⟨v, wm, h1, h2, h3, h4, hd _ h5, fun k hk => hd k (h6 k hk)⟩, hd _ ho, hl⟩
theorem DepsAt.mono {d : Sp.Deps} (h : DepsAt w base B d D) (hd : ∀ k, D k → D' k) : DepsAt w base B d D' := by
  obtain ⟨⟨v, ps, h1, h2, h3, h4, h5⟩, ho, hl⟩ := h
  exact ⟨⟨v, ps, h1, h2, h3, fun k hk => hd k (h4 k hk), fun x hx => ⟨(h5 x hx).1, fun k hk => hd k ((h5 x hx).2 k hk)⟩⟩, hd _ ho, hl⟩
end
end Go.Proofs.YtghafpdmcbockaaGreatDoor
