/-
  Layer 19, plain: a look at groups but tells; the chapter's example.
-/
import Derived.Test.YtaphcmcimoloiaaGreatDoorSpCheckI
import Derived.Test.YtaphcmcimoloiaaGreatDoorSpC
namespace Go.Proofs.YtaphcmcimoloiaaGreatDoor.Sp
open Go Txt

/-- Nothing but defects has been told. -/
structure Look.Told (t u : Look) : Prop where
  nodes : u.nodes = t.nodes
  inn : u.inn = t.inn
  names : u.names = t.names
  named : u.named = t.named
section
variable {g : Geom} {S : Int → ByteArray} {t u v : Look} {M c : Nat}
theorem Look.Told.refl (t : Look) : t.Told t := ⟨rfl, rfl, rfl, rfl⟩
theorem Look.Told.trans (h : t.Told u) (k : u.Told v) : t.Told v := ⟨k.nodes.trans h.nodes, k.inn.trans h.inn, k.names.trans h.names, k.named.trans h.named⟩
theorem Look.Told.tell (t : Look) (k a : Int) : t.Told (t.tell k a) := ⟨rfl, rfl, rfl, rfl⟩
theorem Look.Told.has (h : t.Told u) (i : Int) : u.has i = t.has i := by unfold Look.has; rw [h.inn]
theorem Look.Told.cnt (h : t.Told u) (i : Int) : u.cnt i = t.cnt i := by unfold Look.cnt; rw [h.named]
theorem Look.Told.free (h : t.Told u) : u.free = t.free := by
  unfold Look.free
  rw [h.nodes, List.filter_congr (fun x _ => by rw [h.has])]
theorem Look.Told.called (h : t.Told u) (i : Int) : u.called i ↔ t.called i := by unfold Look.called; rw [h.names]
theorem Look.Told.inv (h : t.Told u) (k : t.Inv g M c) : u.Inv g M c :=
  ⟨fun i n hn => k.node i n (by rw [← h.nodes]; exact hn), fun i hi => by
    obtain ⟨a, b⟩ := k.inn i (by rw [← h.has]; exact hi)
    exact ⟨by rw [h.nodes]; exact a, (h.called i).2 b⟩, fun i l hl => by rw [h.free]; exact k.len i l (by rw [← h.names]; exact hl)⟩
theorem Look.Told.reached (t : Look) (i : Int) (n : Inode) : t.Told (t.reached i n) := by
  have h1 : t.Told (if n.links < ((t.namesOf i).length : Int) then t.tell 5 i else if ((t.namesOf i).length : Int) < n.links then t.tell 8 i else t) := by
    split
    · exact Look.Told.tell _ _ _
    · split
      · exact Look.Told.tell _ _ _
      · exact Look.Told.refl _
  unfold Look.reached
  simp only
  split
  · exact h1
  · split
    · exact h1.trans (Look.Told.tell _ _ _)
    · split
      · exact h1.trans (Look.Told.tell _ _ _)
      · exact h1
theorem Look.Told.taken (t : Look) (k : Int) (b : Bool) (n : Int) : t.Told (t.taken g S k b n).1 := by
  unfold Look.taken
  split
  · exact Look.Told.refl _
  · exact Look.Told.tell _ _ _
theorem Look.Told.inode (k : Int) (ps : Option (List Nat)) (t : Look) (p : Nat) : t.Told (Look.inode g k ps t p) := by
  unfold Look.inode
  simp only
  split
  · exact Look.Told.refl _
  · rename_i n _
    have h1 : t.Told (if t.has (k * g.inodes + p + 1) = true then t.reached (k * g.inodes + p + 1) n else t) := by
      split
      · exact Look.Told.reached _ _ _
      · exact Look.Told.refl _
    split
    · exact h1
    · split
      · exact h1.trans (Look.Told.tell _ _ _)
      · exact h1
theorem Look.Told.block2 (k : Int) (ps : Option (List Nat)) (t : Look) (p : Nat) : t.Told (Look.block2 g k ps t p) := by
  unfold Look.block2
  simp only
  have h1 : t.Told (if 1 < t.cnt (blkAt g k p).1 then t.tell 3 (blkAt g k p).1 else t) := by
    split
    · exact Look.Told.tell _ _ _
    · exact Look.Told.refl _
  split
  · exact h1
  · split
    · exact h1.trans (Look.Told.tell _ _ _)
    · split
      · exact h1.trans (Look.Told.tell _ _ _)
      · exact h1
theorem Look.Told.upto {f : Look → Nat → Look} (hf : ∀ (t : Look) (k : Nat), t.Told (f t k)) : ∀ (k : Nat) (t : Look), t.Told (Look.upto f k t)
  | 0, t => Look.Told.refl t
  | k + 1, t => (Look.Told.upto hf k t).trans (hf _ k)
theorem Look.Told.group (t : Look) (k : Nat) : t.Told (t.group g S k) := by
  unfold Look.group
  simp only
  exact (((Look.Told.taken t k false g.inodes).trans (Look.Told.upto (fun t p => Look.Told.inode k _ t p) _ _)).trans (Look.Told.taken _ k true g.blocks)).trans (Look.Told.upto (fun t p => Look.Told.block2 k _ t p) _ _)
theorem Look.through_inv (hg : g.ok) : (Look.through g S).Inv g 30000 0 := by
  unfold Look.through
  split
  · rename_i hk
    obtain ⟨r1, r2, r3, r4⟩ := Look.rooted_all (S := S) hg hk
    exact (Look.visit_all _ r1 r2 r3 r4).1
  · obtain ⟨h1, h2, h3, _⟩ := Look.reads_all (g := g) (S := S) rfl g.many.toNat
    refine Look.Inv.tell ⟨h1, fun i hi => ?_, fun i l hl => ?_⟩ _ _
    · unfold Look.has at hi
      rw [h2] at hi
      cases hi
    · rw [h3] at hl
      cases hl
end
def gEx : Geom := ⟨1, 2, 3⟩
def secEx (i : Int) : ByteArray := if i = 4 then ofL (1 :: zeros 63) else secAt gEx i
theorem ex_ok : gEx.ok := by decide
theorem ex_size : gEx.size = 10 := by decide
theorem ex_clean : (Look.disk gEx (secAt gEx)).found = [] := by decide +kernel
theorem ex_block : (Look.disk gEx secEx).found = [(10, 7)] := by decide +kernel
end Go.Proofs.YtaphcmcimoloiaaGreatDoor.Sp
