/-
  SpI: SpNode, SpLaid16.
-/
import Derived.Test.YtaphcmcimoloiaaGreatDoorSpF
namespace Go.Proofs.YtaphcmcimoloiaaGreatDoor.Sp
open Go Txt

theorem numAt_list {b0 b1 : UInt8} {l : List Int} {z : List UInt8} {s : ByteArray} (hs : s.data.toList = b0 :: b1 :: (listL2 l ++ z)) {j : Nat} (hj : j < l.length) (h : 0 ≤ l[j] ∧ l[j] < 65536) : (numAt s (2 + 2 * j) 2 : Int) = l[j] := by
  unfold numAt
  have e : (s.data.toList.drop (2 + 2 * j)).take 2 = textL 2 l[j].toNat := by
    rw [hs, ← List.drop_drop]
    show ((listL2 l ++ z).drop (2 * j)).take 2 = _
    have hl := listL2_length l
    rw [List.drop_append_of_le_length (by omega), List.take_append_of_le_length (by rw [List.length_drop]; omega), listL2_get hj]
  rw [e]
  exact num2 h.1 h.2
theorem byteB_back {n : Int} (h0 : 0 ≤ n) (h1 : n < 256) : ((byteB n).toNat : Int) = n := by
  unfold byteB
  have : (UInt8.ofNat n.toNat).toNat = n.toNat % 256 := UInt8.toNat_ofNat ..
  rw [this]
  omega
theorem what_bd0 {g : Geom} {s : Int} (h : blockOk g s) : 0 ≤ s ∧ s < 65536 := by
  rcases h with rfl | ⟨h, _⟩
  · omega
  · unfold Geom.what at h
    split at h
    · rename_i hw
      unfold Geom.within at hw
      split at hw
      · rename_i hg
        split at hw
        · exact absurd hw (by decide)
        · have := (Geom.size_bd hg).2
          omega
      · exact absurd hw (by decide)
    · rename_i hw
      exact absurd h hw
theorem fits_bd {g : Geom} {n : Inode} (hg : g.ok) (h : n.fits g) : (0 ≤ n.kind ∧ n.kind < 256) ∧ (0 ≤ n.links ∧ n.links < 256) ∧ (0 ≤ n.size ∧ n.size < 65536) ∧ (0 ≤ n.parent ∧ n.parent < 65536) ∧ (0 ≤ n.gen ∧ n.gen < 65536) ∧ (0 ≤ n.more ∧ n.more < 65536) ∧ ∀ d ∈ n.direct, 0 ≤ d ∧ d < 65536 := by
  obtain ⟨h1, h2, h3, h4, h5, h6, h⟩ := h
  have hm := Geom.many_ok hg
  have hp := Geom.prod hg
  rcases h with ⟨a, _, _, b, c, d⟩ | ⟨a, b, c, d⟩ | ⟨a, _, b, b2, c, d⟩
  · refine ⟨by omega, by omega, by omega, by omega, by omega, by omega, fun x hx => ?_⟩
    have := c x hx
    omega
  · exact ⟨by omega, by omega, by omega, by omega, by omega, what_bd0 d, fun x hx => what_bd0 (c x hx)⟩
  · exact ⟨by omega, by omega, by omega, by omega, by omega, what_bd0 d, fun x hx => what_bd0 (c x hx)⟩
theorem inodeB_list (n : Inode) (h : n.direct.length = 8) : (inodeB n).data.toList = byteB n.kind :: byteB n.links :: (listL2 (n.size :: n.parent :: n.gen :: (n.direct ++ [n.more])) ++ zeros 38) := by
  rw [inodeB_data n h, listL2_cons, listL2_cons, listL2_cons, listL2_append, listL2_cons]
  have e : listL2 [] = [] := rfl
  rw [e, List.append_nil]
  unfold nodeL6
  simp only [List.append_assoc, List.cons_append, List.nil_append]
theorem inodeOf_B {g : Geom} {n : Inode} (hg : g.ok) (hd : n.direct.length = 8) (h : n.fits g) : inodeOf (inodeB n) = n := by
  obtain ⟨b1, b2, b3, b4, b5, b6, b7⟩ := fits_bd hg h
  have hs := inodeB_list n hd
  obtain ⟨kind, links, size, parent, gen, direct, more⟩ := n
  dsimp only at b1 b2 b3 b4 b5 b6 b7 hd
  obtain ⟨s, hss⟩ : ∃ s, inodeB ⟨kind, links, size, parent, gen, direct, more⟩ = s := ⟨_, rfl⟩
  rw [hss] at hs ⊢
  dsimp only at hs
  have hl : (size :: parent :: gen :: (direct ++ [more])).length = 12 := by simp [hd]
  have e0 : byteAt s 0 = kind := by unfold byteAt; rw [hs]; exact byteB_back b1.1 b1.2
  have e1 : byteAt s 1 = links := by unfold byteAt; rw [hs]; exact byteB_back b2.1 b2.2
  have e2 : (numAt s 2 2 : Int) = size := numAt_list hs (j := 0) (by rw [hl]; omega) b3
  have e3 : (numAt s 4 2 : Int) = parent := numAt_list hs (j := 1) (by rw [hl]; omega) b4
  have e4 : (numAt s 6 2 : Int) = gen := numAt_list hs (j := 2) (by rw [hl]; omega) b5
  have e5 : ∀ k (hk : k < 8), (numAt s (8 + 2 * k) 2 : Int) = direct[k]'(by omega) := fun k hk => by
    have e : (size :: parent :: gen :: (direct ++ [more]))[k + 3]'(by rw [hl]; omega) = direct[k]'(by omega) := by
      simp only [List.getElem_cons_succ]
      exact List.getElem_append_left (by omega)
    have := numAt_list hs (j := k + 3) (by rw [hl]; omega) (by rw [e]; exact b7 _ (List.getElem_mem _))
    rw [e, show 2 + 2 * (k + 3) = 8 + 2 * k by omega] at this
    exact this
  have e6 : (numAt s 24 2 : Int) = more := by
    have e : (size :: parent :: gen :: (direct ++ [more]))[11]'(by rw [hl]; omega) = more := by
      simp only [List.getElem_cons_succ]
      rw [List.getElem_append_right (by omega)]
      simp
    have := numAt_list hs (j := 11) (by rw [hl]; omega) (by rw [e]; exact b6)
    rw [e] at this
    exact this
  unfold inodeOf
  rw [e0, e1, e2, e3, e4, e6]
  congr 1
  refine List.ext_getElem (by simp [hd]) (fun k h1 h2 => ?_)
  rw [List.getElem_map, List.getElem_range]
  exact e5 k (by omega)
theorem inodeB_size0 (n : Inode) (h : n.direct.length = 8) : (inodeB n).size = 64 := by
  have hl : (n.size :: n.parent :: n.gen :: (n.direct ++ [n.more])).length = 12 := by simp [h]
  rw [Lib.size_eq, inodeB_list n h, List.length_cons, List.length_cons, List.length_append, listL2_length, zeros_length, hl]
theorem isInode_B {g : Geom} {n : Inode} (hg : g.ok) (hd : n.direct.length = 8) (h : n.fits g) : isInode g (inodeB n) := by
  have e := inodeOf_B hg hd h
  exact ⟨inodeB_size0 n hd, by rw [e]; exact h, by rw [e]⟩
theorem numAt_listB {l : List Int} (h : l.length = 32) (hb : ∀ b ∈ l, 0 ≤ b ∧ b < 65536) : (List.range 32).map (fun i : Nat => getN (listB l) (2 * (i : Int)) 2) = l := by
  refine List.ext_getElem (by simp [h]) (fun k h1 h2 => ?_)
  rw [List.getElem_map, List.getElem_range]
  exact getN_list h hb (by omega)
end Go.Proofs.YtaphcmcimoloiaaGreatDoor.Sp

namespace Go.Proofs.YtaphcmcimoloiaaGreatDoor.Sp
open Go Txt

section
variable {g : Geom} {node epoch : Int}
end
end Go.Proofs.YtaphcmcimoloiaaGreatDoor.Sp
