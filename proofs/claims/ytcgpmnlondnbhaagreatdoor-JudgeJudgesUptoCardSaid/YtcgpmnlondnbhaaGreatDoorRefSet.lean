/-
  The reference's walks: set.
-/
import Derived.Test.YtcgpmnlondnbhaaGreatDoorRefStand
namespace Go.Proofs.YtcgpmnlondnbhaaGreatDoor
open Go Go.RowKit Txt Sp

theorem flat_set {i : Nat} {b : Bool} {d : ByteArray} (d' : ByteArray) : ∀ {l : List (Nat × Bool × ByteArray)} {k : Nat}, l[k]? = some (i, b, d) → (l.flatMap thingC).set (k * 3 + 2) (.string d') = (l.set k (i, b, d')).flatMap thingC
  | [], _, h => by simp at h
  | x :: r, 0, h => by
    simp at h
    subst h
    rfl
  | x :: r, k + 1, h => by
    have ih := flat_set d' (l := r) (k := k) (by simpa using h)
    rw [List.set_cons_succ, List.flatMap_cons, List.flatMap_cons, ← ih, List.set_append_right _ _ (by rw [thingC_len]; omega)]
    congr 2
    rw [thingC_len]
    omega

section
set_option maxHeartbeats 4000000
variable {base : Nat} {w : World} {D : Nat → Prop} {r : Nat} {t : Sp.Tree} {vT vN : Value}
set_option maxRecDepth 20000 in
theorem rset_any (h : RefAt base w D r t vT vN) (hf : Few t) {k i : Nat} {b : Bool} {d : ByteArray} (hk : t.things[k]? = some (i, b, d)) (data : ByteArray) :
    Calls Tryz.prog 69 #[ptr r, .int .i64 (k : Int), .string data] w (StandPost base w D r { t with things := t.things.set k (i, b, data) }) := by
  obtain ⟨i0, hi, hz0, hz1, hz2⟩ := info_parts infoThing
  obtain ⟨ad, cap, rfl, hnil, hc1, hc2, hlen, hadr, hsrc⟩ := row_src h.things
  obtain ⟨n, hn⟩ : ∃ n, t.things.length = n := ⟨_, rfl⟩
  obtain ⟨L1, hL1⟩ : ∃ L1, t.things.flatMap thingC = L1 := ⟨_, rfl⟩
  obtain ⟨r0, _, _⟩ := h.cells
  obtain ⟨f0, _, _⟩ := h.free
  have hrl := h.lt
  have hkn : k < n := by rw [← hn]; exact (List.getElem?_eq_some_iff.1 hk).1
  have hn6 : n ≤ 1000000 := by rw [← hn]; exact hf.things
  rw [hn] at hnil hlen r0
  rw [hL1] at hlen hsrc
  have HOne : Hid (∀ u ∈ L1, u.oneCell' = true) := by rw [← hL1]; exact things_one _
  have HR := Lib.hid h
  have HK := Lib.hid hk
  have HN := Lib.hid hn
  have HL1 := Lib.hid hL1
  have HNil := Lib.hid hnil
  have HLen := Lib.hid hlen
  obtain ⟨W0, hW0⟩ : ∃ W, w.alloc (.cells #[] 61) = W := ⟨_, rfl⟩
  have hown0 : W0.ownsRow w.heap.size 61 3 (.slice (some ⟨w.heap.size, 0, none⟩) 0 0) 0 [] := by rw [← hW0]; exact World.ownsRow_lit w #[] 0 (Nat.le_refl _) (by decide) rfl
  have hb0 : Below w.heap.size w W0 := by rw [← hW0]; exact below_al (Below.refl _ _) _
  have r1' : W0.cell? ⟨r, 0, none⟩ = some (.slice ad n cap) := (hb0.cell (p := ⟨r, 0, none⟩) hrl).trans r0
  have HSrc : Hid (∀ a, ad = some a → ∀ j u, L1[j]? = some u → W0.cell? (a.add j) = some u) := fun a ha j u hu => by
    obtain ⟨g, rfl, hg⟩ := hadr a ha
    rw [hb0.cell (p := (⟨g, 0, none⟩ : Addr).add j) (by rw [add_block]; exact hg)]
    exact hsrc _ ha j u hu
  have HOwn0 := Lib.hid hown0
  have HB0 := Lib.hid hb0
  clear h hf hk hn hL1 hnil hlen hsrc hadr hown0 hb0 hc1 hc2
  unfold ptr
  go_enter Tryz.func69, Tryz.ntmps69
  go_wp2_with (at_builtin; refine wpList_append_src _ rfl (.tmp 7) (.tmp 11) 62 rfl w.heap.size 61 i0 _ 3 32 Tryz.underlying62 hi hz0 hz1 hz2 rfl (by decide) w.heap.size 0 0 [] rfl HOwn0.out ad n cap rfl HNil.out L1 HLen.out HSrc.out HOne.out (by unfold maxLen; omega) (by omega) HB0.out.size ?_)
  intro g1 cap1 w1 hown1 hgrow1 _
  have hb1 : Below w.heap.size w w1 := HB0.out.grown hgrow1 HB0.out.size (fun k hk => by cases hk; exact Nat.le_refl _)
  have hlt1 := hown1.lt g1 rfl
  have hgr : g1 ≠ r := by omega
  have c1 : w1.cell? ⟨r, 0, none⟩ = some (.slice ad n cap) := (hb1.cell (p := ⟨r, 0, none⟩) hrl).trans r0
  have f1 : w1.frozen? ⟨r, 0, none⟩ = false := (hb1.frozen (p := ⟨r, 0, none⟩) hrl).trans f0
  obtain ⟨W2, hW2⟩ : ∃ W, w1.setCell ⟨r, 0, none⟩ (.slice (some ⟨g1, 0, none⟩) n cap1) = W := ⟨_, rfl⟩
  have hob2 : W2.heap[r]? = some (refO (.slice (some ⟨g1, 0, none⟩) n cap1) vN t.many) := by
    rw [← hW2, heap_setCell_at (heap_below hb1 _ _ HR.out.obj)]; rfl
  have hown2 : W2.ownsRow w.heap.size 61 3 (.slice (some ⟨g1, 0, none⟩) n cap1) n L1 := row_keep hown1 (fun j o hj ho => by
    have e : g1 = j := by simpa [Value.ownBlock] using hj
    rw [← hW2, heap_setCell_ne _ (by omega)]; exact ho)
  have c2 : W2.cell? ⟨r, 0, none⟩ = some (.slice (some ⟨g1, 0, none⟩) n cap1) := by rw [cell_of_row W2 r 0 _ _ _ hob2]; rfl
  have c3 : W2.cell? ⟨g1, k * 3 + 2, none⟩ = some (.string d) := by
    have h1 := HK.out
    rw [hown2.cellAt _ (by omega), ← HL1.out, flat_at thingC_len _ k _ h1 2 (by omega)]
    rfl
  have f3 : W2.frozen? ⟨g1, k * 3 + 2, none⟩ = false := hown2.frozenAt _
  have hst := (hown2.stored (k * 3 + 2) (.string data)).1
  have hT2 : Turn (fun j => j = r) w (W2.setCell ⟨g1, k * 3 + 2, none⟩ (.string data)) := by
    have h1 := turn_store hb1 r 0 (.slice (some ⟨g1, 0, none⟩) n cap1)
    rw [hW2] at h1
    refine ⟨h1.os, h1.tape, h1.output, by rw [size_setCell]; exact h1.size, fun j hj hn => ?_⟩
    have h2 : (W2.setCell ⟨g1, k * 3 + 2, none⟩ (.string data)).heap[j]? = W2.heap[j]? := heap_setCell_ne _ (by omega)
    rw [h2]
    exact h1.block j hj hn
  have HE : Hid (RefAt base (W2.setCell ⟨g1, k * 3 + 2, none⟩ (.string data)) D r { t with things := t.things.set k (i, b, data) } (.slice (some ⟨g1, 0, none⟩) n cap1) vN) := by
    refine HR.out.turned hT2 ?_ (Or.inr ?_) (Or.inl ⟨rfl, rfl⟩)
    · rw [heap_setCell_ne _ (Ne.symm hgr)]; exact hob2
    · unfold ThingsAt
      rw [← flat_set data HK.out, HL1.out, List.length_set, HN.out]
      exact hst
  have HT2 := Lib.hid hT2
  clear hown1 hgrow1 hb1 hob2 hown2 hst hT2 hlt1
  go_wp2
  go_end0
  exact ⟨rfl, _, _, HE.out, HT2.out⟩
end
end Go.Proofs.YtcgpmnlondnbhaaGreatDoor
