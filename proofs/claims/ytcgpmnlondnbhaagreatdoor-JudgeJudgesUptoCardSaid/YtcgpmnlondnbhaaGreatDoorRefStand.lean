/-
  The reference's walks: stand, set.
-/
import Derived.Test.YtcgpmnlondnbhaaGreatDoorRefTurn
namespace Go.Proofs.YtcgpmnlondnbhaaGreatDoor
open Go Go.RowKit Txt Sp

theorem infoThing : (Tryz.prog.info? 61).map (fun i => (i.zero, i.size, i.bytes)) = some (some (.agg #[.int .i64 0, .bool false, .string ⟨#[]⟩]), 3, 32) := by kernel_rfl
theorem infoName : (Tryz.prog.info? 77).map (fun i => (i.zero, i.size, i.bytes)) = some (some (.agg #[.string ⟨#[]⟩, .int .i64 0]), 2, 24) := by kernel_rfl

/-- What a change of the reference's tree leaves. -/
def RefTo (base : Nat) (w : World) (D : Nat → Prop) (r : Nat) (t' : Sp.Tree) (w' : World) : Prop := ∃ vT vN, RefAt base w' D r t' vT vN ∧ Turn (fun j => j = r) w w'
def StandPost (base : Nat) (w : World) (D : Nat → Prop) (r : Nat) (t' : Sp.Tree) (e : Ending) (w' : World) : Prop := e = .returned (.tuple #[]) ∧ RefTo base w D r t' w'

section
set_option maxHeartbeats 4000000
variable {base : Nat} {w : World} {D : Nat → Prop} {r : Nat} {t : Sp.Tree} {vT vN : Value}
set_option maxRecDepth 20000 in
theorem rstand_any (h : RefAt base w D r t vT vN) (hf : t.names.length ≤ 1000000) {q : List ByteArray} {s : ByteArray} (hs : s = ofL (joinL q)) (i : Nat) :
    Calls Tryz.prog 61 #[ptr r, .string s, .int .i64 (i : Int)] w (StandPost base w D r { t with names := t.names ++ [(q, i)] }) := by
  obtain ⟨i0, hi, hz0, hz1, hz2⟩ := info_parts infoName
  obtain ⟨ad, cap, rfl, hnil, hc1, hc2, hlen, hadr, hsrc⟩ := row_src h.names
  obtain ⟨n, hn⟩ : ∃ n, t.names.length = n := ⟨_, rfl⟩
  obtain ⟨L1, hL1⟩ : ∃ L1, t.names.flatMap nameC = L1 := ⟨_, rfl⟩
  obtain ⟨_, r1, _⟩ := h.cells
  obtain ⟨_, f1, _⟩ := h.free
  have hrl := h.lt
  have hn6 : n ≤ 1000000 := by rw [← hn]; exact hf
  rw [hn] at hnil hlen r1
  rw [hL1] at hlen hsrc
  have HOne : Hid (∀ u ∈ L1, u.oneCell' = true) := by rw [← hL1]; exact names_one _
  have HR := Lib.hid h
  have HS := Lib.hid hs
  have HN := Lib.hid hn
  have HL1 := Lib.hid hL1
  have HNil := Lib.hid hnil
  have HLen := Lib.hid hlen
  obtain ⟨W0, hW0⟩ : ∃ W, w.alloc (.cells #[] 77) = W := ⟨_, rfl⟩
  have hown0 : W0.ownsRow w.heap.size 77 2 (.slice (some ⟨w.heap.size, 0, none⟩) 0 0) 0 [] := by rw [← hW0]; exact World.ownsRow_lit w #[] 0 (Nat.le_refl _) (by decide) rfl
  have hb0 : Below w.heap.size w W0 := by rw [← hW0]; exact below_al (Below.refl _ _) _
  have r1' : W0.cell? ⟨r, 1, none⟩ = some (.slice ad n cap) := (hb0.cell (p := ⟨r, 1, none⟩) hrl).trans r1
  have HSrc : Hid (∀ a, ad = some a → ∀ j u, L1[j]? = some u → W0.cell? (a.add j) = some u) := fun a ha j u hu => by
    obtain ⟨g, rfl, hg⟩ := hadr a ha
    rw [hb0.cell (p := (⟨g, 0, none⟩ : Addr).add j) (by rw [add_block]; exact hg)]
    exact hsrc _ ha j u hu
  have HOwn0 := Lib.hid hown0
  have HB0 := Lib.hid hb0
  clear h hf hs hn hL1 hnil hlen hsrc hadr hown0 hb0 hc1 hc2
  unfold ptr
  go_enter Tryz.func61, Tryz.ntmps61
  go_wp2_with (at_builtin; refine wpList_append_src _ rfl (.tmp 7) (.tmp 11) 63 rfl w.heap.size 77 i0 _ 2 24 Tryz.underlying63 hi hz0 hz1 hz2 rfl (by decide) w.heap.size 0 0 [] rfl HOwn0.out ad n cap rfl HNil.out L1 HLen.out HSrc.out HOne.out (by unfold maxLen; omega) (by omega) HB0.out.size ?_)
  intro g1 cap1 w1 hown1 hgrow1 _
  have hb1 : Below w.heap.size w w1 := HB0.out.grown hgrow1 HB0.out.size (fun k hk => by cases hk; exact Nat.le_refl _)
  have HB1 := Lib.hid hb1
  have r1a : w1.cell? ⟨r, 1, none⟩ = some (.slice ad n cap) := (hb1.cell (p := ⟨r, 1, none⟩) hrl).trans r1
  obtain ⟨W1, hW1⟩ : ∃ W, w1.alloc (.cells #[.string s, .int .i64 (i : Int)] 77) = W := ⟨_, rfl⟩
  have HOwn1 : Hid (W1.ownsRow w.heap.size 77 2 (.slice (some ⟨g1, 0, none⟩) n cap1) n L1) := by
    have := hown1.alloc (.cells #[.string s, .int .i64 (i : Int)] 77)
    rw [hW1] at this
    exact this
  have HNew : Hid (∀ j u, [Value.string s, .int .i64 (i : Int)][j]? = some u → W1.cell? ((⟨w1.heap.size, 0, none⟩ : Addr).add j) = some u) := by
    rw [← hW1]
    exact World.news_of_block (cs := #[.string s, .int .i64 (i : Int)]) (heap_alloc_new w1 _)
  have HBW1 : Hid (Below w.heap.size w W1) := by rw [← hW1]; exact below_al hb1 _
  have HRow1 := Lib.hid hown1.lt
  clear hown1 hgrow1 hb1
  go_wp2_with (at_builtin; refine wpList_append_lies _ rfl (.tmp 12) (.tmp 16) 63 rfl w.heap.size 77 i0 _ 2 24 Tryz.underlying63 hi hz0 hz1 hz2 rfl (by decide) _ n L1 rfl HOwn1.out ⟨w1.heap.size, 0, none⟩ 1 1 [.string s, .int .i64 (i : Int)] rfl rfl HNew.out (by simp [Value.oneCell']) (by decide) (by unfold maxLen; omega) (by omega) HBW1.out.size _ rfl ?_)
  intro g2 cap2 w2 hown2 hgrow2 _ _
  have hb2 : Below w.heap.size w w2 := HBW1.out.grown hgrow2 HBW1.out.size (fun k hk => (HRow1.out k hk).1)
  have r2 : w2.cell? ⟨r, 1, none⟩ = some (.slice ad n cap) := (hb2.cell (p := ⟨r, 1, none⟩) hrl).trans r1
  have f2 : w2.frozen? ⟨r, 1, none⟩ = false := (hb2.frozen (p := ⟨r, 1, none⟩) hrl).trans f1
  have hna : NamesAt w.heap.size w2 (.slice (some ⟨g2, 0, none⟩) (n + 1) cap2) (t.names ++ [(q, i)]) := by
    unfold NamesAt
    rw [List.length_append, List.length_singleton, HN.out, List.flatMap_append, HL1.out]
    have : [(q, i)].flatMap nameC = [.string s, .int .i64 (i : Int)] := by rw [HS.out]; rfl
    rw [this]
    exact hown2
  have HE := Lib.hid (HR.out.setN hb2 hna)
  clear hown2 hgrow2 hna hb2
  go_wp2
  go_end0
  exact ⟨rfl, _, _, HE.out.1, HE.out.2⟩
end
end Go.Proofs.YtcgpmnlondnbhaaGreatDoor
