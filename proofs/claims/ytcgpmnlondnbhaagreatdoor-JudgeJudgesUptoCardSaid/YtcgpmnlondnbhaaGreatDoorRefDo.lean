/-
  The reference's walks: Do.
-/
import Derived.Test.YtcgpmnlondnbhaaGreatDoorRefRename
import Derived.Test.YtcgpmnlondnbhaaGreatDoorRefData
import Derived.Test.YtcgpmnlondnbhaaGreatDoorRefTell
namespace Go.Proofs.YtcgpmnlondnbhaaGreatDoor
open Go Go.RowKit Txt Sp

def RefDo (base : Nat) (w : World) (D : Nat → Prop) (r : Nat) (x : Sp.Tree × Sp.Ans) (e : Ending) (w' : World) : Prop := ∃ v, e = .returned v ∧ AnsO w.heap.size w' v x.2 ∧ RefTo base w D r x.1 w'
def ans0 : Obj := .cells #[.int .i64 0, .int .i64 0, .int .i64 0, .int .i64 0, .string ⟨#[]⟩, .slice none 0 0] 32 (0, 0)
theorem RefTo.six {base : Nat} {w WA wy : World} {D : Nat → Prop} {r : Nat} {t' : Sp.Tree} (hb : Below w.heap.size w WA) (h : RefTo base WA D r t' wy) {n : Nat} (hn : w.heap.size ≤ n) (hr : n ≠ r) {cs : Array Value} {fr : Nat × Nat} (han : wy.heap[n]? = some (.cells cs 32 fr)) (a b c d e f : Value) :
    RefTo base w D r t' ((((((wy.setCell ⟨n, 0, none⟩ a).setCell ⟨n, 1, none⟩ b).setCell ⟨n, 2, none⟩ c).setCell ⟨n, 3, none⟩ d).setCell ⟨n, 4, none⟩ e).setCell ⟨n, 5, none⟩ f) := by
  obtain ⟨vT, vN, hR, hT⟩ := h
  refine ⟨vT, vN, hR.keep (fun k o hk ho => ?_) (fun _ hj => Or.inl hj) (fun j hj => ?_), ?_⟩
  · rw [six_same wy]
    · exact ho
    · rcases hk with rfl | hk | hk
      · exact fun e => hr e.symm
      · exact row_not hR.things han (by decide) k hk
      · exact row_not hR.names han (by decide) k hk
  · exact Nat.lt_of_lt_of_le (hR.lim j hj) (six_turn wy n a b c d e f).size
  · have h2 := six_turn wy n a b c d e f
    have h1 := turn_next hb hT
    refine ⟨h2.os.trans h1.os, h2.tape.trans h1.tape, h2.output.trans h1.output, Nat.le_trans h1.size h2.size, fun k hk hnk => ?_⟩
    rw [six_same wy (by omega)]
    exact h1.block k hk hnk

section
set_option maxHeartbeats 8000000
variable {base : Nat} {w : World} {D : Nat → Prop} {r : Nat} {t : Sp.Tree} {vT vN : Value}
set_option maxRecDepth 20000 in
theorem rdo_any (h : RefAt base w D r t vT vN) (hok : t.Ok) (hf : Few t) (o : Sp.Op) (ho : OpOk o) :
    Calls Tryz.prog 13 #[ptr r, opV o] w (RefDo base w D r (t.step o)) := by
  have HOo := Lib.hid ho
  obtain ⟨kind, path, dst, off, len, data⟩ := o
  have hs := ho.path
  have hs2 := ho.dest
  simp only at hs hs2
  have hrw := h.lt
  have HR := Lib.hid h
  have HOK := Lib.hid hok
  have HF := Lib.hid hf
  clear h hok hf ho
  unfold opV
  simp only
  obtain ⟨W1, hW1⟩ : ∃ W, w.alloc (.cells #[.int .i64 kind, .string path, .string dst, .int .i64 off, .int .i64 len, .string data] 35) = W := ⟨_, rfl⟩
  obtain ⟨WA, hWA⟩ : ∃ W, W1.alloc (.cells #[.int .i64 0, .int .i64 0, .int .i64 0, .int .i64 0, .string ⟨#[]⟩, .slice none 0 0] 32) = W := ⟨_, rfl⟩
  have hb1 : Below w.heap.size w W1 := by rw [← hW1]; exact below_al (Below.refl _ _) _
  have hbA : Below w.heap.size w WA := by rw [← hWA]; exact below_al hb1 _
  have hop : WA.heap[w.heap.size]? = some (.cells #[.int .i64 kind, .string path, .string dst, .int .i64 off, .int .i64 len, .string data] 35 (0, 0)) := by
    rw [← hWA]
    exact heap_below (below_al (Below.refl W1.heap.size W1) _) _ _ (by rw [← hW1]; exact heap_alloc_new w _)
  have han : WA.heap[W1.heap.size]? = some (.cells #[.int .i64 0, .int .i64 0, .int .i64 0, .int .i64 0, .string ⟨#[]⟩, .slice none 0 0] 32 (0, 0)) := by rw [← hWA]; exact heap_alloc_new W1 _
  have p0 : WA.cell? ⟨w.heap.size, 0, none⟩ = some (.int .i64 kind) := cell_of_heap hop rfl
  have p1 : WA.cell? ⟨w.heap.size, 1, none⟩ = some (.string path) := cell_of_heap hop rfl
  have p2 : WA.cell? ⟨w.heap.size, 2, none⟩ = some (.string dst) := cell_of_heap hop rfl
  have p3 : WA.cell? ⟨w.heap.size, 3, none⟩ = some (.int .i64 off) := cell_of_heap hop rfl
  have p4 : WA.cell? ⟨w.heap.size, 4, none⟩ = some (.int .i64 len) := cell_of_heap hop rfl
  have p5 : WA.cell? ⟨w.heap.size, 5, none⟩ = some (.string data) := cell_of_heap hop rfl
  have HAn := Lib.hid han
  have HBA := Lib.hid hbA
  have HRA := Lib.hid (HR.out.below hbA)
  have hsz1 : w.heap.size ≤ W1.heap.size := hb1.size
  have hnr : W1.heap.size ≠ r := by omega
  have HSA : Hid (w.heap.size ≤ WA.heap.size) := hbA.size
  clear hb1 hbA hop han
  unfold ptr
  by_cases hk1 : kind = 1
  · subst hk1
    obtain ⟨t', c, hx⟩ : ∃ t' c, t.make path false = (t', c) := ⟨_, _, rfl⟩
    have HX := Lib.hid hx
    have HP : Hid (t.step ⟨1, path, dst, off, len, data⟩ = (t', { code := c })) := by show _ = _; unfold Sp.Tree.step; simp only; simp [hx]
    clear hx
    go_enter Tryz.func13, Tryz.ntmps13
    go_wp2_with fail
    refine (rmake_any HRA.out HOK.out HF.out path false hs).mono ?_
    rw [HX.out]
    rintro e w5 ⟨rfl, hto⟩
    have hny : w5.heap[W1.heap.size]? = some (.cells #[.int .i64 0, .int .i64 0, .int .i64 0, .int .i64 0, .string ⟨#[]⟩, .slice none 0 0] 32 (0, 0)) := by
      obtain ⟨_, _, _, hT⟩ := hto
      exact hT.heap HAn.out hnr
    obtain ⟨g0, g1⟩ := ans_cells hny
    have HNy := Lib.hid hny
    have HTo := Lib.hid hto
    clear hny hto
    go_wp2
    refine bodyPost_ret (v := .agg #[.int .i64 c, .int .i64 0, .int .i64 0, .int .i64 0, .string ⟨#[]⟩, .slice none 0 0]) (by simp [results, Tryz.results13, go_sem, g0]) rfl ?_
    unfold RefDo
    rw [HP.out]
    exact ⟨_, rfl, ⟨_, rfl, OwnTexts.void _ _⟩, RefTo.six HBA.out HTo.out hsz1 hnr HNy.out _ _ _ _ _ _⟩
  have hk1' : (kind == 1) = false := beq_eq_false_iff_ne.2 hk1
  by_cases hk2 : kind = 2
  · subst hk2
    obtain ⟨t', c, hx⟩ : ∃ t' c, t.make path true = (t', c) := ⟨_, _, rfl⟩
    have HX := Lib.hid hx
    have HP : Hid (t.step ⟨2, path, dst, off, len, data⟩ = (t', { code := c })) := by show _ = _; unfold Sp.Tree.step; simp only; simp [hx]
    clear hx
    go_enter Tryz.func13, Tryz.ntmps13
    go_wp2_with fail
    refine (rmake_any HRA.out HOK.out HF.out path true hs).mono ?_
    rw [HX.out]
    rintro e w5 ⟨rfl, hto⟩
    have hny : w5.heap[W1.heap.size]? = some (.cells #[.int .i64 0, .int .i64 0, .int .i64 0, .int .i64 0, .string ⟨#[]⟩, .slice none 0 0] 32 (0, 0)) := by
      obtain ⟨_, _, _, hT⟩ := hto
      exact hT.heap HAn.out hnr
    obtain ⟨g0, g1⟩ := ans_cells hny
    have HNy := Lib.hid hny
    have HTo := Lib.hid hto
    clear hny hto
    go_wp2
    refine bodyPost_ret (v := .agg #[.int .i64 c, .int .i64 0, .int .i64 0, .int .i64 0, .string ⟨#[]⟩, .slice none 0 0]) (by simp [results, Tryz.results13, go_sem, g0]) rfl ?_
    unfold RefDo
    rw [HP.out]
    exact ⟨_, rfl, ⟨_, rfl, OwnTexts.void _ _⟩, RefTo.six HBA.out HTo.out hsz1 hnr HNy.out _ _ _ _ _ _⟩
  have hk2' : (kind == 2) = false := beq_eq_false_iff_ne.2 hk2
  by_cases hk3 : kind = 3
  · subst hk3
    obtain ⟨t', c, hx⟩ : ∃ t' c, t.link path dst = (t', c) := ⟨_, _, rfl⟩
    have HX := Lib.hid hx
    have HP : Hid (t.step ⟨3, path, dst, off, len, data⟩ = (t', { code := c })) := by show _ = _; unfold Sp.Tree.step; simp only; simp [hx]
    clear hx
    go_enter Tryz.func13, Tryz.ntmps13
    go_wp2_with fail
    refine (rlink_any HRA.out HOK.out HF.out path dst hs hs2).mono ?_
    rw [HX.out]
    rintro e w5 ⟨rfl, hto⟩
    have hny : w5.heap[W1.heap.size]? = some (.cells #[.int .i64 0, .int .i64 0, .int .i64 0, .int .i64 0, .string ⟨#[]⟩, .slice none 0 0] 32 (0, 0)) := by
      obtain ⟨_, _, _, hT⟩ := hto
      exact hT.heap HAn.out hnr
    obtain ⟨g0, g1⟩ := ans_cells hny
    have HNy := Lib.hid hny
    have HTo := Lib.hid hto
    clear hny hto
    go_wp2
    refine bodyPost_ret (v := .agg #[.int .i64 c, .int .i64 0, .int .i64 0, .int .i64 0, .string ⟨#[]⟩, .slice none 0 0]) (by simp [results, Tryz.results13, go_sem, g0]) rfl ?_
    unfold RefDo
    rw [HP.out]
    exact ⟨_, rfl, ⟨_, rfl, OwnTexts.void _ _⟩, RefTo.six HBA.out HTo.out hsz1 hnr HNy.out _ _ _ _ _ _⟩
  have hk3' : (kind == 3) = false := beq_eq_false_iff_ne.2 hk3
  by_cases hk4 : kind = 4
  · subst hk4
    obtain ⟨t', c, hx⟩ : ∃ t' c, t.remove path false = (t', c) := ⟨_, _, rfl⟩
    have HX := Lib.hid hx
    have HP : Hid (t.step ⟨4, path, dst, off, len, data⟩ = (t', { code := c })) := by show _ = _; unfold Sp.Tree.step; simp only; simp [hx]
    clear hx
    go_enter Tryz.func13, Tryz.ntmps13
    go_wp2_with fail
    refine (rremove_any HRA.out HOK.out HF.out path false hs).mono ?_
    rw [HX.out]
    rintro e w5 ⟨rfl, hto⟩
    have hny : w5.heap[W1.heap.size]? = some (.cells #[.int .i64 0, .int .i64 0, .int .i64 0, .int .i64 0, .string ⟨#[]⟩, .slice none 0 0] 32 (0, 0)) := by
      obtain ⟨_, _, _, hT⟩ := hto
      exact hT.heap HAn.out hnr
    obtain ⟨g0, g1⟩ := ans_cells hny
    have HNy := Lib.hid hny
    have HTo := Lib.hid hto
    clear hny hto
    go_wp2
    refine bodyPost_ret (v := .agg #[.int .i64 c, .int .i64 0, .int .i64 0, .int .i64 0, .string ⟨#[]⟩, .slice none 0 0]) (by simp [results, Tryz.results13, go_sem, g0]) rfl ?_
    unfold RefDo
    rw [HP.out]
    exact ⟨_, rfl, ⟨_, rfl, OwnTexts.void _ _⟩, RefTo.six HBA.out HTo.out hsz1 hnr HNy.out _ _ _ _ _ _⟩
  have hk4' : (kind == 4) = false := beq_eq_false_iff_ne.2 hk4
  by_cases hk5 : kind = 5
  · subst hk5
    obtain ⟨t', c, hx⟩ : ∃ t' c, t.remove path true = (t', c) := ⟨_, _, rfl⟩
    have HX := Lib.hid hx
    have HP : Hid (t.step ⟨5, path, dst, off, len, data⟩ = (t', { code := c })) := by show _ = _; unfold Sp.Tree.step; simp only; simp [hx]
    clear hx
    go_enter Tryz.func13, Tryz.ntmps13
    go_wp2_with fail
    refine (rremove_any HRA.out HOK.out HF.out path true hs).mono ?_
    rw [HX.out]
    rintro e w5 ⟨rfl, hto⟩
    have hny : w5.heap[W1.heap.size]? = some (.cells #[.int .i64 0, .int .i64 0, .int .i64 0, .int .i64 0, .string ⟨#[]⟩, .slice none 0 0] 32 (0, 0)) := by
      obtain ⟨_, _, _, hT⟩ := hto
      exact hT.heap HAn.out hnr
    obtain ⟨g0, g1⟩ := ans_cells hny
    have HNy := Lib.hid hny
    have HTo := Lib.hid hto
    clear hny hto
    go_wp2
    refine bodyPost_ret (v := .agg #[.int .i64 c, .int .i64 0, .int .i64 0, .int .i64 0, .string ⟨#[]⟩, .slice none 0 0]) (by simp [results, Tryz.results13, go_sem, g0]) rfl ?_
    unfold RefDo
    rw [HP.out]
    exact ⟨_, rfl, ⟨_, rfl, OwnTexts.void _ _⟩, RefTo.six HBA.out HTo.out hsz1 hnr HNy.out _ _ _ _ _ _⟩
  have hk5' : (kind == 5) = false := beq_eq_false_iff_ne.2 hk5
  by_cases hk6 : kind = 6
  · subst hk6
    obtain ⟨t', c, hx⟩ : ∃ t' c, t.rename path dst = (t', c) := ⟨_, _, rfl⟩
    have HX := Lib.hid hx
    have HP : Hid (t.step ⟨6, path, dst, off, len, data⟩ = (t', { code := c })) := by show _ = _; unfold Sp.Tree.step; simp only; simp [hx]
    clear hx
    go_enter Tryz.func13, Tryz.ntmps13
    go_wp2_with fail
    refine (rrename_any HRA.out HOK.out HF.out path dst hs hs2).mono ?_
    rw [HX.out]
    rintro e w5 ⟨rfl, hto⟩
    have hny : w5.heap[W1.heap.size]? = some (.cells #[.int .i64 0, .int .i64 0, .int .i64 0, .int .i64 0, .string ⟨#[]⟩, .slice none 0 0] 32 (0, 0)) := by
      obtain ⟨_, _, _, hT⟩ := hto
      exact hT.heap HAn.out hnr
    obtain ⟨g0, g1⟩ := ans_cells hny
    have HNy := Lib.hid hny
    have HTo := Lib.hid hto
    clear hny hto
    go_wp2
    refine bodyPost_ret (v := .agg #[.int .i64 c, .int .i64 0, .int .i64 0, .int .i64 0, .string ⟨#[]⟩, .slice none 0 0]) (by simp [results, Tryz.results13, go_sem, g0]) rfl ?_
    unfold RefDo
    rw [HP.out]
    exact ⟨_, rfl, ⟨_, rfl, OwnTexts.void _ _⟩, RefTo.six HBA.out HTo.out hsz1 hnr HNy.out _ _ _ _ _ _⟩
  have hk6' : (kind == 6) = false := beq_eq_false_iff_ne.2 hk6
  by_cases hk7 : kind = 7
  · subst hk7
    obtain ⟨t', s5, c, hx⟩ : ∃ t' s5 c, t.bytes ⟨7, path, dst, off, len, data⟩ = (t', s5, c) := ⟨_, _, _, rfl⟩
    have HX := Lib.hid hx
    have HP : Hid (t.step ⟨7, path, dst, off, len, data⟩ = (t', { code := c, data := s5 })) := by show _ = _; unfold Sp.Tree.step; simp only; simp [hx]
    clear hx
    go_enter Tryz.func13, Tryz.ntmps13
    go_wp2_with fail
    refine (rdata_any HRA.out HOK.out HF.out ⟨7, path, dst, off, len, data⟩ HOo.out).mono ?_
    rw [HX.out]
    rintro e w5 ⟨rfl, hto⟩
    have hny : w5.heap[W1.heap.size]? = some (.cells #[.int .i64 0, .int .i64 0, .int .i64 0, .int .i64 0, .string ⟨#[]⟩, .slice none 0 0] 32 (0, 0)) := by
      obtain ⟨_, _, _, hT⟩ := hto
      exact hT.heap HAn.out hnr
    obtain ⟨g0, g1⟩ := ans_cells hny
    have HNy := Lib.hid hny
    have HTo := Lib.hid hto
    clear hny hto
    go_wp2
    refine bodyPost_ret (v := .agg #[.int .i64 c, .int .i64 0, .int .i64 0, .int .i64 0, .string s5, .slice none 0 0]) (by simp [results, Tryz.results13, go_sem, g0]) rfl ?_
    unfold RefDo
    rw [HP.out]
    exact ⟨_, rfl, ⟨_, rfl, OwnTexts.void _ _⟩, RefTo.six HBA.out HTo.out hsz1 hnr HNy.out _ _ _ _ _ _⟩
  have hk7' : (kind == 7) = false := beq_eq_false_iff_ne.2 hk7
  by_cases hk8 : kind = 8
  · subst hk8
    obtain ⟨t', s5, c, hx⟩ : ∃ t' s5 c, t.bytes ⟨8, path, dst, off, len, data⟩ = (t', s5, c) := ⟨_, _, _, rfl⟩
    have HX := Lib.hid hx
    have HP : Hid (t.step ⟨8, path, dst, off, len, data⟩ = (t', { code := c, data := s5 })) := by show _ = _; unfold Sp.Tree.step; simp only; simp [hx]
    clear hx
    go_enter Tryz.func13, Tryz.ntmps13
    go_wp2_with fail
    refine (rdata_any HRA.out HOK.out HF.out ⟨8, path, dst, off, len, data⟩ HOo.out).mono ?_
    rw [HX.out]
    rintro e w5 ⟨rfl, hto⟩
    have hny : w5.heap[W1.heap.size]? = some (.cells #[.int .i64 0, .int .i64 0, .int .i64 0, .int .i64 0, .string ⟨#[]⟩, .slice none 0 0] 32 (0, 0)) := by
      obtain ⟨_, _, _, hT⟩ := hto
      exact hT.heap HAn.out hnr
    obtain ⟨g0, g1⟩ := ans_cells hny
    have HNy := Lib.hid hny
    have HTo := Lib.hid hto
    clear hny hto
    go_wp2
    refine bodyPost_ret (v := .agg #[.int .i64 c, .int .i64 0, .int .i64 0, .int .i64 0, .string s5, .slice none 0 0]) (by simp [results, Tryz.results13, go_sem, g0]) rfl ?_
    unfold RefDo
    rw [HP.out]
    exact ⟨_, rfl, ⟨_, rfl, OwnTexts.void _ _⟩, RefTo.six HBA.out HTo.out hsz1 hnr HNy.out _ _ _ _ _ _⟩
  have hk8' : (kind == 8) = false := beq_eq_false_iff_ne.2 hk8
  by_cases hk9 : kind = 9
  · subst hk9
    obtain ⟨t', s5, c, hx⟩ : ∃ t' s5 c, t.bytes ⟨9, path, dst, off, len, data⟩ = (t', s5, c) := ⟨_, _, _, rfl⟩
    have HX := Lib.hid hx
    have HP : Hid (t.step ⟨9, path, dst, off, len, data⟩ = (t', { code := c, data := s5 })) := by show _ = _; unfold Sp.Tree.step; simp only; simp [hx]
    clear hx
    go_enter Tryz.func13, Tryz.ntmps13
    go_wp2_with fail
    refine (rdata_any HRA.out HOK.out HF.out ⟨9, path, dst, off, len, data⟩ HOo.out).mono ?_
    rw [HX.out]
    rintro e w5 ⟨rfl, hto⟩
    have hny : w5.heap[W1.heap.size]? = some (.cells #[.int .i64 0, .int .i64 0, .int .i64 0, .int .i64 0, .string ⟨#[]⟩, .slice none 0 0] 32 (0, 0)) := by
      obtain ⟨_, _, _, hT⟩ := hto
      exact hT.heap HAn.out hnr
    obtain ⟨g0, g1⟩ := ans_cells hny
    have HNy := Lib.hid hny
    have HTo := Lib.hid hto
    clear hny hto
    go_wp2
    refine bodyPost_ret (v := .agg #[.int .i64 c, .int .i64 0, .int .i64 0, .int .i64 0, .string s5, .slice none 0 0]) (by simp [results, Tryz.results13, go_sem, g0]) rfl ?_
    unfold RefDo
    rw [HP.out]
    exact ⟨_, rfl, ⟨_, rfl, OwnTexts.void _ _⟩, RefTo.six HBA.out HTo.out hsz1 hnr HNy.out _ _ _ _ _ _⟩
  have hk9' : (kind == 9) = false := beq_eq_false_iff_ne.2 hk9
  by_cases hk10 : kind = 10
  · subst hk10
    obtain ⟨a, hx⟩ : ∃ a, t.tell ⟨10, path, dst, off, len, data⟩ = a := ⟨_, rfl⟩
    have HX := Lib.hid hx
    have HP : Hid (t.step ⟨10, path, dst, off, len, data⟩ = (t, a)) := by show _ = _; unfold Sp.Tree.step; simp only; simp [hx]
    clear hx
    go_enter Tryz.func13, Tryz.ntmps13
    go_wp2_with fail
    refine (rtell_any HRA.out HOK.out HF.out ⟨10, path, dst, off, len, data⟩ HOo.out).mono ?_
    rw [HX.out]
    rintro e w5 ⟨v5, rfl, ⟨nv, rfl, hnv⟩, hb5⟩
    have hny : w5.heap[W1.heap.size]? = some (.cells #[.int .i64 0, .int .i64 0, .int .i64 0, .int .i64 0, .string ⟨#[]⟩, .slice none 0 0] 32 (0, 0)) := heap_below hb5 _ _ HAn.out
    obtain ⟨g0, g1⟩ := ans_cells hny
    have HNy := Lib.hid hny
    have HTo : Hid (RefTo base WA D r t w5) := ⟨_, _, HRA.out.below hb5, Turn.of_below hb5⟩
    have HNv := Lib.hid hnv
    obtain ⟨adn, capn, rfl⟩ := own_shape hnv
    obtain ⟨ln, hln⟩ : ∃ ln, a.names.length = ln := ⟨_, rfl⟩
    rw [hln] at HNv ⊢
    have hlA : W1.heap.size < WA.heap.size := (Array.getElem?_eq_some_iff.1 HAn.out).1
    clear hny hnv hb5 hln
    go_wp2
    refine bodyPost_ret (v := .agg #[.int .i64 a.code, .int .i64 a.kind, .int .i64 a.links, .int .i64 a.size, .string a.data, .slice adn ln capn]) (by simp [results, Tryz.results13, go_sem, g0]) rfl ?_
    unfold RefDo
    rw [HP.out]
    refine ⟨_, rfl, ⟨_, rfl, ?_⟩, RefTo.six HBA.out HTo.out hsz1 hnr HNy.out _ _ _ _ _ _⟩
    exact (HNv.out.same (fun k hk o ho => by rw [six_same w5 (by omega)]; exact ho)).mono HSA.out
  have hk10' : (kind == 10) = false := beq_eq_false_iff_ne.2 hk10
  by_cases hk11 : kind = 11
  · subst hk11
    obtain ⟨a, hx⟩ : ∃ a, t.tell ⟨11, path, dst, off, len, data⟩ = a := ⟨_, rfl⟩
    have HX := Lib.hid hx
    have HP : Hid (t.step ⟨11, path, dst, off, len, data⟩ = (t, a)) := by show _ = _; unfold Sp.Tree.step; simp only; simp [hx]
    clear hx
    go_enter Tryz.func13, Tryz.ntmps13
    go_wp2_with fail
    refine (rtell_any HRA.out HOK.out HF.out ⟨11, path, dst, off, len, data⟩ HOo.out).mono ?_
    rw [HX.out]
    rintro e w5 ⟨v5, rfl, ⟨nv, rfl, hnv⟩, hb5⟩
    have hny : w5.heap[W1.heap.size]? = some (.cells #[.int .i64 0, .int .i64 0, .int .i64 0, .int .i64 0, .string ⟨#[]⟩, .slice none 0 0] 32 (0, 0)) := heap_below hb5 _ _ HAn.out
    obtain ⟨g0, g1⟩ := ans_cells hny
    have HNy := Lib.hid hny
    have HTo : Hid (RefTo base WA D r t w5) := ⟨_, _, HRA.out.below hb5, Turn.of_below hb5⟩
    have HNv := Lib.hid hnv
    obtain ⟨adn, capn, rfl⟩ := own_shape hnv
    obtain ⟨ln, hln⟩ : ∃ ln, a.names.length = ln := ⟨_, rfl⟩
    rw [hln] at HNv ⊢
    have hlA : W1.heap.size < WA.heap.size := (Array.getElem?_eq_some_iff.1 HAn.out).1
    clear hny hnv hb5 hln
    go_wp2
    refine bodyPost_ret (v := .agg #[.int .i64 a.code, .int .i64 a.kind, .int .i64 a.links, .int .i64 a.size, .string a.data, .slice adn ln capn]) (by simp [results, Tryz.results13, go_sem, g0]) rfl ?_
    unfold RefDo
    rw [HP.out]
    refine ⟨_, rfl, ⟨_, rfl, ?_⟩, RefTo.six HBA.out HTo.out hsz1 hnr HNy.out _ _ _ _ _ _⟩
    exact (HNv.out.same (fun k hk o ho => by rw [six_same w5 (by omega)]; exact ho)).mono HSA.out
  have hk11' : (kind == 11) = false := beq_eq_false_iff_ne.2 hk11
  by_cases hk12 : kind = 12
  · subst hk12
    obtain ⟨a, hx⟩ : ∃ a, t.tell ⟨12, path, dst, off, len, data⟩ = a := ⟨_, rfl⟩
    have HX := Lib.hid hx
    have HP : Hid (t.step ⟨12, path, dst, off, len, data⟩ = (t, a)) := by show _ = _; unfold Sp.Tree.step; simp only; simp [hx]
    clear hx
    go_enter Tryz.func13, Tryz.ntmps13
    go_wp2_with fail
    refine (rtell_any HRA.out HOK.out HF.out ⟨12, path, dst, off, len, data⟩ HOo.out).mono ?_
    rw [HX.out]
    rintro e w5 ⟨v5, rfl, ⟨nv, rfl, hnv⟩, hb5⟩
    have hny : w5.heap[W1.heap.size]? = some (.cells #[.int .i64 0, .int .i64 0, .int .i64 0, .int .i64 0, .string ⟨#[]⟩, .slice none 0 0] 32 (0, 0)) := heap_below hb5 _ _ HAn.out
    obtain ⟨g0, g1⟩ := ans_cells hny
    have HNy := Lib.hid hny
    have HTo : Hid (RefTo base WA D r t w5) := ⟨_, _, HRA.out.below hb5, Turn.of_below hb5⟩
    have HNv := Lib.hid hnv
    obtain ⟨adn, capn, rfl⟩ := own_shape hnv
    obtain ⟨ln, hln⟩ : ∃ ln, a.names.length = ln := ⟨_, rfl⟩
    rw [hln] at HNv ⊢
    have hlA : W1.heap.size < WA.heap.size := (Array.getElem?_eq_some_iff.1 HAn.out).1
    clear hny hnv hb5 hln
    go_wp2
    refine bodyPost_ret (v := .agg #[.int .i64 a.code, .int .i64 a.kind, .int .i64 a.links, .int .i64 a.size, .string a.data, .slice adn ln capn]) (by simp [results, Tryz.results13, go_sem, g0]) rfl ?_
    unfold RefDo
    rw [HP.out]
    refine ⟨_, rfl, ⟨_, rfl, ?_⟩, RefTo.six HBA.out HTo.out hsz1 hnr HNy.out _ _ _ _ _ _⟩
    exact (HNv.out.same (fun k hk o ho => by rw [six_same w5 (by omega)]; exact ho)).mono HSA.out
  have hk12' : (kind == 12) = false := beq_eq_false_iff_ne.2 hk12
  have HP : Hid (t.step ⟨kind, path, dst, off, len, data⟩ = (t, { code := 3 })) := by show _ = _; unfold Sp.Tree.step; simp only; simp [hk1, hk2, hk3, hk4, hk5, hk6, hk7, hk8, hk9, hk10, hk11, hk12]
  have HTo : Hid (RefTo base WA D r t WA) := ⟨_, _, HRA.out, Turn.refl _ _⟩
  obtain ⟨g0, g1⟩ := ans_cells HAn.out
  clear hk1 hk2 hk3 hk4 hk5 hk6 hk7 hk8 hk9 hk10 hk11 hk12
  go_enter Tryz.func13, Tryz.ntmps13
  go_wp2
  refine bodyPost_ret (v := .agg #[.int .i64 3, .int .i64 0, .int .i64 0, .int .i64 0, .string ⟨#[]⟩, .slice none 0 0]) (by simp [results, Tryz.results13, go_sem, g0]) rfl ?_
  unfold RefDo
  rw [HP.out]
  exact ⟨_, rfl, ⟨_, rfl, OwnTexts.void _ _⟩, RefTo.six HBA.out HTo.out hsz1 hnr HAn.out _ _ _ _ _ _⟩
end
end Go.Proofs.YtcgpmnlondnbhaaGreatDoor

