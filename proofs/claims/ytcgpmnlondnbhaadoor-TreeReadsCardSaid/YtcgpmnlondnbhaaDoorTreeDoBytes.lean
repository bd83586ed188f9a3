/-
  The tree's walks: Do of the operations on bytes.
-/
import Derived.Test.YtcgpmnlondnbhaaDoorTreeDo
namespace Go.Proofs.YtcgpmnlondnbhaaDoor
open Go Go.RowKit Txt Sp

theorem bytes_err {t : Sp.Tree} {o : Sp.Op} {i : Nat} {c : Int} (h : t.file o.path = (i, c)) (hc : c ≠ 0) : t.bytes o = (t, ofL [], c) := by
  unfold Sp.Tree.bytes; rw [h, if_neg hc]
theorem step_bytes {t : Sp.Tree} {o : Sp.Op} (hk : o.kind = 7 ∨ o.kind = 8 ∨ o.kind = 9) : t.step o = ((t.bytes o).1, { code := (t.bytes o).2.2, data := (t.bytes o).2.1 }) := by
  unfold Sp.Tree.step
  rw [if_neg (by omega), if_neg (by omega), if_neg (by omega), if_neg (by omega), if_neg (by omega), if_neg (by omega), if_pos hk]

theorem doW_op (w : World) (k : Int) (path tt : ByteArray) (off len : Int) (data : ByteArray) (m : Option Nat) : (doW w k path tt off len data m).heap[w.heap.size]? = some (.cells #[.int .i64 k, .string path, .string tt, .int .i64 off, .int .i64 len, .string data] 32 (0, 0)) :=
  heap_below ((Below.refl _ _).alloc (Nat.le_refl _) _) _ _ (heap_below ((Below.refl _ _).alloc (Nat.le_refl _) _) _ _ (alloc_at rfl _))
theorem op_cells {w : World} {n : Nat} {k off len : Int} {path tt data : ByteArray} (h : w.heap[n]? = some (.cells #[.int .i64 k, .string path, .string tt, .int .i64 off, .int .i64 len, .string data] 32 (0, 0))) :
    ∀ j, w.cell? ⟨n, j, none⟩ = (#[Value.int .i64 k, .string path, .string tt, .int .i64 off, .int .i64 len, .string data] : Array Value)[j]? := fun j => by simp [World.cell?, h]

section
set_option maxHeartbeats 1000000


theorem do_bytes {w : World} {B : Nat} {t : Sp.Tree} {φ μ : Nat → Nat} (hR : Rep w B t φ μ) (hok : t.Ok) (o : Sp.Op) (ho : OpOk o) (hm : MaxOk w) (hk : o.kind = 7 ∨ o.kind = 8 ∨ o.kind = 9) :
    Calls Tryd.prog 13 #[ptr B, opV o] w (DoPost o w B t φ μ) := by
  have HSt := Lib.hid (step_bytes (t := t) hk)
  obtain ⟨kind, path, tt, off, len, data⟩ := o
  have HR := Lib.hid hR
  have HOK := Lib.hid hok
  have HO := Lib.hid ho
  have hp := ho.path
  simp only at hk hp
  obtain ⟨i, c, hf⟩ : ∃ i c, t.file path = (i, c) := ⟨_, _, rfl⟩
  have HF := Lib.hid hf
  have HW := Lib.hid (doW_below w kind path tt off len data none)
  have HA := Lib.hid (doW_ans w kind path tt off len data none)
  have HOp := Lib.hid (doW_op w kind path tt off len data none)
  unfold opV
  unfold ptr
  by_cases h0 : c = 0
  · subst h0
    obtain ⟨h1, h2, h3⟩ := file_ok hok hf
    have HS := Lib.hid (hok.small _ _ h3)
    have H3 := Lib.hid h3
    obtain ⟨s, g, hsg⟩ : ∃ s g, (bytesD (t.dataOf i) ⟨kind, path, tt, off, len, data⟩).2 = (s, g) := ⟨_, _, rfl⟩
    have HSG := Lib.hid hsg
    clear hR hok ho hf h1 h2 h3 hsg
    have fin : ∀ w1 w2 : World, Below w.heap.size w w1 → w1.heap[w.heap.size + 1]? = some (.cells #[.int .i64 0, .int .i64 0, .int .i64 0, .int .i64 0, .string ⟨#[]⟩, .slice none 0 0] 29 (0, 0)) →
        BytesPost (t.dataOf i) ⟨kind, path, tt, off, len, data⟩ (φ i) (t.links i) w1 (.returned (.tuple #[.string s, .int .i64 g])) w2 → w2.heap[w.heap.size + 1]? = some (.cells #[.int .i64 0, .int .i64 0, .int .i64 0, .int .i64 0, .string ⟨#[]⟩, .slice none 0 0] 29 (0, 0)) := by
      intro w1 w2 hb ha hP
      have := HR.out.lt_thing HOK.out (i := i) ⟨_, _, H3.out⟩
      exact hP.2.2.heap ha (by omega)
    have FIN := Lib.hid fin
    clear fin
    rcases hk with rfl | rfl | rfl
    all_goals
      go_enter Tryd.func13, Tryd.ntmps13
      go_wp2_with fail
      refine (file_any (HR.out.below HW.out) HOK.out path (hm.below HW.out) hp).mono ?_
      rintro e w1 ⟨rfl, hb⟩
      have HA1 := Lib.hid (heap_below hb _ _ HA.out)
      have HB1 := Lib.hid (below_next HW.out hb)
      have HO1 := Lib.hid (heap_below hb _ _ HOp.out)
      have gc := op_cells HO1.out
      have hbi := (HR.out.below HB1.out).file i _ H3.out
      rw [HF.out, thingV_ok rfl]
      unfold ptr
      clear hb
      go_wp2_with fail
      refine (bytes_any hbi HS.out ⟨_, path, tt, off, len, data⟩ HO.out).mono ?_
      rintro e w2 hP
      obtain ⟨he, hP2, hT⟩ := hP
      rw [HSG.out] at he
      subst he
      have hans := FIN.out w1 w2 HB1.out HA1.out ⟨by rw [HSG.out], hP2, hT⟩
      have HP2 := Lib.hid hP2
      have HT := Lib.hid hT
      clear gc hbi
      obtain ⟨g0, g1⟩ := ans_cells hans
      clear hP2 hT hans
      go_wp2
      refine bodyPost_ret (v := .agg #[.int .i64 g, .int .i64 0, .int .i64 0, .int .i64 0, .string s, .slice none 0 0]) (by simp [results, Tryd.results13, go_sem, g0]) rfl ?_
      unfold DoPost
      rw [HSt.out, (bytes_eq (o := ⟨_, path, tt, off, len, data⟩) HF.out HS.out).1, HSG.out]
      obtain ⟨r1, r2, r3⟩ := bytes_rep (HR.out.below HB1.out) HOK.out (o := ⟨_, path, tt, off, len, data⟩) HF.out HP2.out HT.out
      exact do_end (a := { code := g, data := s }) HR.out HOK.out (HOK.out.bytes _) HB1.out r1 (r2.mono (fun k _ h => Or.inl h)) (fun k hk => Or.inl (r3 k hk)) rfl _ _ _ _ _ _ rfl
  · have HE := Lib.hid (bytes_err (o := ⟨kind, path, tt, off, len, data⟩) hf h0)
    have hc0 : (c == 0) = false := beq_eq_false_iff_ne.2 h0
    have HV := Lib.hid (thingV_err (φ := φ) hf h0)
    clear hR hok ho hf h0
    rcases hk with rfl | rfl | rfl
    all_goals
      go_enter Tryd.func13, Tryd.ntmps13
      go_wp2_with fail
      refine (file_any (HR.out.below HW.out) HOK.out path (hm.below HW.out) hp).mono ?_
      rintro e w1 ⟨rfl, hb⟩
      have HA1 := Lib.hid (heap_below hb _ _ HA.out)
      have HB1 := Lib.hid (below_next HW.out hb)
      have HO1 := Lib.hid (heap_below hb _ _ HOp.out)
      have gc := op_cells HO1.out
      rw [HV.out, HF.out]
      clear gc hb
      obtain ⟨g0, g1⟩ := ans_cells HA1.out
      go_wp2
      refine bodyPost_ret (v := .agg #[.int .i64 c, .int .i64 0, .int .i64 0, .int .i64 0, .string ⟨#[]⟩, .slice none 0 0]) (by simp [results, Tryd.results13, go_sem, g0]) rfl ?_
      unfold DoPost
      rw [HSt.out, HE.out]
      exact do_end (a := { code := c, data := ofL [] }) HR.out HOK.out HOK.out HB1.out (HR.out.below HB1.out) (Turn.refl _ _) (fun k hk => Or.inl hk) rfl _ _ _ _ _ _ rfl
end
end Go.Proofs.YtcgpmnlondnbhaaDoor
