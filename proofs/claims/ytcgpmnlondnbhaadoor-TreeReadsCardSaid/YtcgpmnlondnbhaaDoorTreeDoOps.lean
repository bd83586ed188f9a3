/-
  The tree's walks: Do of the operations that turn names.
-/
import Derived.Test.YtcgpmnlondnbhaaDoorTreeDo
import Derived.Test.YtcgpmnlondnbhaaDoorTreeRename
namespace Go.Proofs.YtcgpmnlondnbhaaDoor
open Go Go.RowKit Txt Sp

section
set_option maxHeartbeats 1000000


theorem do_create {w : World} {B : Nat} {t : Sp.Tree} {φ μ : Nat → Nat} (hR : Rep w B t φ μ) (hok : t.Ok) (o : Sp.Op) (ho : OpOk o) (hm : MaxOk w) (hk : o.kind = 1) :
    Calls Tryd.prog 13 #[ptr B, opV o] w (DoPost o w B t φ μ) := by
  obtain ⟨kind, path, tt, off, len, data⟩ := o
  have HR := Lib.hid hR
  have HOK := Lib.hid hok
  have hp := ho.path
  simp only at hk hp
  subst hk
  clear hR hok ho
  unfold opV
  unfold ptr
  go_enter Tryd.func13, Tryd.ntmps13
  go_wp2_with fail
  have HW := Lib.hid (doW_below w 1 path tt off len data none)
  have hcr := create_any (HR.out.below HW.out) HOK.out path (hm.below HW.out) hp false (b := w.heap.size + 1 + 1) (mb := w.heap.size + 1 + 1) (doW_thing w 1 path tt off len data none) (fun j hj e => by have := HR.out.lt_thing HOK.out hj; omega) (fun j hj hd e => by have := HR.out.lt_map HOK.out hj hd; omega) (fun h => by cases h)
  refine hcr.mono ?_
  rintro e w1 ⟨rfl, φ', μ', hR1, hT, hdom⟩
  have hans := hT.heap (doW_ans w 1 path tt off len data none) (by
    rintro (h | h)
    · have := HR.out.dom_lt HOK.out h; omega
    · omega)
  obtain ⟨c, hc⟩ : ∃ c, (t.make path false).2 = c := ⟨_, rfl⟩
  rw [hc]
  clear hcr
  have HC := Lib.hid hc
  have HA := Lib.hid hans
  have HR1 := Lib.hid hR1
  have HT := Lib.hid hT
  have HD := Lib.hid hdom
  obtain ⟨g0, g1⟩ := ans_cells hans
  clear hc hans hR1 hT hdom
  go_wp2
  refine bodyPost_ret (v := .agg #[.int .i64 c, .int .i64 0, .int .i64 0, .int .i64 0, .string ⟨#[]⟩, .slice none 0 0]) (by simp [results, Tryd.results13, go_sem, g0]) rfl ?_
  have hS : t.step ⟨1, path, tt, off, len, data⟩ = ((t.make path false).1, { code := c }) := by rw [← HC.out]; rfl
  unfold DoPost
  rw [hS]
  exact do_end (a := { code := c }) HR.out HOK.out (HOK.out.make path false) HW.out HR1.out (HT.out.mono (fun k _ h => h.imp_right (fun e => by omega))) (fun k hk => by
    rcases HD.out k hk with h | h | ⟨h, _⟩
    · exact Or.inl h
    · exact Or.inr (by omega)
    · cases h) rfl _ _ _ _ _ _ rfl

theorem do_mkdir {w : World} {B : Nat} {t : Sp.Tree} {φ μ : Nat → Nat} (hR : Rep w B t φ μ) (hok : t.Ok) (o : Sp.Op) (ho : OpOk o) (hm : MaxOk w) (hk : o.kind = 2) :
    Calls Tryd.prog 13 #[ptr B, opV o] w (DoPost o w B t φ μ) := by
  obtain ⟨kind, path, tt, off, len, data⟩ := o
  have HR := Lib.hid hR
  have HOK := Lib.hid hok
  have hp := ho.path
  have hmm := @run_makeMap Tryd.prog
  simp only at hk hp
  subst hk
  clear hR hok ho
  unfold opV
  unfold ptr
  go_enter Tryd.func13, Tryd.ntmps13
  go_wp2_with fail
  obtain ⟨W, hW⟩ : ∃ W, (doW w 2 path tt off len data (some (w.heap.size + 1 + 1 + 1))).alloc (.map #[] 0) = W := ⟨_, rfl⟩
  have HB0 := doW_below w 2 path tt off len data (some (w.heap.size + 1 + 1 + 1))
  have HW : Hid (Below w.heap.size w W) := by
    show Below w.heap.size w W
    rw [← hW]
    exact HB0.alloc HB0.size _
  have hth : W.heap[w.heap.size + 1 + 1]? = some (thingO (ofL []) 0 (some (w.heap.size + 1 + 1 + 1))) := by
    rw [← hW]
    exact heap_below ((Below.refl _ _).alloc (Nat.le_refl _) _) _ _ (doW_thing w 2 path tt off len data _)
  have hmp : MapAt W (w.heap.size + 1 + 1 + 1) [] := by
    refine ⟨_, ?_, IsMap.new⟩
    rw [← hW]
    exact alloc_at (by simp [doW]) _
  have hans0 : W.heap[w.heap.size + 1]? = some (.cells #[.int .i64 0, .int .i64 0, .int .i64 0, .int .i64 0, .string ⟨#[]⟩, .slice none 0 0] 29 (0, 0)) := by
    rw [← hW]
    exact heap_below ((Below.refl _ _).alloc (Nat.le_refl _) _) _ _ (doW_ans w 2 path tt off len data _)
  have hcr := create_any (HR.out.below HW.out) HOK.out path (hm.below HW.out) hp true (b := w.heap.size + 1 + 1) (mb := w.heap.size + 1 + 1 + 1) hth (fun j hj e => by have := HR.out.lt_thing HOK.out hj; omega) (fun j hj hd e => by have := HR.out.lt_map HOK.out hj hd; omega) (fun _ => hmp)
  rw [← hW] at hcr
  refine hcr.mono ?_
  rw [hW]
  clear hcr
  rintro e w1 ⟨rfl, φ', μ', hR1, hT, hdom⟩
  have hans := hT.heap hans0 (by
    rintro (h | h)
    · have := HR.out.dom_lt HOK.out h; omega
    · omega)
  obtain ⟨c, hc⟩ : ∃ c, (t.make path true).2 = c := ⟨_, rfl⟩
  rw [hc]
  clear hth hmp hans0 HB0 hW
  have HC := Lib.hid hc
  have HA := Lib.hid hans
  have HR1 := Lib.hid hR1
  have HT := Lib.hid hT
  have HD := Lib.hid hdom
  obtain ⟨g0, g1⟩ := ans_cells hans
  clear hc hans hR1 hT hdom
  go_wp2
  refine bodyPost_ret (v := .agg #[.int .i64 c, .int .i64 0, .int .i64 0, .int .i64 0, .string ⟨#[]⟩, .slice none 0 0]) (by simp [results, Tryd.results13, go_sem, g0]) rfl ?_
  have hS : t.step ⟨2, path, tt, off, len, data⟩ = ((t.make path true).1, { code := c }) := by rw [← HC.out]; rfl
  unfold DoPost
  rw [hS]
  exact do_end (a := { code := c }) HR.out HOK.out (HOK.out.make path true) HW.out HR1.out (HT.out.mono (fun k _ h => h.imp_right (fun e => by omega))) (fun k hk => by
    rcases HD.out k hk with h | h | ⟨_, h⟩
    · exact Or.inl h
    · exact Or.inr (by omega)
    · exact Or.inr (by omega)) rfl _ _ _ _ _ _ rfl

theorem do_link {w : World} {B : Nat} {t : Sp.Tree} {φ μ : Nat → Nat} (hR : Rep w B t φ μ) (hok : t.Ok) (o : Sp.Op) (ho : OpOk o) (hm : MaxOk w) (hlinks : ∀ i, t.links i ≤ 1000000) (hk : o.kind = 3) :
    Calls Tryd.prog 13 #[ptr B, opV o] w (DoPost o w B t φ μ) := by
  obtain ⟨kind, path, tt, off, len, data⟩ := o
  have HR := Lib.hid hR
  have HOK := Lib.hid hok
  have HL := Lib.hid hlinks
  have hp := ho.path
  have hp2 := ho.dest
  simp only at hk hp hp2
  subst hk
  clear hR hok ho hlinks
  unfold opV
  unfold ptr
  go_enter Tryd.func13, Tryd.ntmps13
  go_wp2_with fail
  have HW := Lib.hid (doW_below w 3 path tt off len data none)
  refine (link_any (HR.out.below HW.out) HOK.out path tt (hm.below HW.out) hp hp2 HL.out).mono ?_
  rintro e w1 ⟨rfl, hR1, hT, hdom⟩
  have hans := hT.heap (doW_ans w 3 path tt off len data none) (fun h => by have := HR.out.dom_lt HOK.out h; omega)
  obtain ⟨c, hc⟩ : ∃ c, (t.link path tt).2 = c := ⟨_, rfl⟩
  rw [hc]
  have HC := Lib.hid hc
  have HA := Lib.hid hans
  have HR1 := Lib.hid hR1
  have HT := Lib.hid hT
  have HD := Lib.hid hdom
  obtain ⟨g0, g1⟩ := ans_cells hans
  clear hc hans hR1 hT hdom
  go_wp2
  refine bodyPost_ret (v := .agg #[.int .i64 c, .int .i64 0, .int .i64 0, .int .i64 0, .string ⟨#[]⟩, .slice none 0 0]) (by simp [results, Tryd.results13, go_sem, g0]) rfl ?_
  have hS : t.step ⟨3, path, tt, off, len, data⟩ = ((t.link path tt).1, { code := c }) := by rw [← HC.out]; rfl
  unfold DoPost
  rw [hS]
  exact do_end (a := { code := c }) HR.out HOK.out (HOK.out.link path tt) HW.out HR1.out (HT.out.mono (fun k _ h => Or.inl h)) (fun k hk => Or.inl (HD.out k hk)) rfl _ _ _ _ _ _ rfl

theorem do_unlink {w : World} {B : Nat} {t : Sp.Tree} {φ μ : Nat → Nat} (hR : Rep w B t φ μ) (hok : t.Ok) (o : Sp.Op) (ho : OpOk o) (hm : MaxOk w) (hlinks : ∀ i, t.links i ≤ 1000000) (hkids : ∀ q, (t.kidsL q).length ≤ 1000000) (hk : o.kind = 4) :
    Calls Tryd.prog 13 #[ptr B, opV o] w (DoPost o w B t φ μ) := by
  obtain ⟨kind, path, tt, off, len, data⟩ := o
  have HR := Lib.hid hR
  have HOK := Lib.hid hok
  have HL := Lib.hid hlinks
  have HK := Lib.hid hkids
  have hp := ho.path
  simp only at hk hp
  subst hk
  clear hR hok ho hlinks hkids
  unfold opV
  unfold ptr
  go_enter Tryd.func13, Tryd.ntmps13
  go_wp2_with fail
  have HW := Lib.hid (doW_below w 4 path tt off len data none)
  refine (remove_any (HR.out.below HW.out) HOK.out path (hm.below HW.out) hp false HL.out HK.out).mono ?_
  rintro e w1 ⟨rfl, hR1, hT, hdom⟩
  have hans := hT.heap (doW_ans w 4 path tt off len data none) (fun h => by have := HR.out.dom_lt HOK.out h; omega)
  obtain ⟨c, hc⟩ : ∃ c, (t.remove path false).2 = c := ⟨_, rfl⟩
  rw [hc]
  have HC := Lib.hid hc
  have HA := Lib.hid hans
  have HR1 := Lib.hid hR1
  have HT := Lib.hid hT
  have HD := Lib.hid hdom
  obtain ⟨g0, g1⟩ := ans_cells hans
  clear hc hans hR1 hT hdom
  go_wp2
  refine bodyPost_ret (v := .agg #[.int .i64 c, .int .i64 0, .int .i64 0, .int .i64 0, .string ⟨#[]⟩, .slice none 0 0]) (by simp [results, Tryd.results13, go_sem, g0]) rfl ?_
  have hS : t.step ⟨4, path, tt, off, len, data⟩ = ((t.remove path false).1, { code := c }) := by rw [← HC.out]; rfl
  unfold DoPost
  rw [hS]
  exact do_end (a := { code := c }) HR.out HOK.out (HOK.out.remove path false) HW.out HR1.out (HT.out.mono (fun k _ h => Or.inl h)) (fun k hk => Or.inl (HD.out k hk)) rfl _ _ _ _ _ _ rfl

theorem do_rmdir {w : World} {B : Nat} {t : Sp.Tree} {φ μ : Nat → Nat} (hR : Rep w B t φ μ) (hok : t.Ok) (o : Sp.Op) (ho : OpOk o) (hm : MaxOk w) (hlinks : ∀ i, t.links i ≤ 1000000) (hkids : ∀ q, (t.kidsL q).length ≤ 1000000) (hk : o.kind = 5) :
    Calls Tryd.prog 13 #[ptr B, opV o] w (DoPost o w B t φ μ) := by
  obtain ⟨kind, path, tt, off, len, data⟩ := o
  have HR := Lib.hid hR
  have HOK := Lib.hid hok
  have HL := Lib.hid hlinks
  have HK := Lib.hid hkids
  have hp := ho.path
  simp only at hk hp
  subst hk
  clear hR hok ho hlinks hkids
  unfold opV
  unfold ptr
  go_enter Tryd.func13, Tryd.ntmps13
  go_wp2_with fail
  have HW := Lib.hid (doW_below w 5 path tt off len data none)
  refine (remove_any (HR.out.below HW.out) HOK.out path (hm.below HW.out) hp true HL.out HK.out).mono ?_
  rintro e w1 ⟨rfl, hR1, hT, hdom⟩
  have hans := hT.heap (doW_ans w 5 path tt off len data none) (fun h => by have := HR.out.dom_lt HOK.out h; omega)
  obtain ⟨c, hc⟩ : ∃ c, (t.remove path true).2 = c := ⟨_, rfl⟩
  rw [hc]
  have HC := Lib.hid hc
  have HA := Lib.hid hans
  have HR1 := Lib.hid hR1
  have HT := Lib.hid hT
  have HD := Lib.hid hdom
  obtain ⟨g0, g1⟩ := ans_cells hans
  clear hc hans hR1 hT hdom
  go_wp2
  refine bodyPost_ret (v := .agg #[.int .i64 c, .int .i64 0, .int .i64 0, .int .i64 0, .string ⟨#[]⟩, .slice none 0 0]) (by simp [results, Tryd.results13, go_sem, g0]) rfl ?_
  have hS : t.step ⟨5, path, tt, off, len, data⟩ = ((t.remove path true).1, { code := c }) := by rw [← HC.out]; rfl
  unfold DoPost
  rw [hS]
  exact do_end (a := { code := c }) HR.out HOK.out (HOK.out.remove path true) HW.out HR1.out (HT.out.mono (fun k _ h => Or.inl h)) (fun k hk => Or.inl (HD.out k hk)) rfl _ _ _ _ _ _ rfl

theorem do_rename {w : World} {B : Nat} {t : Sp.Tree} {φ μ : Nat → Nat} (hR : Rep w B t φ μ) (hok : t.Ok) (o : Sp.Op) (ho : OpOk o) (hm : MaxOk w) (hlinks : ∀ i, t.links i ≤ 1000000) (hkids : ∀ q, (t.kidsL q).length ≤ 1000000) (hk : o.kind = 6) :
    Calls Tryd.prog 13 #[ptr B, opV o] w (DoPost o w B t φ μ) := by
  obtain ⟨kind, path, tt, off, len, data⟩ := o
  have HR := Lib.hid hR
  have HOK := Lib.hid hok
  have HL := Lib.hid hlinks
  have HK := Lib.hid hkids
  have hp := ho.path
  have hp2 := ho.dest
  simp only at hk hp hp2
  subst hk
  clear hR hok ho hlinks hkids
  unfold opV
  unfold ptr
  go_enter Tryd.func13, Tryd.ntmps13
  go_wp2_with fail
  have HW := Lib.hid (doW_below w 6 path tt off len data none)
  refine (rename_any (HR.out.below HW.out) HOK.out path tt (hm.below HW.out) hp hp2 HL.out HK.out).mono ?_
  rintro e w1 ⟨rfl, hR1, hT, hdom⟩
  have hans := hT.heap (doW_ans w 6 path tt off len data none) (fun h => by have := HR.out.dom_lt HOK.out h; omega)
  obtain ⟨c, hc⟩ : ∃ c, (t.rename path tt).2 = c := ⟨_, rfl⟩
  rw [hc]
  have HC := Lib.hid hc
  have HA := Lib.hid hans
  have HR1 := Lib.hid hR1
  have HT := Lib.hid hT
  have HD := Lib.hid hdom
  obtain ⟨g0, g1⟩ := ans_cells hans
  clear hc hans hR1 hT hdom
  go_wp2
  refine bodyPost_ret (v := .agg #[.int .i64 c, .int .i64 0, .int .i64 0, .int .i64 0, .string ⟨#[]⟩, .slice none 0 0]) (by simp [results, Tryd.results13, go_sem, g0]) rfl ?_
  have hS : t.step ⟨6, path, tt, off, len, data⟩ = ((t.rename path tt).1, { code := c }) := by rw [← HC.out]; rfl
  unfold DoPost
  rw [hS]
  exact do_end (a := { code := c }) HR.out HOK.out (HOK.out.rename path tt) HW.out HR1.out (HT.out.mono (fun k _ h => Or.inl h)) (fun k hk => Or.inl (HD.out k hk)) rfl _ _ _ _ _ _ rfl
end
end Go.Proofs.YtcgpmnlondnbhaaDoor
