/-
  The tree's walks: tell, but of lists.
-/
import Derived.Test.YtcgpmnlondnbhaaDoorTreeBack
import Derived.Test.YtcgpmnlondnbhaaDoorOwn
namespace Go.Proofs.YtcgpmnlondnbhaaDoor
open Go Go.RowKit Txt Sp

/-- An answer as the program holds it. -/
def AnsV (w : World) (v : Value) (a : Sp.Ans) : Prop :=
  ∃ nv, v = .agg #[.int .i64 a.code, .int .i64 a.kind, .int .i64 a.links, .int .i64 a.size, .string a.data, nv] ∧ Texts w nv a.names
/-- Likewise, the names in a block of their own, from the block n on. -/
def AnsO (n : Nat) (w : World) (v : Value) (a : Sp.Ans) : Prop :=
  ∃ nv, v = .agg #[.int .i64 a.code, .int .i64 a.kind, .int .i64 a.links, .int .i64 a.size, .string a.data, nv] ∧ OwnTexts n w nv a.names
theorem AnsO.ans {n : Nat} {w : World} {v : Value} {a : Sp.Ans} (h : AnsO n w v a) : AnsV w v a := let ⟨nv, h1, h2⟩ := h; ⟨nv, h1, h2.texts⟩
theorem AnsV.below {w w' : World} {v : Value} {a : Sp.Ans} (h : AnsV w v a) (hb : Below w.heap.size w w') : AnsV w' v a := let ⟨nv, h1, h2⟩ := h; ⟨nv, h1, h2.below hb⟩
theorem AnsO.bare (n : Nat) (w : World) (a : Sp.Ans) (h : a.names = []) : AnsO n w (.agg #[.int .i64 a.code, .int .i64 a.kind, .int .i64 a.links, .int .i64 a.size, .string a.data, .slice none 0 0]) a :=
  ⟨_, rfl, by rw [h]; exact OwnTexts.void n w⟩

section
set_option maxHeartbeats 1000000
def TellPost (a : Sp.Ans) (w : World) (e : Ending) (w' : World) : Prop := ∃ v, e = .returned v ∧ AnsO w.heap.size w' v a ∧ Below w.heap.size w w'

theorem below_six {m n : Nat} {w w' : World} (h : Below m w w') (hn : m ≤ n) (a b c d e f : Value) :
    Below m w ((((((w'.setCell ⟨n, 0, none⟩ a).setCell ⟨n, 1, none⟩ b).setCell ⟨n, 2, none⟩ c).setCell ⟨n, 3, none⟩ d).setCell ⟨n, 4, none⟩ e).setCell ⟨n, 5, none⟩ f) :=
  (((((h.setCell hn a).setCell hn b).setCell hn c).setCell hn d).setCell hn e).setCell hn f

theorem tell_stat {w : World} {B : Nat} {t : Sp.Tree} {φ μ : Nat → Nat} (hR : Rep w B t φ μ) (hok : t.Ok) (o : Sp.Op) (ho : OpOk o) (hm : MaxOk w) (hk : ∀ q, (t.kidsL q).length ≤ 1000000) (hlinks : ∀ i, t.links i ≤ 1000000) (hl : o.kind ≠ 11) :
    Calls Tryd.prog 32 #[ptr B, opV o] w (TellPost (t.tell o) w) := by
  have m1 := fun (r : Option Nat) (w : World) => run_eql_map_nil (P := Tryd.prog) w 64 _ _ r ht_map
  have m2 := fun (r : Option Nat) (w : World) => run_neq_map_nil (P := Tryd.prog) w 64 _ _ r ht_map
  obtain ⟨kind, path, tt, off, len, data⟩ := o
  have HR := Lib.hid hR
  have HOK := Lib.hid hok
  have HK := Lib.hid hk
  have HLk := Lib.hid hlinks
  have HO := Lib.hid ho
  have hp := ho.path
  simp only at hp hl
  obtain ⟨i, c, hat⟩ : ∃ i c, t.at path = (i, c) := ⟨_, _, rfl⟩
  have HAT := Lib.hid hat
  have HBA1 := (Below.refl w.heap.size w).alloc (Nat.le_refl _) (.cells #[.int .i64 kind, .string path, .string tt, .int .i64 off, .int .i64 len, .string data] 32)
  have HBA := HBA1.alloc HBA1.size (.cells #[.int .i64 0, .int .i64 0, .int .i64 0, .int .i64 0, .string ⟨#[]⟩, .slice none 0 0] 29)
  clear HBA1
  clear hR hok hat hk ho hlinks
  unfold opV
  simp only
  by_cases h0 : c = 0
  · subst h0
    have HI : Hid (t.idOf (full path) = some i) := by
      have h := (at_ok t (path := path) (by rw [HAT.out])).2.2
      rw [HAT.out] at h
      exact h
    by_cases hk10 : kind = 10
    · subst hk10
      cases hd : t.isDir i with
      | true =>
        have HM : Hid (t.tell ⟨10, path, tt, off, len, data⟩ = { kind := 2, links := 1, size := (t.kidsL (full path)).length }) := by
          show t.tell ⟨10, path, tt, off, len, data⟩ = _
          unfold Sp.Tree.tell; rw [HAT.out]; simp [hd]
        have HD := Lib.hid hd
        clear hd
        have HRA := Lib.hid (HR.out.below HBA)
        have hmA := hm.below HBA
        have HBA' := Lib.hid HBA
        clear HBA
        go_enter Tryd.func32, Tryd.ntmps32
        go_wp2_with fail
        refine (tat_any HRA.out HOK.out path hmA hp).mono ?_
        rintro e w1 ⟨rfl, hb⟩
        rw [HAT.out, thingV_ok rfl]
        unfold ptr
        obtain ⟨gc, gf⟩ := bcell hb
        have hz : w.heap.size + 1 < w1.heap.size := by have := hb.size; simp at this; omega
        have HB := Lib.hid (below_next HBA'.out hb)
        have HR1 := Lib.hid (HR.out.below HB.out)
        clear hb
        have c2 := HR1.out.dirCell HI.out HD.out
        obtain ⟨_, lj, hlj, _⟩ := HR1.out.dir i _ HI.out HD.out
        have HLen := Lib.hid (HR1.out.len HOK.out HI.out HD.out hlj)
        have hlen := run_len_ptr (P := Tryd.prog) (ty := 3) len0 hlj
        obtain ⟨n, hn⟩ : ∃ n, lj.length = n := ⟨_, rfl⟩
        have HN := Lib.hid hn
        have hnb : n ≤ 1000000 := by rw [← hn, HLen.out]; exact HK.out _
        rw [hn] at hlen
        clear hn hlj
        go_wp2
        refine bodyPost_ret (v := .agg #[.int .i64 0, .int .i64 2, .int .i64 1, .int .i64 (n : Int), .string ⟨#[]⟩, .slice none 0 0]) (by simp [results, Tryd.results32, go_sem, gc]) rfl ?_
        rw [HM.out, ← HLen.out, HN.out]
        exact ⟨_, rfl, ⟨_, rfl, OwnTexts.void _ _⟩, below_six HB.out (Nat.le_succ _) _ _ _ _ _ _⟩
      | false =>
        have HM : Hid (t.tell ⟨10, path, tt, off, len, data⟩ = { kind := 1, links := t.links i, size := (t.dataOf i).size }) := by
          show t.tell ⟨10, path, tt, off, len, data⟩ = _
          unfold Sp.Tree.tell; rw [HAT.out]; simp [hd]
        have HD := Lib.hid hd
        clear hd
        have hth := there_idOf HOK.out HI.out
        rw [HD.out] at hth
        have HTh := Lib.hid hth
        have hsm := HOK.out.small _ _ hth
        clear hth
        obtain ⟨d, hdd⟩ : ∃ d, t.dataOf i = d := ⟨_, rfl⟩
        have HDD := Lib.hid hdd
        rw [hdd] at hsm
        obtain ⟨n, hn⟩ : ∃ n, t.links i = n := ⟨_, rfl⟩
        have HN := Lib.hid hn
        have hn1 : n ≤ 1000000 := by rw [← hn]; exact HLk.out i
        clear hdd hn
        have HRA := Lib.hid (HR.out.below HBA)
        have hmA := hm.below HBA
        have HBA' := Lib.hid HBA
        clear HBA
        go_enter Tryd.func32, Tryd.ntmps32
        go_wp2_with fail
        refine (tat_any HRA.out HOK.out path hmA hp).mono ?_
        rintro e w1 ⟨rfl, hb⟩
        rw [HAT.out, thingV_ok rfl]
        unfold ptr
        obtain ⟨gc, gf⟩ := bcell hb
        have hz : w.heap.size + 1 < w1.heap.size := by have := hb.size; simp at this; omega
        have HB := Lib.hid (below_next HBA'.out hb)
        have HR1 := Lib.hid (HR.out.below HB.out)
        clear hb
        have hob := HR1.out.file i _ HTh.out
        rw [HDD.out, HN.out] at hob
        have c0 : w1.cell? ⟨φ i, 0, none⟩ = some (.string d) := cell_of_heap hob rfl
        have c1 : w1.cell? ⟨φ i, 1, none⟩ = some (.int .i64 (n : Int)) := cell_of_heap hob rfl
        have c2 : w1.cell? ⟨φ i, 2, none⟩ = some (.map none) := cell_of_heap hob rfl
        clear hob
        go_wp2
        go_region
        go_wp2
        refine bodyPost_ret (v := .agg #[.int .i64 0, .int .i64 1, .int .i64 (n : Int), .int .i64 (d.size : Int), .string ⟨#[]⟩, .slice none 0 0]) (by simp [results, Tryd.results32, go_sem, gc]) rfl ?_
        rw [HM.out, HDD.out, HN.out]
        exact ⟨_, rfl, ⟨_, rfl, OwnTexts.void _ _⟩, (below_six HB.out (Nat.le_succ _) _ _ _ _ _ _).drew⟩
    · have HM : Hid (t.tell ⟨kind, path, tt, off, len, data⟩ = {}) := by
        show t.tell ⟨kind, path, tt, off, len, data⟩ = _
        unfold Sp.Tree.tell; rw [HAT.out]; simp only; rw [if_pos trivial, if_neg hk10, if_neg hl]
      have hk10' : (kind == 10) = false := beq_eq_false_iff_ne.2 hk10
      have hk11' : (kind == 11) = false := beq_eq_false_iff_ne.2 hl
      clear hk10 hl
      have HRA := Lib.hid (HR.out.below HBA)
      have hmA := hm.below HBA
      have HBA' := Lib.hid HBA
      clear HBA
      go_enter Tryd.func32, Tryd.ntmps32
      go_wp2_with fail
      refine (tat_any HRA.out HOK.out path hmA hp).mono ?_
      rintro e w1 ⟨rfl, hb⟩
      rw [HAT.out, thingV_ok rfl]
      unfold ptr
      obtain ⟨gc, gf⟩ := bcell hb
      have hz : w.heap.size + 1 < w1.heap.size := by have := hb.size; simp at this; omega
      have HB := Lib.hid (below_next HBA'.out hb)
      have HR1 := Lib.hid (HR.out.below HB.out)
      clear hb
      go_wp2
      refine bodyPost_ret (v := .agg #[.int .i64 0, .int .i64 0, .int .i64 0, .int .i64 0, .string ⟨#[]⟩, .slice none 0 0]) (by simp [results, Tryd.results32, go_sem, gc]) rfl ?_
      rw [HM.out]
      exact ⟨_, rfl, ⟨_, rfl, OwnTexts.void _ _⟩, below_six HB.out (Nat.le_succ _) _ _ _ _ _ _⟩
  · have HM : Hid (t.tell ⟨kind, path, tt, off, len, data⟩ = { code := c }) := by show t.tell ⟨kind, path, tt, off, len, data⟩ = _; unfold Sp.Tree.tell; rw [HAT.out, if_neg h0]
    have hc0 : (c == 0) = false := beq_eq_false_iff_ne.2 h0
    have HV := Lib.hid (thingV_err (φ := φ) HAT.out h0)
    clear h0
    have HRA := Lib.hid (HR.out.below HBA)
    have hmA := hm.below HBA
    have HBA' := Lib.hid HBA
    clear HBA
    go_enter Tryd.func32, Tryd.ntmps32
    go_wp2_with fail
    refine (tat_any HRA.out HOK.out path hmA hp).mono ?_
    rintro e w1 ⟨rfl, hb⟩
    rw [HV.out, HAT.out]
    obtain ⟨gc, gf⟩ := bcell hb
    have hz : w.heap.size + 1 < w1.heap.size := by have := hb.size; simp at this; omega
    have HB := Lib.hid (below_next HBA'.out hb)
    clear hb
    go_wp2
    refine bodyPost_ret (v := .agg #[.int .i64 c, .int .i64 0, .int .i64 0, .int .i64 0, .string ⟨#[]⟩, .slice none 0 0]) (by simp [results, Tryd.results32, go_sem, gc]) rfl ?_
    rw [HM.out]
    exact ⟨_, rfl, ⟨_, rfl, OwnTexts.void _ _⟩, below_six HB.out (Nat.le_succ _) _ _ _ _ _ _⟩
end
end Go.Proofs.YtcgpmnlondnbhaaDoor
