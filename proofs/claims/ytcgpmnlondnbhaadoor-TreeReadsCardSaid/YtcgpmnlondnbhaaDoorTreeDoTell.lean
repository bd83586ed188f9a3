/-
  The tree's walks: Do of the operations that ask; Do.
-/
import Derived.Test.YtcgpmnlondnbhaaDoorTreeDoOps
import Derived.Test.YtcgpmnlondnbhaaDoorTreeDoBytes
import Derived.Test.YtcgpmnlondnbhaaDoorSpReads
namespace Go.Proofs.YtcgpmnlondnbhaaDoor
open Go Go.RowKit Txt Sp

theorem step_tell {t : Sp.Tree} {o : Sp.Op} (hk : o.kind = 10 ∨ o.kind = 11 ∨ o.kind = 12) : t.step o = (t, t.tell o) := by
  unfold Sp.Tree.step
  rw [if_neg (by omega), if_neg (by omega), if_neg (by omega), if_neg (by omega), if_neg (by omega), if_neg (by omega), if_neg (by omega), if_pos hk]

section
set_option maxHeartbeats 1000000
theorem tell_any {w : World} {B : Nat} {t : Sp.Tree} {φ μ : Nat → Nat} (hR : Rep w B t φ μ) (hok : t.Ok) (o : Sp.Op) (ho : OpOk o) (hm : MaxOk w) (hlinks : ∀ i, t.links i ≤ 1000000) (hk : ∀ q, (t.kidsL q).length ≤ 1000000) :
    Calls Tryd.prog 32 #[ptr B, opV o] w (TellPost (t.tell o) w) := by
  by_cases h : o.kind = 11
  · exact tell_list hR hok o ho hm hk h
  · exact tell_stat hR hok o ho hm hk hlinks h

theorem do_tell {w : World} {B : Nat} {t : Sp.Tree} {φ μ : Nat → Nat} (hR : Rep w B t φ μ) (hok : t.Ok) (o : Sp.Op) (ho : OpOk o) (hm : MaxOk w) (hlinks : ∀ i, t.links i ≤ 1000000) (hkids : ∀ q, (t.kidsL q).length ≤ 1000000) (hk : o.kind = 10 ∨ o.kind = 11 ∨ o.kind = 12) :
    Calls Tryd.prog 13 #[ptr B, opV o] w (DoPost o w B t φ μ) := by
  have HSt := Lib.hid (step_tell (t := t) hk)
  obtain ⟨kind, path, tt, off, len, data⟩ := o
  have HR := Lib.hid hR
  have HOK := Lib.hid hok
  have HO := Lib.hid ho
  have HL := Lib.hid hlinks
  have HK := Lib.hid hkids
  simp only at hk
  have HW := Lib.hid (doW_below w kind path tt off len data none)
  have HA := Lib.hid (doW_ans w kind path tt off len data none)
  have HSz : Hid ((doW w kind path tt off len data none).heap.size = w.heap.size + 3) := by
    show (doW w kind path tt off len data none).heap.size = w.heap.size + 3
    simp [doW]
  obtain ⟨a, ha⟩ : ∃ a, t.tell ⟨kind, path, tt, off, len, data⟩ = a := ⟨_, rfl⟩
  have HAn := Lib.hid ha
  clear hR hok ho hlinks hkids ha
  unfold opV
  unfold ptr
  rcases hk with rfl | rfl | rfl
  all_goals
    go_enter Tryd.func13, Tryd.ntmps13
    go_wp2_with fail
    refine (tell_any (HR.out.below HW.out) HOK.out ⟨_, path, tt, off, len, data⟩ HO.out (hm.below HW.out) HL.out HK.out).mono ?_
    rw [HAn.out]
    rintro e w1 ⟨v, rfl, ⟨nv, rfl, hnv⟩, hb⟩
    obtain ⟨ad, n, cap, rfl⟩ : ∃ ad n cap, nv = .slice ad n cap := by
      obtain ⟨_, _, ⟨h, _⟩ | ⟨_, _, _, h, _⟩⟩ := hnv <;> exact ⟨_, _, _, h⟩
    have hans := heap_below hb _ _ HA.out
    have HB := Lib.hid (below_next HW.out hb)
    have HN := Lib.hid hnv
    obtain ⟨g0, g1⟩ := ans_cells hans
    clear hnv hb hans
    go_wp2
    refine bodyPost_ret (v := .agg #[.int .i64 a.code, .int .i64 a.kind, .int .i64 a.links, .int .i64 a.size, .string a.data, .slice ad n cap]) (by simp [results, Tryd.results13, go_sem, g0]) rfl ?_
    unfold DoPost
    rw [HSt.out, HAn.out]
    have hlt : ∀ k, Rep.dom B t φ μ k → k ≠ w.heap.size + 1 := fun k hk e => by have := HR.out.dom_lt HOK.out hk; omega
    have hsz := HSz.out
    refine ⟨_, φ, μ, w.heap.size + 3, rfl, ⟨_, rfl, ?_⟩, (HR.out.below HB.out).dom_same HOK.out (fun k hk o ho => by rw [six_same w1 (hlt k hk)]; exact ho), ?_, fun _ h => Or.inl h, by omega, fun k hk => by have := HR.out.dom_lt HOK.out hk; omega⟩
    · rw [← hsz]
      exact HN.out.same (fun k hk o ho => by rw [six_same w1 (by rw [hsz] at hk; omega)]; exact ho)
    · exact ((Turn.of_below (K := fun _ => False) HB.out).trans (six_turn _ _ _ _ _ _ _ _) (fun _ _ h => h.elim) (fun k hk h => by omega))

/-- Do, of any operation. -/
theorem do_any {w : World} {B : Nat} {t : Sp.Tree} {φ μ : Nat → Nat} (hR : Rep w B t φ μ) (hok : t.Ok) (o : Sp.Op) (ho : OpOk o) (hm : MaxOk w) (hfew : t.names.length ≤ 1000000) :
    Calls Tryd.prog 13 #[ptr B, opV o] w (DoPost o w B t φ μ) := by
  have hlinks : ∀ i, t.links i ≤ 1000000 := fun i => Nat.le_trans (links_few t i) hfew
  have hkids : ∀ q, (t.kidsL q).length ≤ 1000000 := fun q => Nat.le_trans (kids_few t q) hfew
  by_cases h1 : o.kind = 1
  · exact do_create hR hok o ho hm h1
  by_cases h2 : o.kind = 2
  · exact do_mkdir hR hok o ho hm h2
  by_cases h3 : o.kind = 3
  · exact do_link hR hok o ho hm hlinks h3
  by_cases h4 : o.kind = 4
  · exact do_unlink hR hok o ho hm hlinks hkids h4
  by_cases h5 : o.kind = 5
  · exact do_rmdir hR hok o ho hm hlinks hkids h5
  by_cases h6 : o.kind = 6
  · exact do_rename hR hok o ho hm hlinks hkids h6
  by_cases h7 : o.kind = 7 ∨ o.kind = 8 ∨ o.kind = 9
  · exact do_bytes hR hok o ho hm h7
  by_cases h8 : o.kind = 10 ∨ o.kind = 11 ∨ o.kind = 12
  · exact do_tell hR hok o ho hm hlinks hkids h8
  · exact do_form hR hok o (by omega)

/-- A tree that lies in blocks from the block n on, D; nothing below n has turned since w0. -/
structure Live (w0 w : World) (B : Nat) (t : Sp.Tree) (k : Nat) (D : Nat → Prop) : Prop where
  ok : t.Ok
  few : t.names.length ≤ k
  low : Below w0.heap.size w0 w
  rep : ∃ φ μ, Rep w B t φ μ ∧ (∀ j, Rep.dom B t φ μ j → D j)
  from0 : ∀ j, D j → w0.heap.size ≤ j ∧ j < w.heap.size
  max0 : MaxOk w0
theorem Live.max {w0 w : World} {B : Nat} {t : Sp.Tree} {k : Nat} {D : Nat → Prop} (h : Live w0 w B t k D) : MaxOk w := h.max0.below h.low

theorem new_live {w0 w : World} (hb : Below w0.heap.size w0 w) (hm : MaxOk w0) : Calls Tryd.prog 11 #[] w fun e w' => ∃ B D, e = .returned (ptr B) ∧ Live w0 w' B Sp.new 0 D ∧ Below w.heap.size w w' ∧ ∀ j, D j → w.heap.size ≤ j := by
  refine (new_any w).mono ?_
  rintro e w' ⟨B, φ, μ, rfl, hR, hb', hd⟩
  refine ⟨B, Rep.dom B Sp.new φ μ, rfl, ⟨new_ok, Nat.le_refl _, hb.trans (hb'.mono hb.size), ⟨φ, μ, hR, fun _ h => h⟩, fun j hj => ⟨Nat.le_trans hb.size (hd j hj), hR.dom_lt new_ok hj⟩, hm⟩, hb', hd⟩

/-- Do, of a tree that lives. -/
theorem do_live {w0 w : World} {B : Nat} {t : Sp.Tree} {k : Nat} {D : Nat → Prop} (h : Live w0 w B t k D) (o : Sp.Op) (ho : OpOk o) (hk : k ≤ 100000) :
    Calls Tryd.prog 13 #[ptr B, opV o] w fun e w' => ∃ v D' m, e = .returned v ∧ AnsO m w' v (t.step o).2 ∧ Live w0 w' B (t.step o).1 (k + 1) D' ∧ Turn D w w' ∧ (∀ j, D' j → D j ∨ w.heap.size ≤ j) ∧ w.heap.size ≤ m ∧ ∀ j, D' j → j < m := by
  obtain ⟨φ, μ, hR, hD⟩ := h.rep
  refine (do_any hR h.ok o ho h.max (Nat.le_trans h.few (by omega))).mono ?_
  rintro e w' ⟨v, φ', μ', m, rfl, hv, hR', hT, hd, hm, hlt⟩
  have hT' : Turn D w w' := hT.mono (fun j _ hj => hD j hj)
  have hlow : Below w0.heap.size w w' := hT'.below (fun j hj => (h.from0 j hj).1) h.low.size
  refine ⟨v, Rep.dom B (t.step o).1 φ' μ', m, rfl, hv, ⟨h.ok.step o, Nat.le_trans (step_length t o) (by have := h.few; omega), h.low.trans hlow, ⟨φ', μ', hR', fun _ hj => hj⟩, fun j hj => ⟨?_, hR'.dom_lt (h.ok.step o) hj⟩, h.max0⟩, hT', fun j hj => (hd j hj).imp_left (hD j), hm, hlt⟩
  rcases hd j hj with hj | hj
  · exact (h.from0 j (hD j hj)).1
  · exact Nat.le_trans h.low.size hj
end
end Go.Proofs.YtcgpmnlondnbhaaDoor
