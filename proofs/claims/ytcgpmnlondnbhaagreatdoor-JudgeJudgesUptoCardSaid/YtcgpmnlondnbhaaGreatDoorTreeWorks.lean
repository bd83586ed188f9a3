/-
  The chapter's example of layer 10; a tree behind operations.
-/
import Derived.Test.YtcgpmnlondnbhaaGreatDoorTreeC
import Derived.Test.YtcgpmnlondnbhaaGreatDoorOpens
namespace Go.Proofs.YtcgpmnlondnbhaaGreatDoor
open Go Go.RowKit Txt Sp

/-- Do, where it is known what is answered. -/
theorem do_known {w0 w : World} {B : Nat} {t t' : Sp.Tree} {k : Nat} {D : Nat → Prop} {o : Sp.Op} {c c1 c2 c3 : Int} {d : ByteArray} {names : List ByteArray} (hs : t.step o = (t', ⟨c, c1, c2, c3, d, names⟩)) (h : Live w0 w B t k D) (ho : OpOk o) (hk : k ≤ 100000) :
    Calls Tryz.prog 12 #[ptr B, opV o] w fun e w' => ∃ ad cap D', e = .returned (.agg #[.int .i64 c, .int .i64 c1, .int .i64 c2, .int .i64 c3, .string d, .slice ad names.length cap]) ∧
      Texts w' (.slice ad names.length cap) names ∧ Live w0 w' B t' (k + 1) D' ∧ Turn D w w' ∧ ∀ j, D' j → D j ∨ w.heap.size ≤ j := by
  refine (do_live h o ho hk).mono ?_
  rintro e w' ⟨v, D', m, rfl, hv, hl, hT, hd, _, _⟩
  rw [hs] at hv hl
  obtain ⟨nv, rfl, h2⟩ := hv
  obtain ⟨ad, cap, rfl, _⟩ := h2.texts
  exact ⟨ad, cap, D', rfl, h2.texts, hl, hT, hd⟩

theorem Live.lift {w0 w w' : World} {B : Nat} {t : Sp.Tree} {k k' : Nat} {D : Nat → Prop} (h : Live w w' B t k D) (hb : Below w0.heap.size w0 w) (hm : MaxOk w0) (hk : k ≤ k') : Live w0 w' B t k' D :=
  ⟨h.ok, Nat.le_trans h.few hk, hb.trans (h.low.mono hb.size), h.rep, fun j hj => ⟨Nat.le_trans hb.size (h.from0 j hj).1, (h.from0 j hj).2⟩, hm⟩

theorem Live.below {w0 w w' : World} {B : Nat} {t : Sp.Tree} {k : Nat} {D : Nat → Prop} (h : Live w0 w B t k D) (hb : Below w.heap.size w w') : Live w0 w' B t k D :=
  let ⟨φ, μ, hR, hD⟩ := h.rep
  ⟨h.ok, h.few, h.low.trans (hb.mono h.low.size), ⟨φ, μ, hR.below hb, hD⟩, fun j hj => ⟨(h.from0 j hj).1, Nat.lt_of_lt_of_le (h.from0 j hj).2 hb.size⟩, h.max0⟩

/-- A block that is none of the tree's. -/
def Apart (D : Nat → Prop) (w : World) (n : Nat) (o : Obj) : Prop := w.heap[n]? = some o ∧ ¬ D n
theorem Apart.turn {D D' : Nat → Prop} {w w' : World} {n : Nat} {o : Obj} (h : Apart D w n o) (hT : Turn D w w') (hd : ∀ j, D' j → D j ∨ w.heap.size ≤ j) : Apart D' w' n o :=
  ⟨hT.heap h.1 h.2, fun hn => (hd n hn).elim h.2 (fun hle => by have := (Array.getElem?_eq_some_iff.1 h.1).1; omega)⟩
theorem Apart.below {D : Nat → Prop} {w w' : World} {n : Nat} {o : Obj} (h : Apart D w n o) (hb : Below w.heap.size w w') : Apart D w' n o := ⟨heap_below hb _ _ h.1, h.2⟩
theorem Live.apart {w0 w : World} {B : Nat} {t : Sp.Tree} {k : Nat} {D : Nat → Prop} (h : Live w0 w B t k D) {n : Nat} (hn : w.heap.size ≤ n) {w' : World} {o : Obj} (ho : w'.heap[n]? = some o) : Apart D w' n o :=
  ⟨ho, fun hj => by have := (h.from0 n hj).2; omega⟩

/-- Two trees' pointers against nil. -/
theorem eql_tree_nil (w : World) (a : Addr) : (binOp .eql 23 (.pointer (some a)) (.pointer none)).run Tryz.prog w = .ok (.bool false) w := by
  have hp : Tryz.prog.underlying 23 = some (.pointer 59) := by kernel_rfl
  have h : ∀ d : Nat, (Op.equalIn (d + 1) 23 (.pointer (some a)) (.pointer none)).run Tryz.prog w = .ok false w := fun d => by
    simp [Op.equalIn, run_underlying hp]
  simp only [binOp]
  simp [Op.equal, Op.maxDepth, h 9999]
theorem neq_tree_nil (w : World) (a : Addr) : (binOp .neq 23 (.pointer (some a)) (.pointer none)).run Tryz.prog w = .ok (.bool true) w := by
  have hp : Tryz.prog.underlying 23 = some (.pointer 59) := by kernel_rfl
  have h : ∀ d : Nat, (Op.equalIn (d + 1) 23 (.pointer (some a)) (.pointer none)).run Tryz.prog w = .ok false w := fun d => by
    simp [Op.equalIn, run_underlying hp]
  simp only [binOp]
  simp [Op.equal, Op.maxDepth, h 9999]

/-- An answer's fields. -/
theorem ans_code (w : World) (c k l s : Int) (d : ByteArray) (ad : Option Addr) (n m : Nat) : (Instr.field 32 (.agg #[.int .i64 c, .int .i64 k, .int .i64 l, .int .i64 s, .string d, .slice ad n m]) 0).run Tryz.prog w = .ok (.int .i64 c) w := by kernel_rfl
theorem ans_kind (w : World) (c k l s : Int) (d : ByteArray) (ad : Option Addr) (n m : Nat) : (Instr.field 32 (.agg #[.int .i64 c, .int .i64 k, .int .i64 l, .int .i64 s, .string d, .slice ad n m]) 1).run Tryz.prog w = .ok (.int .i64 k) w := by kernel_rfl
theorem ans_links (w : World) (c k l s : Int) (d : ByteArray) (ad : Option Addr) (n m : Nat) : (Instr.field 32 (.agg #[.int .i64 c, .int .i64 k, .int .i64 l, .int .i64 s, .string d, .slice ad n m]) 2).run Tryz.prog w = .ok (.int .i64 l) w := by kernel_rfl
theorem ans_size (w : World) (c k l s : Int) (d : ByteArray) (ad : Option Addr) (n m : Nat) : (Instr.field 32 (.agg #[.int .i64 c, .int .i64 k, .int .i64 l, .int .i64 s, .string d, .slice ad n m]) 3).run Tryz.prog w = .ok (.int .i64 s) w := by kernel_rfl
theorem ans_data (w : World) (c k l s : Int) (d : ByteArray) (ad : Option Addr) (n m : Nat) : (Instr.field 32 (.agg #[.int .i64 c, .int .i64 k, .int .i64 l, .int .i64 s, .string d, .slice ad n m]) 4).run Tryz.prog w = .ok (.string d) w := by kernel_rfl
theorem ans_names (w : World) (c k l s : Int) (d : ByteArray) (ad : Option Addr) (n m : Nat) : (Instr.field 32 (.agg #[.int .i64 c, .int .i64 k, .int .i64 l, .int .i64 s, .string d, .slice ad n m]) 5).run Tryz.prog w = .ok (.slice ad n m) w := by kernel_rfl

theorem small_ok {k off len : Int} {p q d : ByteArray} (h1 : p.size ≤ 4000000000) (h2 : q.size ≤ 4000000000) (h3 : d.size ≤ 9223372036854775807) (h4 : 0 ≤ k ∧ k ≤ 100) (h5 : 0 ≤ off ∧ off ≤ 100000) (h6 : 0 ≤ len ∧ len ≤ 100000) : OpOk ⟨k, p, q, off, len, d⟩ :=
  ⟨h1, h2, h3, ⟨by show _ ≤ off; omega, by show off ≤ _; omega⟩, ⟨by show _ ≤ len; omega, by show len ≤ _; omega⟩, ⟨by show _ ≤ k; omega, by show k ≤ _; omega⟩⟩

section
set_option maxHeartbeats 1000000
theorem treeWorks_any {w0 : World} (w : World) (hb : Below w0.heap.size w0 w) (hm : MaxOk w0) : Calls Tryz.prog 8 #[] w fun e w' => e = .returned (.bool true) ∧ Below w.heap.size w w' := by
  have q1 := eql_tree_nil
  have q2 := ans_code
  have q3 := ans_data
  have hmw := Lib.hid (hm.below hb)
  clear hb hm
  go_enter Tryz.func8, Tryz.ntmps8
  go_wp2_with fail
  refine (new_live (Below.refl _ w) hmw.out).mono ?_
  rintro e w1 ⟨B, D1, rfl, l1, -, -⟩
  have L1 := Lib.hid l1
  clear l1
  unfold ptr
  go_wp2_with fail
  refine (do_known ex1 L1.out (small_ok (by decide) (by decide) (by decide) (by decide) (by decide) (by decide)) (by decide)).mono ?_
  rintro e w2 ⟨ad2, cap2, D2, rfl, -, l2, -, -⟩
  have L2 := Lib.hid l2
  clear l2
  go_wp2_with fail
  refine (do_known ex2 L2.out (small_ok (by decide) (by decide) (by decide) (by decide) (by decide) (by decide)) (by decide)).mono ?_
  rintro e w3 ⟨ad3, cap3, D3, rfl, -, l3, -, -⟩
  have L3 := Lib.hid l3
  clear l3
  go_wp2_with fail
  refine (do_known ex3 L3.out (small_ok (by decide) (by decide) (by decide) (by decide) (by decide) (by decide)) (by decide)).mono ?_
  rintro e w4 ⟨ad4, cap4, D4, rfl, -, l4, -, -⟩
  have L4 := Lib.hid l4
  clear l4
  go_wp2_with fail
  refine (do_known ex4 L4.out (small_ok (by decide) (by decide) (by decide) (by decide) (by decide) (by decide)) (by decide)).mono ?_
  rintro e w5 ⟨ad5, cap5, D5, rfl, -, l5, -, -⟩
  have L5 := Lib.hid l5
  clear l5
  go_wp2
  go_ret
  exact ⟨rfl, L5.out.low⟩

end
end Go.Proofs.YtcgpmnlondnbhaaGreatDoor
