/-
  The judge's walks: may.
-/
import Derived.Test.YtcgpmnlondnbhaaGreatDoorJudgeSame
import Derived.Test.YtcgpmnlondnbhaaGreatDoorSpJudge
namespace Go.Proofs.YtcgpmnlondnbhaaGreatDoor
open Go Go.RowKit Txt Sp

def didA (x : Sp.Did) (nv : Value) : Array Value :=
  #[.int .i64 x.node, .int .i64 x.task, .int .i64 x.frm, .int .i64 x.till, .int .i64 x.o.kind, .string x.o.path, .string x.o.to, .int .i64 x.o.off, .int .i64 x.o.len, .string x.o.data, .int .i64 x.a.code, .int .i64 x.a.kind, .int .i64 x.a.links, .int .i64 x.a.size, .string x.a.data, nv]

section
set_option maxHeartbeats 2000000
theorem judgeMay_any (w : World) (x : Sp.Did) (nv : Value) : Calls Tryz.prog 45 #[.agg (didA x nv)] w fun e w' => e = .returned (.bool (decide x.may)) ∧ Below w.heap.size w w' := by
  obtain ⟨node, task, frm, till, ⟨ok, op, ot, oo, ol, od⟩, ⟨ac, ak, al, as_, ad, an⟩⟩ := x
  unfold didA
  simp only
  by_cases h1 : 0 ≤ node
  rotate_left
  · have HNo : Hid (¬ (⟨node, task, frm, till, ⟨ok, op, ot, oo, ol, od⟩, ⟨ac, ak, al, as_, ad, an⟩⟩ : Sp.Did).may) := fun h => h1 h.1
    rw [decide_eq_false HNo.out]
    go_enter Tryz.func45, Tryz.ntmps45
    go_wp2
    go_ret
    exact ⟨rfl, (Below.refl w.heap.size w).alloc (Nat.le_refl _) _⟩
  by_cases h2 : node < 2
  rotate_left
  · have HNo : Hid (¬ (⟨node, task, frm, till, ⟨ok, op, ot, oo, ol, od⟩, ⟨ac, ak, al, as_, ad, an⟩⟩ : Sp.Did).may) := fun h => h2 h.2.1
    rw [decide_eq_false HNo.out]
    go_enter Tryz.func45, Tryz.ntmps45
    go_wp2
    go_ret
    exact ⟨rfl, (Below.refl w.heap.size w).alloc (Nat.le_refl _) _⟩
  by_cases h3 : 1 ≤ task
  rotate_left
  · have HNo : Hid (¬ (⟨node, task, frm, till, ⟨ok, op, ot, oo, ol, od⟩, ⟨ac, ak, al, as_, ad, an⟩⟩ : Sp.Did).may) := fun h => h3 h.2.2.1
    rw [decide_eq_false HNo.out]
    go_enter Tryz.func45, Tryz.ntmps45
    go_wp2
    go_ret
    exact ⟨rfl, (Below.refl w.heap.size w).alloc (Nat.le_refl _) _⟩
  by_cases h4 : task ≤ 1024
  rotate_left
  · have HNo : Hid (¬ (⟨node, task, frm, till, ⟨ok, op, ot, oo, ol, od⟩, ⟨ac, ak, al, as_, ad, an⟩⟩ : Sp.Did).may) := fun h => h4 h.2.2.2.1
    rw [decide_eq_false HNo.out]
    go_enter Tryz.func45, Tryz.ntmps45
    go_wp2
    go_ret
    exact ⟨rfl, (Below.refl w.heap.size w).alloc (Nat.le_refl _) _⟩
  by_cases h5 : 1 ≤ frm
  rotate_left
  · have HNo : Hid (¬ (⟨node, task, frm, till, ⟨ok, op, ot, oo, ol, od⟩, ⟨ac, ak, al, as_, ad, an⟩⟩ : Sp.Did).may) := fun h => h5 h.2.2.2.2.1
    rw [decide_eq_false HNo.out]
    go_enter Tryz.func45, Tryz.ntmps45
    go_wp2
    go_ret
    exact ⟨rfl, (Below.refl w.heap.size w).alloc (Nat.le_refl _) _⟩
  by_cases h6 : 0 ≤ till
  rotate_left
  · have HNo : Hid (¬ (⟨node, task, frm, till, ⟨ok, op, ot, oo, ol, od⟩, ⟨ac, ak, al, as_, ad, an⟩⟩ : Sp.Did).may) := fun h => h6 h.2.2.2.2.2.1
    rw [decide_eq_false HNo.out]
    go_enter Tryz.func45, Tryz.ntmps45
    go_wp2
    go_ret
    exact ⟨rfl, (Below.refl w.heap.size w).alloc (Nat.le_refl _) _⟩
  by_cases h7 : max frm till ≤ 1099511627776
  · have HYes : Hid ((⟨node, task, frm, till, ⟨ok, op, ot, oo, ol, od⟩, ⟨ac, ak, al, as_, ad, an⟩⟩ : Sp.Did).may) := ⟨h1, h2, h3, h4, h5, h6, by show frm ≤ _; omega, by show till ≤ _; omega⟩
    rw [decide_eq_true HYes.out]
    go_enter Tryz.func45, Tryz.ntmps45
    go_wp2
    go_ret
    exact ⟨rfl, (Below.refl w.heap.size w).alloc (Nat.le_refl _) _⟩
  · have HNo : Hid (¬ (⟨node, task, frm, till, ⟨ok, op, ot, oo, ol, od⟩, ⟨ac, ak, al, as_, ad, an⟩⟩ : Sp.Did).may) := fun h => h7 (by
      have a1 : frm ≤ 1099511627776 := h.2.2.2.2.2.2.1
      have a2 : till ≤ 1099511627776 := h.2.2.2.2.2.2.2
      omega)
    rw [decide_eq_false HNo.out]
    go_enter Tryz.func45, Tryz.ntmps45
    go_wp2
    go_ret
    exact ⟨rfl, (Below.refl w.heap.size w).alloc (Nat.le_refl _) _⟩
end
end Go.Proofs.YtcgpmnlondnbhaaGreatDoor
