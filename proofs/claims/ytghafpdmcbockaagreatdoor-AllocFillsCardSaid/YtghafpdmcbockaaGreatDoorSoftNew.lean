/-
  Walks of layer 14: New.
-/
import Derived.Test.YtghafpdmcbockaaGreatDoorSoft
namespace Go.Proofs.YtghafpdmcbockaaGreatDoor
open Go Go.RowKit Txt Sp

theorem eql_disk_nil (w : World) (a : Addr) : (binOp .eql 25 (.pointer (some a)) (.pointer none)).run Tryz.prog w = .ok (.bool false) w := by
  have hp : Tryz.prog.underlying 25 = some (.pointer 143) := by kernel_rfl
  have h : ∀ d : Nat, (Op.equalIn (d + 1) 25 (.pointer (some a)) (.pointer none)).run Tryz.prog w = .ok false w := fun d => by
    simp [Op.equalIn, run_underlying hp]
  simp only [binOp]
  simp [Op.equal, Op.maxDepth, h 9999]
theorem DepsAt.lower {w : World} {base base' B : Nat} {d : Sp.Deps} {D : Nat → Prop} (h : DepsAt w base' B d D) (hb : base ≤ base') : DepsAt w base B d D := by
  obtain ⟨⟨v, ps, h1, h2, h3, h4, h5⟩, ho, hl⟩ := h
  exact ⟨⟨v, ps, h1, h2, h3.mono hb, h4, fun x hx => ⟨(h5 x hx).1.mono hb, (h5 x hx).2⟩⟩, ho, Nat.le_trans hb hl⟩
section
set_option maxHeartbeats 2000000
set_option maxRecDepth 20000 in
/-- A side of a disk; D: the disk's blocks. -/
theorem softNew_any {w : World} {base Bd : Nat} {d : Sp.Disk} {D : Nat → Prop} (h : DiskAt w base Bd d D) (hbase : base ≤ w.heap.size) (node epoch : Int) (hn : 0 ≤ node ∧ node < 2) (he : 0 ≤ epoch ∧ epoch ≤ 4294967295) :
    Calls Tryz.prog 35 #[pt Bd, .int .i64 node, .int .i64 epoch] w fun e w' => ∃ B D', e = .returned (.tuple #[pt B, .int .i64 0]) ∧ SideAt w' base B Bd ⟨d, ⟨[], 0⟩, node, epoch, []⟩ D' ∧ Below w.heap.size w w' ∧ (∀ j, D' j → D j ∨ (w.heap.size ≤ j ∧ j < w'.heap.size)) := by
  have q1 : decide (node < 0) = false := decide_eq_false (by omega)
  have q2 : decide (node ≥ 2) = false := decide_eq_false (by omega)
  have q3 : decide (epoch < 0) = false := decide_eq_false (by omega)
  have q4 : decide (epoch > 4294967295) = false := decide_eq_false (by omega)
  have hq := eql_disk_nil
  have hmm := @run_makeMap Tryz.prog
  have hdn := fun W : World => depsNew_any W
  have HD := Lib.hid h
  have HBa := Lib.hid hbase
  unfold pt at hdn ⊢
  have HDN := Lib.hid hdn
  clear hdn
  clear h hbase hn he
  go_enter Tryz.func35, Tryz.ntmps35
  go_wp2_with fail
  refine (HDN.out _).mono ?_
  rintro e w1 ⟨Bc, Dc, rfl, hda, hb1, hdl⟩
  have HA := Lib.hid hda
  have HB1 := Lib.hid hb1
  have HDl := Lib.hid hdl
  clear hda hb1 hdl
  go_wp2
  go_ret2
  have hz : ((w1.alloc (.map #[] 0)).alloc (softO Bc Bd node epoch w1.heap.size)).heap[w1.heap.size + 1]? = some (softO Bc Bd node epoch w1.heap.size) := by
    have := heap_alloc_new (w1.alloc (.map #[] 0)) (softO Bc Bd node epoch w1.heap.size)
    rw [show (w1.alloc (.map #[] 0)).heap.size = w1.heap.size + 1 by simp] at this
    exact this
  have hb : Below w1.heap.size w1 ((w1.alloc (.map #[] 0)).alloc (softO Bc Bd node epoch w1.heap.size)) := bl1 (bl1 (Below.refl _ _) _) _
  have hm : ((w1.alloc (.map #[] 0)).alloc (softO Bc Bd node epoch w1.heap.size)).heap[w1.heap.size]? = some (.map #[] 0) := heapOld (bl1 (Below.refl _ _) _) (heap_alloc_new w1 _)
  have hs : ((w1.alloc (.map #[] 0)).alloc (softO Bc Bd node epoch w1.heap.size)).heap.size = w1.heap.size + 2 := by simp
  have hsz := HB1.out.size
  have hbb := HBa.out
  refine ⟨w1.heap.size + 1, fun j => D j ∨ Dc j ∨ j = w1.heap.size ∨ j = w1.heap.size + 1, rfl, ⟨⟨Bc, w1.heap.size, hz, ((HA.out.below hb).lower hbb).mono (fun k hk => Or.inr (Or.inl hk)), ⟨_, hm, IM.IsMap.new⟩, by omega, Or.inr (Or.inr (Or.inl rfl))⟩, (HD.out.below (blN HB1.out hb)).mono (fun k hk => Or.inl hk), Or.inr (Or.inr (Or.inr rfl)), by omega⟩, blN HB1.out hb, fun j hj => ?_⟩
  rcases hj with hj | hj | rfl | rfl
  · exact Or.inl hj
  · have := HDl.out j hj
    exact Or.inr ⟨this.1, by show j < ((w1.alloc (.map #[] 0)).alloc (softO Bc Bd node epoch w1.heap.size)).heap.size; omega⟩
  · exact Or.inr ⟨hsz, by show _ < ((w1.alloc (.map #[] 0)).alloc (softO Bc Bd node epoch w1.heap.size)).heap.size; omega⟩
  · exact Or.inr ⟨by omega, by show _ < ((w1.alloc (.map #[] 0)).alloc (softO Bc Bd node epoch w1.heap.size)).heap.size; omega⟩
end
end Go.Proofs.YtghafpdmcbockaaGreatDoor
