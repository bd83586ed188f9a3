/-
  Walks of layer 17: all (an iterator over a directory's slots).
-/
import Derived.Test.YtaphcmcimoloiaaGreatDoorDirMem
import Derived.Test.YtaphcmcimoloiaaGreatDoorHeldIn
import Derived.RangeFuncBox
import Derived.RangeFuncLeaves
import Derived.OwnWalkIn
import Derived.TacticsInMore
import Derived.LoopIn
import Derived.LoopNIn
import Derived.RangeFuncNested
import Derived.WalkKit
import Derived.Test.YtaphcmcimoloiaaGreatDoorDirOpen
namespace Go.Proofs.YtaphcmcimoloiaaGreatDoor
open Go Go.RowKit Go.Shelf Txt Sp

attribute [local go_sem] Oper.semAt_some
def entV (e : Ent) : Array Value := #[.agg #[.int .i64 e.inode, .int .i64 e.sec, .int .i64 (e.slot : Int)], .string e.name]
def KeepsBox (n Bd : Nat) (A B : World) : Prop := Below n A B ∧ (Bd < A.heap.size → B.heap[Bd]? = A.heap[Bd]?)
theorem keepsBox_t {n Bd : Nat} {A B C : World} (h : KeepsBox n Bd A B) (k : KeepsBox n Bd B C) : KeepsBox n Bd A C :=
  ⟨h.1.trans k.1, fun hb => (k.2 (by have := h.1.size; omega)).trans (h.2 hb)⟩
theorem keepsBox_b {n Bd : Nat} {w : World} (hn : n ≤ w.heap.size) (hB : Bd < w.heap.size) (W : World) (l : Nat) (o o' : Obj) (hl : w.heap.size ≤ l) (h : W.heap[l]? = some o) (h1 : o.isCells = false) (h2 : o.isWalk = false) : KeepsBox n Bd W (W.putObj l o') :=
  ⟨belowK_b hn W l o o' hl h h1 h2, fun hb => (grownBy_putObj' W l o').block Bd hb (fun e => by cases e; omega)⟩
theorem index_ent (E : Nat → Sp.Entry) (W : World) (k : Nat) (hk : k < 4) : (Instr.index 282 (.agg #[.int .i64 (E 0).inode, .string (E 0).name, .int .i64 (E 1).inode, .string (E 1).name, .int .i64 (E 2).inode, .string (E 2).name, .int .i64 (E 3).inode, .string (E 3).name]) (.int .i64 (k : Int))).run Tryz.prog W = .ok (.agg #[.int .i64 (E k).inode, .string (E k).name]) W := by
  have h0 : (Instr.index 282 (.agg #[.int .i64 (E 0).inode, .string (E 0).name, .int .i64 (E 1).inode, .string (E 1).name, .int .i64 (E 2).inode, .string (E 2).name, .int .i64 (E 3).inode, .string (E 3).name]) (.int .i64 0)).run Tryz.prog W = .ok (.agg #[.int .i64 (E 0).inode, .string (E 0).name]) W := by kernel_rfl
  have h1 : (Instr.index 282 (.agg #[.int .i64 (E 0).inode, .string (E 0).name, .int .i64 (E 1).inode, .string (E 1).name, .int .i64 (E 2).inode, .string (E 2).name, .int .i64 (E 3).inode, .string (E 3).name]) (.int .i64 1)).run Tryz.prog W = .ok (.agg #[.int .i64 (E 1).inode, .string (E 1).name]) W := by kernel_rfl
  have h2 : (Instr.index 282 (.agg #[.int .i64 (E 0).inode, .string (E 0).name, .int .i64 (E 1).inode, .string (E 1).name, .int .i64 (E 2).inode, .string (E 2).name, .int .i64 (E 3).inode, .string (E 3).name]) (.int .i64 2)).run Tryz.prog W = .ok (.agg #[.int .i64 (E 2).inode, .string (E 2).name]) W := by kernel_rfl
  have h3 : (Instr.index 282 (.agg #[.int .i64 (E 0).inode, .string (E 0).name, .int .i64 (E 1).inode, .string (E 1).name, .int .i64 (E 2).inode, .string (E 2).name, .int .i64 (E 3).inode, .string (E 3).name]) (.int .i64 3)).run Tryz.prog W = .ok (.agg #[.int .i64 (E 3).inode, .string (E 3).name]) W := by kernel_rfl
  match k, hk with
  | 0, _ => exact h0
  | 1, _ => exact h1
  | 2, _ => exact h2
  | 3, _ => exact h3
  | k + 4, h => omega
section
variable {V : Int → ByteArray} {bl : List Int}
def esAt (V : Int → ByteArray) (bl : List Int) (j : Nat) (b : Int) (k : Nat) : List Ent := (bl.take j).flatMap (entsB V) ++ (entsB V b).take k
theorem esAt_len {j k : Nat} {b : Int} (hb : bl[j]? = some b) (hk : k < 4) : (esAt V bl j b k).length < (bl.flatMap (entsB V)).length := by
  have hj := (List.getElem?_eq_some_iff.1 hb).1
  have e : ∀ l : List Int, (l.flatMap (entsB V)).length = 4 * l.length := fun l => by
    induction l with
    | nil => rfl
    | cons x l ih => rw [List.flatMap_cons, List.length_append, ih]; show 4 + _ = _; rw [List.length_cons]; omega
  unfold esAt
  rw [List.length_append, e, e, List.length_take, List.length_take]
  show 4 * min j bl.length + min k 4 < _
  omega
theorem esAt_next {j k : Nat} {b : Int} (hk : k < 4) : esAt V bl j b k ++ [entOf V b k] = esAt V bl j b (k + 1) := by
  unfold esAt
  rw [List.append_assoc]
  congr 1
  match k, hk with
  | 0, _ => rfl
  | 1, _ => rfl
  | 2, _ => rfl
  | 3, _ => rfl
  | k + 4, h => omega
theorem esAt_four {j : Nat} {b : Int} (hb : bl[j]? = some b) : esAt V bl j b 4 = (bl.take (j + 1)).flatMap (entsB V) := by
  unfold esAt
  rw [take_step hb, List.flatMap_append]
  simp [entsB]
theorem esAt_pre {j k : Nat} {b : Int} (hb : bl[j]? = some b) (hk : k ≤ 4) : esAt V bl j b k <+: bl.flatMap (entsB V) := by
  have h1 : esAt V bl j b k <+: esAt V bl j b 4 := by
    unfold esAt
    rw [List.prefix_append_right_inj]
    have := List.take_prefix k ((entsB V b).take 4)
    rw [List.take_take] at this
    rwa [Nat.min_eq_left hk] at this
  refine h1.trans ?_
  rw [esAt_four hb]
  conv => rhs; rw [← List.take_append_drop (j + 1) bl, List.flatMap_append]
  exact List.prefix_append _ _
end
def AllInv (w0 : World) (Bd B : Nat) (z : Nat) (J : List Ent → World → Prop) (es : List Ent) (W : World) : Prop :=
  Below w0.heap.size w0 W ∧ W.heap[Bd]? = some (.cells #[.pointer (some ⟨B, 0, none⟩)] 180 (0, 0)) ∧ z ≤ W.heap.size ∧ J es W
section
variable {w0 W W' : World} {Bd B z : Nat} {J : List Ent → World → Prop} {es : List Ent}
theorem AllInv.alloc (h : AllInv w0 Bd B z J es W) (hJ : AbidesFrom z J) (o : Obj) : AllInv w0 Bd B z J es (W.alloc o) :=
  ⟨h.1.alloc h.1.size o, heapOld (bl2 o) h.2.1, by simp; have := h.2.2.1; omega, hJ es W _ none h.2.2.2 (World.grownBy_alloc W o none) (fun r e => by cases e)⟩
theorem AllInv.drew (h : AllInv w0 Bd B z J es W) (hJ : AbidesFrom z J) : AllInv w0 Bd B z J es W.drew :=
  ⟨h.1.drew, h.2.1, h.2.2.1, hJ es W _ none h.2.2.2 ⟨rfl, rfl, rfl, Nat.le_refl _, fun _ _ _ => rfl⟩ (fun r e => by cases e)⟩
theorem AllInv.round (h : AllInv w0 Bd B z J es W) (hk : KeepsBox w0.heap.size Bd W W') {es' : List Ent} (hJ : J es' W') : AllInv w0 Bd B z J es' W' :=
  ⟨h.1.trans hk.1, (hk.2 (Array.getElem?_eq_some_iff.1 h.2.1).1).trans h.2.1, by have := hk.1.size; have := h.2.2.1; omega, hJ⟩
end
section
set_option maxHeartbeats 4000000
set_option maxRecDepth 100000
theorem dall1_in (F : Fence) (n : Nat) (hf : F.fn 186) (hro : F.round = none) (hn : 1 ≤ n) (y Bd B base : Nat) (nd : Sp.Inode) (V : Int → ByteArray) (bl : List Int) (J Jx : List Ent → World → Prop) (w0 W : World) (hJ : AbidesFrom W.heap.size J)
    (hY : ∀ pre x W1, J pre W1 → pre.length < (bl.flatMap (entsB V)).length → YieldAt F (n - 1) Tryz.prog y (entV x) W1 fun e W' => (e = .returned (.bool true) ∧ J (pre ++ [x]) W' ∧ KeepsBox w0.heap.size Bd W1 W') ∨ (e = .returned (.bool false) ∧ Jx (pre ++ [x]) W'))
    (hd : DirAt w0 base B nd V bl) (hW : Below w0.heap.size w0 W) (hm : W.heap[Bd]? = some (.cells #[.pointer (some ⟨B, 0, none⟩)] 180 (0, 0))) (h0 : J [] W) :
    CallsIn F n Tryz.prog 186 #[.func (.yield y) #[] #[], .pointer (some ⟨Bd, 0, none⟩)] W fun e W' => (∃ v, e = .returned v) ∧ ((∃ xs, xs = bl.flatMap (entsB V) ∧ J xs W') ∨ (∃ pre, pre <+: bl.flatMap (entsB V) ∧ Jx pre W')) := by
  obtain ⟨-, vs, us, hz, hvs, hus⟩ := hd
  have hrv := OwnR.row (f := intC) (size := 1) (fun _ _ => rfl) hvs
  have hru := OwnR.row (f := slotC) (size := 8) (fun _ _ => rfl) hus
  obtain ⟨av, mv, cv, rfl, HMv, hmv, -⟩ := RowAt.facts hrv
  obtain ⟨au, mu, cu, rfl, HMu, hmu, -⟩ := RowAt.facts hru
  have hlv : mv = bl.length := HMv.out
  have hlu : mu = bl.length := HMu.out.trans (List.length_map _)
  have hF : Hid (∀ W1, Below w0.heap.size w0 W1 → (W1.cell? ⟨B, 14, none⟩ = some (.slice av mv cv) ∧ W1.cell? ⟨B, 15, none⟩ = some (.slice au mu cu)) ∧ ∀ (j : Nat) (b : Int), bl[j]? = some b → (∃ bb oo, av = some ⟨bb, oo, none⟩ ∧ W1.cell? ⟨bb, oo + j, none⟩ = some (.int .i64 b)) ∧
      ∃ bb oo, au = some ⟨bb, oo, none⟩ ∧ ∀ (i : Nat) (y : Value), (slotC (V b))[i]? = some y → W1.cell? ⟨bb, oo + j * 8 + i, none⟩ = some y) := fun W1 h1 => by
    have hz1 := heapOld h1 hz
    refine ⟨⟨cellOf (k := 14) hz1 rfl, cellOf (k := 15) hz1 rfl⟩, fun j b hb => ?_⟩
    have hj := (List.getElem?_eq_some_iff.1 hb).1
    constructor
    · obtain ⟨ad', n', cap', e', hn', -, hf'⟩ := RowAt.facts (hrv.below h1)
      cases e'
      obtain ⟨bb, oo, x, rfl, -, hx, hc⟩ := hf'.out j (by rw [hlv]; exact hj)
      rw [hb] at hx
      cases hx
      have := hc 0 _ rfl
      rw [Nat.mul_one, Nat.add_zero] at this
      exact ⟨bb, oo, rfl, this⟩
    · obtain ⟨ad', n', cap', e', hn', -, hf'⟩ := RowAt.facts (hru.below h1)
      cases e'
      obtain ⟨bb, oo, x, rfl, -, hx, hc⟩ := hf'.out j (by rw [hlu]; exact hj)
      rw [List.getElem?_map, hb] at hx
      cases hx
      exact ⟨bb, oo, rfl, hc⟩
  subst hlv
  have hlu2 : (mu : Int) = (bl.length : Int) := by omega
  obtain ⟨m, hmE⟩ : ∃ m, bl.length = m := ⟨_, rfl⟩
  rw [hmE] at hlu hF hmv
  subst hlu
  have HmE := Lib.hid hmE
  have HI0 : Hid (AllInv w0 Bd B W.heap.size J [] W) := ⟨hW, hm, Nat.le_refl _, h0⟩
  have HJ := Lib.hid hJ
  have HY := Lib.hid hY
  obtain ⟨⟨x14, x15⟩, -⟩ := hF.out W hW
  have xb := cellOf (k := 0) hm rfl
  clear hmE hlu2 HMv HMu hvs hus hrv hru hz hJ hY hW hm h0
  refine callsIn_of_wp Tryz.func186 rfl hf ?_ hro
  simp only [Tryz.ntmps186, List.size_toArray, List.length_cons, List.length_nil, Nat.reduceAdd, Nat.reduceSub, Array.replicate_succ, Array.replicate_zero, List.push_toArray, List.append_toArray, List.nil_append, List.cons_append]
  gi_wp2
  clear x14 x15 xb
  gi_loopw [12] (fun i12 wr => ∃ j : Nat, j ≤ mu ∧ i12 = .int .i64 (j : Int) ∧ Hid (AllInv w0 Bd B W.heap.size J ((bl.take j).flatMap (entsB V)) wr)) (fun i12 _ => mu - (intOf i12).toNat)
  case atStart => exact ⟨0, Nat.zero_le _, rfl, HI0⟩
  case round =>
    obtain ⟨j, hj, rfl, HR⟩ := hrel
    by_cases hlt : j < mu
    · obtain ⟨b, hb⟩ : ∃ b, bl[j]? = some b := ⟨bl[j]'(by rw [HmE.out]; exact hlt), by rw [List.getElem?_eq_getElem]⟩
      obtain ⟨-, ⟨bv, ov, rfl, yv⟩, bu, ou, rfl, hyu⟩ := (hF.out wr HR.out.1).imp id (fun h => h j b hb)
      obtain ⟨E, hE⟩ : ∃ E : Nat → Sp.Entry, (fun k => slotOf (V b) k) = E := ⟨_, rfl⟩
      have hsl : slotC (V b) = [.int .i64 (E 0).inode, .string (E 0).name, .int .i64 (E 1).inode, .string (E 1).name, .int .i64 (E 2).inode, .string (E 2).name, .int .i64 (E 3).inode, .string (E 3).name] := by subst hE; rfl
      rw [hsl] at hyu
      have y0 := hyu 0 _ rfl
      have y1 := hyu 1 _ rfl
      have y2 := hyu 2 _ rfl
      have y3 := hyu 3 _ rfl
      have y4 := hyu 4 _ rfl
      have y5 := hyu 5 _ rfl
      have y6 := hyu 6 _ rfl
      have y7 := hyu 7 _ rfl
      have hE2 : ∀ k, entOf V b k = ⟨(E k).inode, b, k, (E k).name⟩ := fun k => by subst hE; rfl
      have hix := index_ent E
      have HIX := Lib.hid hix
      have HE2 := Lib.hid hE2
      have HYu := Lib.hid hyu
      have HYv := Lib.hid yv
      clear hyu yv hsl hE hE2 hix
      obtain ⟨e0, he0⟩ : ∃ x, (E 0).inode = x := ⟨_, rfl⟩
      obtain ⟨e1, he1⟩ : ∃ x, (E 1).inode = x := ⟨_, rfl⟩
      obtain ⟨e2, he2⟩ : ∃ x, (E 2).inode = x := ⟨_, rfl⟩
      obtain ⟨e3, he3⟩ : ∃ x, (E 3).inode = x := ⟨_, rfl⟩
      obtain ⟨s0, hs0⟩ : ∃ x, (E 0).name = x := ⟨_, rfl⟩
      obtain ⟨s1, hs1⟩ : ∃ x, (E 1).name = x := ⟨_, rfl⟩
      obtain ⟨s2, hs2⟩ : ∃ x, (E 2).name = x := ⟨_, rfl⟩
      obtain ⟨s3, hs3⟩ : ∃ x, (E 3).name = x := ⟨_, rfl⟩
      rw [he0, he1, he2, he3, hs0, hs1, hs2, hs3] at HIX
      rw [he0, Nat.add_zero] at y0
      rw [hs0] at y1
      rw [he1] at y2
      rw [hs1] at y3
      rw [he2] at y4
      rw [hs2] at y5
      rw [he3] at y6
      rw [hs3] at y7
      clear HYu he0 he1 he2 he3 hs0 hs1 hs2 hs3
      obtain ⟨W3, hW3⟩ : ∃ W, wr.alloc (.cells #[.int .i64 e0, .string s0, .int .i64 e1, .string s1, .int .i64 e2, .string s2, .int .i64 e3, .string s3] 282) = W := ⟨_, rfl⟩
      have HR3 : Hid (AllInv w0 Bd B W.heap.size J (esAt V bl j b 0) W3) := by
        rw [← hW3]
        have := HR.out.alloc HJ.out (.cells #[.int .i64 e0, .string s0, .int .i64 e1, .string s1, .int .i64 e2, .string s2, .int .i64 e3, .string s3] 282)
        unfold esAt
        rw [List.take_zero, List.append_nil]
        exact this
      have HZ3 : Hid (W3.heap[wr.heap.size]? = some (.cells #[.int .i64 e0, .string s0, .int .i64 e1, .string s1, .int .i64 e2, .string s2, .int .i64 e3, .string s3] 282 (0, 0))) := by rw [← hW3]; exact heapNew wr _
      obtain ⟨z, -⟩ := blk_cells HZ3.out
      gi_wp2
      clear y0 y1 y2 y3 y4 y5 y6 y7 z hW3
      gi_loopw [18] (fun i18 wr => ∃ k : Nat, k ≤ 4 ∧ i18 = .int .i64 (k : Int) ∧ Hid (AllInv w0 Bd B W.heap.size J (esAt V bl j b k) wr)) (fun i18 _ => 4 - (intOf i18).toNat)
      case atStart => exact ⟨0, Nat.zero_le _, rfl, HR3⟩
      case round =>
        obtain ⟨k, hk, rfl, HRk⟩ := hrel
        by_cases hlt4 : k < 4
        · have hx := fun W => HIX.out W k hlt4
          have hent : entV (entOf V b k) = #[.agg #[.int .i64 (E k).inode, .int .i64 b, .int .i64 (k : Int)], .string (E k).name] := by rw [HE2.out k]; rfl
          obtain ⟨x, hxe⟩ : ∃ x, (E k).inode = x := ⟨_, rfl⟩
          obtain ⟨nm, hnm⟩ : ∃ x, (E k).name = x := ⟨_, rfl⟩
          rw [hxe, hnm] at hx hent
          rename World => wk
          obtain ⟨W4, hW4⟩ : ∃ W, wk.alloc (.cells #[.int .i64 x, .string nm] 69) = W := ⟨_, rfl⟩
          have HR4 : Hid (AllInv w0 Bd B W.heap.size J (esAt V bl j b k) W4) := by rw [← hW4]; exact HRk.out.alloc HJ.out _
          have HZ4 : Hid (W4.heap[wk.heap.size]? = some (.cells #[.int .i64 x, .string nm] 69 (0, 0))) := by rw [← hW4]; exact heapNew wk _
          have HHx := Lib.hid hx
          have HEnt := Lib.hid hent
          clear hent hxe hnm
          gi_wp2
          clear hW4 hx
          obtain ⟨W5, hW5⟩ : ∃ W, W4.drew = W := ⟨_, rfl⟩
          have HR5 : Hid (AllInv w0 Bd B W.heap.size J (esAt V bl j b k) W5) := by rw [← hW5]; exact HR4.out.drew HJ.out
          have HZ5 : Hid (W5.heap[wk.heap.size]? = some (.cells #[.int .i64 x, .string nm] 69 (0, 0))) := by rw [← hW5]; exact HZ4.out
          obtain ⟨⟨x14, x15⟩, HC5⟩ := hF.out W5 HR5.out.1
          have xb := cellOf (k := 0) HR5.out.2.1 rfl
          have yv : W5.cell? ⟨bv, ov + j, none⟩ = some (.int .i64 b) := by
            obtain ⟨⟨_, _, e, h⟩, -⟩ := HC5 j b hb
            cases e
            exact h
          have z0 := cellOf (k := 0) HZ5.out rfl
          have z1 := cellOf (k := 1) HZ5.out rfl
          clear HC5
          refine wpIn_region_last (fun w => w = W5) 14 (by kernel_rfl) (fun hClosed => ?_)
          rw [hW5]
          have hHeld : (fun w => w = W5) W5 := rfl
          refine AnyI.take (i := 0) (v := ?_) hro (by kernel_rfl) (by decide) hClosed rfl (by kernel_rfl) (by kernel_rfl) (by kernel_rfl) (fun _ _ _ h => h) ⟨Or.inl ⟨by rfl, ?_⟩, fun _ => rfl⟩ (fun _ => hHeld) (fun hClosed2 => ?_)
          rotate_left
          · (intro w hSw; (try cases hSw); first | (go_simp; done) | (go_simp; with_reducible rfl))
          clear hClosed; have hClosed := hClosed2; clear hClosed2
          simp only [Act.put, List.setIfInBounds_toArray, List.set_cons_zero, List.set_cons_succ, List.getElem_toArray, List.getElem_cons_zero]
          refine AnyI.take (i := 1) (v := ?_) hro (by kernel_rfl) (by decide) hClosed rfl (by kernel_rfl) (by kernel_rfl) (by kernel_rfl) (fun _ _ _ h => h) ⟨Or.inl ⟨by rfl, ?_⟩, fun _ => rfl⟩ (fun _ => hHeld) (fun hClosed2 => ?_)
          rotate_left
          · (intro w hSw; (try cases hSw); first | (go_simp; done) | (go_simp; with_reducible rfl))
          clear hClosed; have hClosed := hClosed2; clear hClosed2
          simp only [Act.put, List.setIfInBounds_toArray, List.set_cons_zero, List.set_cons_succ, List.getElem_toArray, List.getElem_cons_zero, List.getElem_cons_succ]
          refine AnyI.take (i := 2) (v := ?_) hro (by kernel_rfl) (by decide) hClosed rfl (by kernel_rfl) (by kernel_rfl) (by kernel_rfl) (fun _ _ _ h => h) ⟨Or.inl ⟨by rfl, ?_⟩, fun _ => rfl⟩ (fun _ => hHeld) (fun hClosed2 => ?_)
          rotate_left
          · (intro w hSw; (try cases hSw); first | (go_simp; done) | (go_simp; with_reducible rfl))
          clear hClosed; have hClosed := hClosed2; clear hClosed2
          simp only [Act.put, List.setIfInBounds_toArray, List.set_cons_zero, List.set_cons_succ, List.getElem_toArray, List.getElem_cons_zero, List.getElem_cons_succ]
          refine AnyI.take (i := 3) (v := ?_) hro (by kernel_rfl) (by decide) hClosed rfl (by kernel_rfl) (by kernel_rfl) (by kernel_rfl) (fun _ _ _ h => h) ⟨Or.inl ⟨by rfl, ?_⟩, fun _ => rfl⟩ (fun _ => hHeld) (fun hClosed2 => ?_)
          rotate_left
          · (intro w hSw; (try cases hSw); first | (go_simp; done) | (go_simp; with_reducible rfl))
          clear hClosed; have hClosed := hClosed2; clear hClosed2
          simp only [Act.put, List.setIfInBounds_toArray, List.set_cons_zero, List.set_cons_succ, List.getElem_toArray, List.getElem_cons_zero, List.getElem_cons_succ]
          refine AnyI.take (i := 4) (v := ?_) hro (by kernel_rfl) (by decide) hClosed rfl (by kernel_rfl) (by kernel_rfl) (by kernel_rfl) (fun _ _ _ h => h) ⟨Or.inl ⟨by rfl, ?_⟩, fun _ => rfl⟩ (fun _ => hHeld) (fun hClosed2 => ?_)
          rotate_left
          · (intro w hSw; (try cases hSw); first | (go_simp; done) | (go_simp; with_reducible rfl))
          clear hClosed; have hClosed := hClosed2; clear hClosed2
          simp only [Act.put, List.setIfInBounds_toArray, List.set_cons_zero, List.set_cons_succ, List.getElem_toArray, List.getElem_cons_zero, List.getElem_cons_succ]
          refine AnyI.take (i := 5) (v := ?_) hro (by kernel_rfl) (by decide) hClosed rfl (by kernel_rfl) (by kernel_rfl) (by kernel_rfl) (fun _ _ _ h => h) ⟨Or.inl ⟨by rfl, ?_⟩, fun _ => rfl⟩ (fun _ => hHeld) (fun hClosed2 => ?_)
          rotate_left
          · (intro w hSw; (try cases hSw); first | (go_simp; done) | (go_simp; with_reducible rfl))
          clear hClosed; have hClosed := hClosed2; clear hClosed2
          simp only [Act.put, List.setIfInBounds_toArray, List.set_cons_zero, List.set_cons_succ, List.getElem_toArray, List.getElem_cons_zero, List.getElem_cons_succ]
          refine AnyI.take (i := 6) (v := ?_) hro (by kernel_rfl) (by decide) hClosed rfl (by kernel_rfl) (by kernel_rfl) (by kernel_rfl) (fun _ _ _ h => h) ⟨Or.inl ⟨by rfl, ?_⟩, fun _ => rfl⟩ (fun _ => hHeld) (fun hClosed2 => ?_)
          rotate_left
          · (intro w hSw; (try cases hSw); first | (go_simp; done) | (go_simp; with_reducible rfl))
          clear hClosed; have hClosed := hClosed2; clear hClosed2
          simp only [Act.put, List.setIfInBounds_toArray, List.set_cons_zero, List.set_cons_succ, List.getElem_toArray, List.getElem_cons_zero, List.getElem_cons_succ]
          refine AnyI.take (i := 7) (v := ?_) hro (by kernel_rfl) (by decide) hClosed rfl (by kernel_rfl) (by kernel_rfl) (by kernel_rfl) (fun _ _ _ h => h) ⟨Or.inl ⟨by rfl, ?_⟩, fun _ => rfl⟩ (fun _ => hHeld) (fun hClosed2 => ?_)
          rotate_left
          · (intro w hSw; (try cases hSw); first | (go_simp; done) | (go_simp; with_reducible rfl))
          clear hClosed; have hClosed := hClosed2; clear hClosed2
          simp only [Act.put, List.setIfInBounds_toArray, List.set_cons_zero, List.set_cons_succ, List.getElem_toArray, List.getElem_cons_zero, List.getElem_cons_succ]
          refine AnyI.take (i := 8) (v := ?_) hro (by kernel_rfl) (by decide) hClosed rfl (by kernel_rfl) (by kernel_rfl) (by kernel_rfl) (fun _ _ _ h => h) ⟨Or.inl ⟨by rfl, ?_⟩, fun _ => rfl⟩ (fun _ => hHeld) (fun hClosed2 => ?_)
          rotate_left
          · (intro w hSw; (try cases hSw); first | (go_simp; done) | (go_simp; with_reducible rfl))
          clear hClosed; have hClosed := hClosed2; clear hClosed2
          simp only [Act.put, List.setIfInBounds_toArray, List.set_cons_zero, List.set_cons_succ, List.getElem_toArray, List.getElem_cons_zero, List.getElem_cons_succ]
          refine AnyI.take (i := 9) (v := ?_) hro (by kernel_rfl) (by decide) hClosed rfl (by kernel_rfl) (by kernel_rfl) (by kernel_rfl) (fun _ _ _ h => h) ⟨Or.inl ⟨by rfl, ?_⟩, fun _ => rfl⟩ (fun _ => hHeld) (fun hClosed2 => ?_)
          rotate_left
          · (intro w hSw; (try cases hSw); first | (go_simp; done) | (go_simp; with_reducible rfl))
          clear hClosed; have hClosed := hClosed2; clear hClosed2
          simp only [Act.put, List.setIfInBounds_toArray, List.set_cons_zero, List.set_cons_succ, List.getElem_toArray, List.getElem_cons_zero, List.getElem_cons_succ]
          refine AnyI.take (i := 10) (v := ?_) hro (by kernel_rfl) (by decide) hClosed rfl (by kernel_rfl) (by kernel_rfl) (by kernel_rfl) (fun _ _ _ h => h) ⟨Or.inl ⟨by rfl, ?_⟩, fun _ => rfl⟩ (fun _ => hHeld) (fun hClosed2 => ?_)
          rotate_left
          · (intro w hSw; (try cases hSw); first | (go_simp; done) | (go_simp; with_reducible rfl))
          clear hClosed; have hClosed := hClosed2; clear hClosed2
          simp only [Act.put, List.setIfInBounds_toArray, List.set_cons_zero, List.set_cons_succ, List.getElem_toArray, List.getElem_cons_zero, List.getElem_cons_succ]
          refine AnyI.take (i := 11) (v := ?_) hro (by kernel_rfl) (by decide) hClosed rfl (by kernel_rfl) (by kernel_rfl) (by kernel_rfl) (fun _ _ _ h => h) ⟨Or.inl ⟨by rfl, ?_⟩, fun _ => rfl⟩ (fun _ => hHeld) (fun hClosed2 => ?_)
          rotate_left
          · (intro w hSw; (try cases hSw); first | (go_simp; done) | (go_simp; with_reducible rfl))
          clear hClosed; have hClosed := hClosed2; clear hClosed2
          simp only [Act.put, List.setIfInBounds_toArray, List.set_cons_zero, List.set_cons_succ, List.getElem_toArray, List.getElem_cons_zero, List.getElem_cons_succ]
          refine AnyI.take (i := 12) (v := ?_) hro (by kernel_rfl) (by decide) hClosed rfl (by kernel_rfl) (by kernel_rfl) (by kernel_rfl) (fun _ _ _ h => h) ⟨Or.inl ⟨by rfl, ?_⟩, fun _ => rfl⟩ (fun _ => hHeld) (fun hClosed2 => ?_)
          rotate_left
          · (intro w hSw; (try cases hSw); first | (go_simp; done) | (go_simp; with_reducible rfl))
          clear hClosed; have hClosed := hClosed2; clear hClosed2
          simp only [Act.put, List.setIfInBounds_toArray, List.set_cons_zero, List.set_cons_succ, List.getElem_toArray, List.getElem_cons_zero, List.getElem_cons_succ]
          refine AnyI.take (i := 13) (v := ?_) hro (by kernel_rfl) (by decide) hClosed rfl (by kernel_rfl) (by kernel_rfl) (by kernel_rfl) (fun _ _ _ h => h) ⟨Or.inl ⟨by rfl, ?_⟩, fun _ => rfl⟩ (fun _ => hHeld) (fun hClosed2 => ?_)
          rotate_left
          · (intro w hSw; (try cases hSw); first | (go_simp; done) | (go_simp; with_reducible rfl))
          clear hClosed; have hClosed := hClosed2; clear hClosed2
          simp only [Act.put, List.setIfInBounds_toArray, List.set_cons_zero, List.set_cons_succ, List.getElem_toArray, List.getElem_cons_zero, List.getElem_cons_succ]
          refine AnyI.one (i := 14) (by kernel_rfl) rfl (by kernel_rfl) (fun K hK => ?_)
          try simp only [List.getElem_toArray, List.getElem_cons_zero, List.getElem_cons_succ]
          clear x14 x15 xb yv z0 z1
          have hy0 := HY.out (esAt V bl j b k) (entOf V b k) W5 HR5.out.2.2.2 (esAt_len hb hlt4)
          rw [HEnt.out] at hy0
          obtain ⟨fn, tmps, assign, body, hy, hR⟩ := hy0
          have HRy := Lib.hid hR
          clear hR
          go_simp
          refine HRy.out.mono ?_
          rintro e W6 (⟨rfl, hJ6, hk6⟩ | ⟨rfl, hJx6⟩)
          · have HR6 : Hid (AllInv w0 Bd B W.heap.size J (esAt V bl j b (k + 1)) W6) := HR5.out.round hk6 (by rw [← esAt_next hlt4]; exact hJ6)
            clear hJ6 hk6 hy
            dsimp only
            refine hK _ _ ?_
            clear hK K
            try simp only [Act.put, List.setIfInBounds_toArray, List.set_cons_zero, List.set_cons_succ, List.getElem_toArray, List.getElem_cons_zero, List.getElem_cons_succ]
            refine AnyI.one (i := 15) (by kernel_rfl) rfl (by kernel_rfl) (fun K hK => ?_)
            try simp only [List.getElem_toArray, List.getElem_cons_zero, List.getElem_cons_succ]
            go_simp
            refine hK _ _ ?_
            clear hK K
            try simp only [Act.put, List.setIfInBounds_toArray, List.set_cons_zero, List.set_cons_succ, List.getElem_toArray, List.getElem_cons_zero, List.getElem_cons_succ]
            refine AnyI.done (by kernel_rfl) ?_ _
            gi_wp2
            go_roundw
            case rel => exact ⟨k + 1, by omega, rfl, HR6⟩
            case measure => simp [intOf]; omega
          · have HX : Hid (Jx (esAt V bl j b (k + 1)) W6) := by rw [← esAt_next hlt4]; exact hJx6
            clear hJx6 hy
            dsimp only
            refine hK _ _ ?_
            clear hK K
            try simp only [Act.put, List.setIfInBounds_toArray, List.set_cons_zero, List.set_cons_succ, List.getElem_toArray, List.getElem_cons_zero, List.getElem_cons_succ]
            refine AnyI.one (i := 15) (by kernel_rfl) rfl (by kernel_rfl) (fun K hK => ?_)
            try simp only [List.getElem_toArray, List.getElem_cons_zero, List.getElem_cons_succ]
            go_simp
            refine hK _ _ ?_
            clear hK K
            try simp only [Act.put, List.setIfInBounds_toArray, List.set_cons_zero, List.set_cons_succ, List.getElem_toArray, List.getElem_cons_zero, List.getElem_cons_succ]
            refine AnyI.done (by kernel_rfl) ?_ _
            gi_wp2
            refine bodyPost_ret (results_none rfl _ _ _) rfl ?_
            exact ⟨⟨_, rfl⟩, .inr ⟨_, esAt_pre hb (by omega), HX.out⟩⟩
        · obtain rfl : k = 4 := by omega
          rename World => wk
          have HR4 : Hid (AllInv w0 Bd B W.heap.size J ((bl.take (j + 1)).flatMap (entsB V)) wk) := by rw [← esAt_four hb]; exact HRk.out
          gi_wp2
          go_roundw
          case rel => exact ⟨j + 1, by omega, rfl, HR4⟩
          case measure => simp [intOf]; omega
    · obtain rfl : j = mu := by omega
      have HX : Hid (J (bl.flatMap (entsB V)) wr) := by
        have := HR.out.2.2.2
        rw [List.take_of_length_le (by rw [HmE.out]; exact Nat.le_refl _)] at this
        exact this
      gi_wp2
      go_end0
      exact ⟨⟨_, rfl⟩, .inl ⟨_, rfl, HX.out⟩⟩
theorem dall_in (F : Fence) (n : Nat) (hf : F.fn 113) (hro : F.round = none) (B : Nat) (w : World) :
    CallsIn F n Tryz.prog 113 #[.pointer (some ⟨B, 0, none⟩)] w fun e w' => e = .returned (.func (.func 186) #[] #[.pointer (some ⟨w.heap.size, 0, none⟩)]) ∧ w' = w.alloc (.cells #[.pointer (some ⟨B, 0, none⟩)] 180) := by
  refine callsIn_of_wp Tryz.func113 rfl hf ?_ hro
  simp only [Tryz.ntmps113, List.size_toArray, List.length_cons, List.length_nil, Nat.reduceAdd, Nat.reduceSub, Array.replicate_succ, Array.replicate_zero, List.push_toArray, List.append_toArray, List.nil_append, List.cons_append]
  gi_wp2
  go_ret
  exact ⟨rfl, rfl⟩
theorem dall_stops (F : Fence) (n : Nat) (hf : F.fn 186) (hro : F.round = none) (hn : 1 ≤ n) (Bd B base : Nat) (nd : Sp.Inode) (V : Int → ByteArray) (bl : List Int) (w0 w : World) (hd : DirAt w0 base B nd V bl) (hW : Below w0.heap.size w0 w) (hm : w.heap[Bd]? = some (.cells #[.pointer (some ⟨B, 0, none⟩)] 180 (0, 0))) :
    SeqStopsK F n Tryz.prog 186 #[.pointer (some ⟨Bd, 0, none⟩)] entV (KeepsBox w0.heap.size Bd) (fun ys => ys = bl.flatMap (entsB V)) (fun pre => pre <+: bl.flatMap (entsB V)) (bl.flatMap (entsB V)).length w := fun y J Jx W hB hJ _ hY h0 =>
  dall1_in F n hf hro hn y Bd B base nd V bl J Jx w0 W hJ hY hd (hW.trans (hB.mono hW.size)) (heapOld hB hm) h0
end
end Go.Proofs.YtaphcmcimoloiaaGreatDoor
namespace Go.Proofs.YtaphcmcimoloiaaGreatDoor
open Go Go.RowKit Go.Shelf Txt Sp

attribute [local go_sem] Oper.semAt_some
def placeV : Option Ent → Value
  | some e => .agg #[.int .i64 e.inode, .int .i64 e.sec, .int .i64 (e.slot : Int)]
  | none => .agg #[.int .i64 0, .int .i64 0, .int .i64 0]
def placeC : Option Ent → Array Value
  | some e => #[.int .i64 e.inode, .int .i64 e.sec, .int .i64 (e.slot : Int)]
  | none => #[.int .i64 0, .int .i64 0, .int .i64 0]
def DFindPost (w : World) (r : Option Ent) (e : Ending) (w' : World) : Prop := e = .returned (.tuple #[placeV r, .bool r.isSome]) ∧ Below w.heap.size w w'
/-- The variables of find, while it goes. -/
structure FindI (w : World) (name : ByteArray) (r : Option Ent) (W : World) : Prop where
  below : Below w.heap.size w W
  nam : W.heap[w.heap.size]? = some (.cells #[.string name] 9 (0, 0))
  plc : W.heap[w.heap.size + 1]? = some (.cells (placeC r) 72 (0, 0))
  ok : W.heap[w.heap.size + 2]? = some (.cells #[.bool r.isSome] 4 (0, 0))
section
variable {w W W' : World} {name : ByteArray} {r : Option Ent}
theorem cells_kept {b : Nat} {cs : Array Value} {e : TypeId} {fr : Nat × Nat} {row : Option Nat} (h : W.heap[b]? = some (.cells cs e fr)) (hg : W.grownBy W' row) (hr : ∀ k, row = some k → ∃ o : Obj, W.heap[k]? = some o ∧ o.isCells = false) : W'.heap[b]? = some (.cells cs e fr) :=
  (hg.block b (Array.getElem?_eq_some_iff.1 h).1 (fun e => by
    obtain ⟨o, ho, hc⟩ := hr b e.symm
    rw [h] at ho
    cases ho
    cases hc)).trans h
theorem FindI.grown {row : Option Nat} (h : FindI w name r W) (hg : W.grownBy W' row) (hr : ∀ k, row = some k → w.heap.size ≤ k ∧ ∃ o : Obj, W.heap[k]? = some o ∧ o.isCells = false) : FindI w name r W' :=
  ⟨h.below.grown hg h.below.size (fun k e => (hr k e).1), cells_kept h.nam hg (fun k e => (hr k e).2), cells_kept h.plc hg (fun k e => (hr k e).2), cells_kept h.ok hg (fun k e => (hr k e).2)⟩
theorem FindI.alloc (h : FindI w name r W) (o : Obj) : FindI w name r (W.alloc o) :=
  h.grown (World.grownBy_alloc W o none) (fun k e => by cases e)
theorem FindI.set (h : FindI w name r W) (r' : Option Ent) {x y z : Value} (hp : placeC r' = #[x, y, z]) : FindI w name r' ((((W.setCell ⟨w.heap.size + 1, 0, none⟩ x).setCell ⟨w.heap.size + 1, 1, none⟩ y).setCell ⟨w.heap.size + 1, 2, none⟩ z).setCell ⟨w.heap.size + 2, 0, none⟩ (.bool r'.isSome)) := by
  refine ⟨(((h.below.setCell (p := ⟨w.heap.size + 1, 0, none⟩) (by simp) _).setCell (p := ⟨w.heap.size + 1, 1, none⟩) (by simp) _).setCell (p := ⟨w.heap.size + 1, 2, none⟩) (by simp) _).setCell (p := ⟨w.heap.size + 2, 0, none⟩) (by simp) _, ?_, ?_, ?_⟩
  · rw [setHeap_ne _ (by omega), setHeap_ne _ (by omega), setHeap_ne _ (by omega), setHeap_ne _ (by omega)]
    exact h.nam
  · rw [setHeap_ne _ (by omega)]
    have h3 := setHeap_at (k := 2) (setHeap_at (k := 1) (setHeap_at (k := 0) h.plc x) y) z
    rw [h3, hp]
    cases r <;> rfl
  · have h1 : (((W.setCell ⟨w.heap.size + 1, 0, none⟩ x).setCell ⟨w.heap.size + 1, 1, none⟩ y).setCell ⟨w.heap.size + 1, 2, none⟩ z).heap[w.heap.size + 2]? = some (.cells #[.bool r.isSome] 4 (0, 0)) := by
      rw [setHeap_ne _ (by omega), setHeap_ne _ (by omega), setHeap_ne _ (by omega)]
      exact h.ok
    exact setHeap_at (k := 0) h1 _
end
theorem grownBy_setCellK (W : World) (b k : Nat) (v : Value) : W.grownBy (W.setCell ⟨b, k, none⟩ v) (some b) :=
  ⟨by unfold World.setCell; split <;> rfl, by unfold World.setCell; split <;> rfl, by unfold World.setCell; split <;> rfl, by simp, fun j hj hne => setHeap_ne v (fun e => hne (by rw [e]))⟩
theorem findE_none {es : List Ent} {x : ByteArray} (h : ∀ e ∈ es, e.name ≠ x) : findE es x = none := by
  unfold findE
  rw [List.find?_eq_none]
  intro e he
  simpa using h e he
theorem findE_some {es pre : List Ent} {x : ByteArray} {e : Ent} (hp : pre ++ [e] <+: es) (h : ∀ e ∈ pre, e.name ≠ x) (he : e.name = x) : findE es x = some e := by
  obtain ⟨t, rfl⟩ := hp
  have := findE_none h
  unfold findE at *
  rw [List.append_assoc, List.find?_append, this]
  simp [he]
def FindG (w : World) (name : ByteArray) (pre : List Ent) (W : World) : Prop := (∀ e ∈ pre, e.name ≠ name) ∧ FindI w name none W
def FindX (w : World) (name : ByteArray) (c : Code) (pre : List Ent) (W : World) : Prop := c = .ret ∧ ∃ pre' e, pre = pre' ++ [e] ∧ (∀ x ∈ pre', x.name ≠ name) ∧ e.name = name ∧ FindI w name (some e) W
def FindA (w : World) (B : Nat) (name : ByteArray) (x : Ent) (a : Act) (W : World) : Prop :=
  ∃ Bx, W.heap[Bx]? = some (.cells #[.int .i64 x.inode, .int .i64 x.sec, .int .i64 (x.slot : Int)] 72 (0, 0)) ∧
    a = { tmps := #[.pointer (some ⟨B, 0, none⟩), .string name, undef, .pointer (some ⟨w.heap.size, 0, none⟩), .pointer (some ⟨w.heap.size + 1, 0, none⟩), .pointer (some ⟨w.heap.size + 2, 0, none⟩), .pointer (some ⟨Bx, 0, none⟩), .string x.name, .pointer (some ⟨B, 0, none⟩), .func (.func 186) #[] #[.pointer (some ⟨w.heap.size + 3, 0, none⟩)], .agg #[.int .i64 x.inode, .int .i64 x.sec, .int .i64 (x.slot : Int)], .string x.name, undef, undef, undef, undef, undef], defers := [] }
section
set_option maxHeartbeats 4000000
set_option maxRecDepth 100000
theorem dfind_in (F : Fence) (n : Nat) (hf : F.fn 111) (hf1 : F.fn 113) (hf2 : F.fn 186) (hro : F.round = none) (hn : 3 ≤ n) (B base : Nat) (nd : Sp.Inode) (V : Int → ByteArray) (bl : List Int) (name : ByteArray) (w : World) (hd : DirAt w base B nd V bl) :
    CallsIn F n Tryz.prog 111 #[.pointer (some ⟨B, 0, none⟩), .string name] w (DFindPost w (findE (bl.flatMap (entsB V)) name)) := by
  have h1 : 1 ≤ n := by omega
  obtain ⟨es, hes⟩ : ∃ es, bl.flatMap (entsB V) = es := ⟨_, rfl⟩
  rw [hes]
  refine callsIn_of_wp_marks Tryz.func111 rfl hf ?_ hro
  simp only [Tryz.ntmps111, List.size_toArray, List.length_cons, List.length_nil, Nat.reduceAdd, Nat.reduceSub, Array.replicate_succ, Array.replicate_zero, List.push_toArray, List.append_toArray, List.nil_append, List.cons_append]
  gi_wp2_with (gi_at_call 113; refine (dall_in F (n - 1) hf1 hro B _).mono ?_; rintro e w' ⟨rfl, rfl⟩)
  rw [show w.heap.size + 1 + 1 + 1 = w.heap.size + 3 from rfl, show w.heap.size + 1 + 1 = w.heap.size + 2 from rfl]
  obtain ⟨W0, hW0⟩ : ∃ W, (((w.alloc (.cells #[.string name] 9)).alloc (.cells #[.int .i64 0, .int .i64 0, .int .i64 0] 72)).alloc (.cells #[.bool false] 4)).alloc (.cells #[.pointer (some ⟨B, 0, none⟩)] 180) = W := ⟨_, rfl⟩
  have hsz : W0.heap.size = w.heap.size + 4 := by rw [← hW0]; simp
  have hI0 : FindI w name none W0 := by
    rw [← hW0]
    have a1 := heapNew w (.cells #[.string name] 9)
    have a2 := heapNew (w.alloc (.cells #[.string name] 9)) (.cells #[.int .i64 0, .int .i64 0, .int .i64 0] 72)
    have a3 := heapNew ((w.alloc (.cells #[.string name] 9)).alloc (.cells #[.int .i64 0, .int .i64 0, .int .i64 0] 72)) (.cells #[.bool false] 4)
    rw [World.size_alloc] at a2
    rw [World.size_alloc, World.size_alloc] at a3
    exact ⟨(((bl2 _).alloc (by simp) _).alloc (by simp; omega) _).alloc (by simp; omega) _, heapOld (bl2 _) (heapOld (bl2 _) (heapOld (bl2 _) a1)), heapOld (bl2 _) (heapOld (bl2 _) a2), heapOld (bl2 _) a3⟩
  have hbx : W0.heap[w.heap.size + 3]? = some (.cells #[.pointer (some ⟨B, 0, none⟩)] 180 (0, 0)) := by
    rw [← hW0]
    have a4 := heapNew (((w.alloc (.cells #[.string name] 9)).alloc (.cells #[.int .i64 0, .int .i64 0, .int .i64 0] 72)).alloc (.cells #[.bool false] 4)) (.cells #[.pointer (some ⟨B, 0, none⟩)] 180)
    rw [World.size_alloc, World.size_alloc, World.size_alloc] at a4
    exact a4
  rw [hW0]
  clear hW0
  have hst := dall_stops F (n - 1) hf2 hro (by omega) (w.heap.size + 3) B base nd V bl w W0 hd hI0.below hbx
  rw [hes] at hst
  clear hes hd
  refine wpIn_rangeFunc_ownH hro h1 (gf := 186) (lb := #[.pointer (some ⟨w.heap.size + 3, 0, none⟩)]) rfl hf2 (enters_of Tryz.func186 (by kernel_rfl) rfl)
    hst keepsBox_t (keepsBox_b (w := W0) (by omega) (by omega)) (Below.refl _ _) (fun _ => rfl)
    (FindG w name) (FindX w name)
    (fun pre X Y row hs hg hr => ⟨hs.1, hs.2.grown hg (fun k e => ⟨by have := (hr k e).1; omega, (hr k e).2⟩)⟩)
    (fun c pre X Y row hs hg hr => by obtain ⟨g1, pre', e, g2, g3, g4, g5⟩ := hs; exact ⟨g1, pre', e, g2, g3, g4, g5.grown hg (fun k e => ⟨by have := (hr k e).1; omega, (hr k e).2⟩)⟩)
    ⟨fun e he => (by cases he), hI0⟩
    (FindA w B name)
    (fun x a' _ X Y row hs hg hr => by obtain ⟨Bx, g2, g3⟩ := hs; exact ⟨Bx, cells_kept g2 hg (fun k e => (hr k e).2), g3⟩)
    ?assign ?body ?done ?stop
  case assign =>
    rintro l pre x W K hI hK
    have hlt := (Array.getElem?_eq_some_iff.1 hI.2.ok).1
    unfold entV
    dsimp only
    gi_wp2_with (rw [Oper.semAt_eq _ _ _ (fun c h => by cases h)]; go_simp; try go_bits)
    exact hK _ _ ((KeepsOthers.alloc _ _).from _) ⟨(Below.refl _ _).alloc hI.2.below.size _, fun hb => Below.heap_alloc _ _ _ hb⟩ ⟨hI.1, hI.2.alloc _⟩ ⟨W.heap.size, heapNew W _, rfl⟩
  case body =>
    rintro l pre x a' W hl hr ⟨hpre, hI⟩ ⟨Bx, bX, rfl⟩ hlt
    have n0 := cellOf (k := 0) hI.nam rfl
    have p0 := cellOf (k := 0) hI.plc rfl
    have p1 := cellOf (k := 1) hI.plc rfl
    have p2 := cellOf (k := 2) hI.plc rfl
    have q0 := cellOf (k := 0) hI.ok rfl
    have y0 := cellOf (k := 0) bX rfl
    have y1 := cellOf (k := 1) bX rfl
    have y2 := cellOf (k := 2) bX rfl
    have g0 : ∀ k, W.frozen? ⟨w.heap.size + 1, k, none⟩ = false := (blk_cells hI.plc).2
    have g1 : ∀ k, W.frozen? ⟨w.heap.size + 2, k, none⟩ = false := (blk_cells hI.ok).2
    have HI := Lib.hid hI
    by_cases hx : x.name = name
    · have HX : Hid (FindX w name .ret (pre ++ [x]) _) := ⟨rfl, pre, x, rfl, hpre, hx, hI.set (some x) rfl⟩
      have hq : (x.name.toList == name.toList) = true := by simp [hx]
      have hK4 : ∀ (W : World) (k : Nat) (v : Value), KeepsFrom W0.heap.size W (W.setCell ⟨w.heap.size + 1, k, none⟩ v) := fun W k v => KeepsFrom.of_grownBy (grownBy_setCellK W _ k v) (fun j e => by cases e; omega)
      have hK5 : ∀ (W : World) (k : Nat) (v : Value), KeepsFrom W0.heap.size W (W.setCell ⟨w.heap.size + 2, k, none⟩ v) := fun W k v => KeepsFrom.of_grownBy (grownBy_setCellK W _ k v) (fun j e => by cases e; omega)
      clear hI
      gi_wp2_with (rw [Oper.semAt_eq _ _ _ (fun c h => by cases h)]; go_simp; try go_bits)
      exact ⟨(((hK4 _ _ _).trans (hK4 _ _ _)).trans (hK4 _ _ _)).trans (hK5 _ _ _), HX.out⟩
    · have HX : Hid (FindG w name (pre ++ [x]) W) := ⟨fun e he => by
        rcases List.mem_append.1 he with h | h
        · exact hpre e h
        · rw [List.mem_singleton.1 h]; exact hx, hI⟩
      have hq : (x.name.toList == name.toList) = false := (text_eq _ _).trans (decide_eq_false hx)
      clear hI
      gi_wp2_with (rw [Oper.semAt_eq _ _ _ (fun c h => by cases h)]; go_simp; try go_bits)
      exact ⟨KeepsFrom.refl _ _, ⟨Below.refl _ _, fun _ => rfl⟩, HX.out⟩
  case done =>
    rintro D xs W hD rfl ⟨hpre, hI⟩ hK
    have HN := Lib.hid (findE_none hpre)
    clear hpre
    have p0 := cellOf (k := 0) hI.plc rfl
    have p1 := cellOf (k := 1) hI.plc rfl
    have p2 := cellOf (k := 2) hI.plc rfl
    have q0 := cellOf (k := 0) hI.ok rfl
    have g0 : ∀ k, W.frozen? ⟨w.heap.size + 1, k, none⟩ = false := (blk_cells hI.plc).2
    have g1 : ∀ k, W.frozen? ⟨w.heap.size + 2, k, none⟩ = false := (blk_cells hI.ok).2
    have hS := hI.set none (x := .int .i64 0) (y := .int .i64 0) (z := .int .i64 0) rfl
    have hK2 : ((((W.setCell ⟨w.heap.size + 1, 0, none⟩ (.int .i64 0)).setCell ⟨w.heap.size + 1, 1, none⟩ (.int .i64 0)).setCell ⟨w.heap.size + 1, 2, none⟩ (.int .i64 0)).setCell ⟨w.heap.size + 2, 0, none⟩ (.bool false)).heap[D]? = some (.deferred (some [])) := by
      rw [setHeap_ne _ (by omega), setHeap_ne _ (by omega), setHeap_ne _ (by omega), setHeap_ne _ (by omega)]
      exact hK
    have HF : Hid (FindI w name none (World.putObj _ D (.deferred none))) := hS.grown (grownBy_putObj' _ D (.deferred none)) (fun k e => by cases e; exact ⟨by omega, _, hK2, rfl⟩)
    clear hS
    clear hI
    gi_wp2
    refine ⟨by simp, .inl ⟨_, _, rfl, run_takeDeferred hK2, ?_⟩⟩
    rw [HN.out]
    obtain ⟨W7, hW7⟩ : ∃ Z, (((((W.setCell ⟨w.heap.size + 1, 0, none⟩ (.int .i64 0)).setCell ⟨w.heap.size + 1, 1, none⟩ (.int .i64 0)).setCell ⟨w.heap.size + 1, 2, none⟩ (.int .i64 0)).setCell ⟨w.heap.size + 2, 0, none⟩ (.bool false)).putObj D (.deferred none)) = Z := ⟨_, rfl⟩
    have HF2 : Hid (FindI w name none W7) := by rw [← hW7]; exact HF.out
    rw [hW7]
    clear hW7 HF
    refine ⟨.tuple #[placeV none, .bool false], ?_, rfl, HF2.out.below⟩
    have r0 := cellOf (k := 0) HF2.out.plc rfl
    have r1 := cellOf (k := 1) HF2.out.plc rfl
    have r2 := cellOf (k := 2) HF2.out.plc rfl
    have r3 := cellOf (k := 0) HF2.out.ok rfl
    simp [results, Tryz.results111, go_sem, r0, r1, r2, r3]
    rfl
  case stop =>
    rintro D c pre W hD hp ⟨rfl, pre', e, rfl, hpre, he, hI⟩ hK
    rw [findE_some hp hpre he]
    have HF : Hid (FindI w name (some e) (World.putObj _ D (.deferred none))) := hI.grown (grownBy_putObj' _ D (.deferred none)) (fun k e => by cases e; exact ⟨by omega, _, hK, rfl⟩)
    clear hI
    gi_wp2
    refine ⟨by simp, .inl ⟨_, _, rfl, run_takeDeferred hK, ?_⟩⟩
    refine ⟨.tuple #[placeV (some e), .bool true], ?_, rfl, HF.out.below⟩
    have r0 := cellOf (k := 0) HF.out.plc rfl
    have r1 := cellOf (k := 1) HF.out.plc rfl
    have r2 := cellOf (k := 2) HF.out.plc rfl
    have r3 := cellOf (k := 0) HF.out.ok rfl
    simp [results, Tryz.results111, go_sem, r0, r1, r2, r3]
    rfl
theorem dfind_any {w : World} {base B : Nat} {nd : Sp.Inode} {V : Int → ByteArray} {bl : List Int} (hd : DirAt w base B nd V bl) (name : ByteArray) :
    Calls Tryz.prog 111 #[.pointer (some ⟨B, 0, none⟩), .string name] w (DFindPost w (findE (bl.flatMap (entsB V)) name)) :=
  callsIn_wide.1 (dfind_in Fence.wide 5 trivial trivial trivial rfl (by omega) B base nd V bl name w hd)
end
end Go.Proofs.YtaphcmcimoloiaaGreatDoor
namespace Go.Proofs.YtaphcmcimoloiaaGreatDoor
open Go Go.RowKit Txt Sp

def findC (es : List Ent) (name : ByteArray) : Int := if nameB name = true then (if (findE es name).isSome then 0 else 100) else 90
def findR (es : List Ent) (name : ByteArray) : Option Ent := if nameB name = true then findE es name else none
def FindPost (w : World) (es : List Ent) (name : ByteArray) (e : Ending) (w' : World) : Prop := e = .returned (.tuple #[placeV (findR es name), .int .i64 (findC es name)]) ∧ Below w.heap.size w w'
section
variable {w W : World}
def PlaceAt (w : World) (b : Nat) (r : Option Ent) (W : World) : Prop := Below w.heap.size w W ∧ W.heap[b]? = some (.cells (placeC r) 72 (0, 0))
theorem PlaceAt.set {b : Nat} {r : Option Ent} (h : PlaceAt w b r W) (hb : w.heap.size ≤ b) (r' : Option Ent) {x y z : Value} (hp : placeC r' = #[x, y, z]) : PlaceAt w b r' (((W.setCell ⟨b, 0, none⟩ x).setCell ⟨b, 1, none⟩ y).setCell ⟨b, 2, none⟩ z) := by
  refine ⟨((h.1.setCell (p := ⟨b, 0, none⟩) hb _).setCell (p := ⟨b, 1, none⟩) hb _).setCell (p := ⟨b, 2, none⟩) hb _, ?_⟩
  have h3 := setHeap_at (k := 2) (setHeap_at (k := 1) (setHeap_at (k := 0) h.2 x) y) z
  rw [h3, hp]
  cases r <;> rfl
end
section
set_option maxHeartbeats 2000000
set_option maxRecDepth 20000 in
theorem dirFind_any {w : World} {base Bs Bd : Nat} {S : Sp.Side} {D : Nat → Prop} (h : SideAt w base Bs Bd S D) {g : Sp.Geom} {i : Int} {F : File} (hs : Stands S g i F) (hd : DirOk S.read F) (hb : ∀ b ∈ F.blocks, 0 ≤ b) (hh : ∀ b ∈ dirBlks F, S.disk.has b) (hm : MaxOk w) (name : ByteArray) (hnm : name.size ≤ 9223372036854775807) :
    Calls Tryz.prog 38 #[pt Bs, gV g, .int .i64 i, .string name] w (FindPost w (ents S.read F) name) := by
  have hop := fun (W : World) (hW : Below w.heap.size w W) => dopen_any (h.below hW) hs hd hb hh (hm.below hW)
  have hna := fun (W : World) (hW : Below w.heap.size w W) => name_any name W (hm.below hW) hnm
  have hfi := fun (W : World) (base B : Nat) (hd : DirAt W base B F.node S.read (dirBlks F)) => dfind_any hd name
  obtain ⟨es, hes⟩ : ∃ es, ents S.read F = es := ⟨_, rfl⟩
  have hes2 : (dirBlks F).flatMap (entsB S.read) = es := hes
  rw [hes2] at hfi
  rw [hes]
  unfold DOpenPost at hop
  obtain ⟨V, hV⟩ : ∃ V, S.read = V := ⟨_, rfl⟩
  obtain ⟨bl, hbl⟩ : ∃ bl, dirBlks F = bl := ⟨_, rfl⟩
  obtain ⟨nd, hnd⟩ : ∃ nd, F.node = nd := ⟨_, rfl⟩
  rw [hV, hbl, hnd] at hop hfi
  obtain ⟨ga, gb, gc⟩ := g
  unfold gV pt at *
  dsimp only at hop
  have HOP := Lib.hid hop
  have HNA := Lib.hid hna
  have HFI := Lib.hid hfi
  clear hop hna hfi
  clear h hs hd hb hh hm hnm hes hes2 hV hbl hnd
  obtain ⟨W0, hW0⟩ : ∃ W, (w.alloc (.cells #[.int .i64 ga, .int .i64 gb, .int .i64 gc] 27)).alloc (.cells #[.int .i64 0, .int .i64 0, .int .i64 0] 72) = W := ⟨_, rfl⟩
  have hP0 : PlaceAt w (w.heap.size + 1) none W0 := by
    rw [← hW0]
    have a2 := heapNew (w.alloc (.cells #[.int .i64 ga, .int .i64 gb, .int .i64 gc] 27)) (.cells #[.int .i64 0, .int .i64 0, .int .i64 0] 72)
    rw [World.size_alloc] at a2
    exact ⟨(bl2 _).alloc (by simp) _, a2⟩
  have hg0 : W0.heap[w.heap.size]? = some (.cells #[.int .i64 ga, .int .i64 gb, .int .i64 gc] 27 (0, 0)) := by
    rw [← hW0]
    exact heapOld (bl2 _) (heapNew w _)
  have HP0 := Lib.hid hP0
  have z0 := cellOf (k := 0) hg0 rfl
  have z1 := cellOf (k := 1) hg0 rfl
  have z2 := cellOf (k := 2) hg0 rfl
  clear hP0 hg0
  go_enter Tryz.func38, Tryz.ntmps38
  go_wp2_with fail
  clear z0 z1 z2 hW0
  refine (HOP.out W0 HP0.out.1).mono ?_
  rintro e w1 ⟨B, rfl, hda, hb1⟩
  have HP1 : Hid (PlaceAt w (w.heap.size + 1) none w1) := ⟨HP0.out.1.trans (hb1.mono HP0.out.1.size), heapOld hb1 HP0.out.2⟩
  have HDA := Lib.hid hda
  clear hda hb1
  obtain ⟨bn, hbn⟩ : ∃ b, nameB name = b := ⟨_, rfl⟩
  cases bn with
  | false =>
    have HR : Hid (findR es name = none) := by unfold findR; rw [hbn]; rfl
    have HC : Hid (findC es name = 90) := by unfold findC; rw [hbn]; rfl
    have p0 := cellOf (k := 0) HP1.out.2 rfl
    have p1 := cellOf (k := 1) HP1.out.2 rfl
    have p2 := cellOf (k := 2) HP1.out.2 rfl
    have g0 : ∀ k, w1.frozen? ⟨w.heap.size + 1, k, none⟩ = false := (blk_cells HP1.out.2).2
    go_wp2_with fail
    refine (HNA.out w1 HP1.out.1).mono ?_
    rintro e w2 ⟨rfl, hw2⟩
    subst hw2
    rw [hbn]
    have hP9 := HP1.out.set (by omega) none (x := .int .i64 0) (y := .int .i64 0) (z := .int .i64 0) rfl
    obtain ⟨W9, hW9⟩ : ∃ Z, (((w1.setCell ⟨w.heap.size + 1, 0, none⟩ (.int .i64 0)).setCell ⟨w.heap.size + 1, 1, none⟩ (.int .i64 0)).setCell ⟨w.heap.size + 1, 2, none⟩ (.int .i64 0)) = Z := ⟨_, rfl⟩
    rw [hW9] at hP9
    have HP9 := Lib.hid hP9
    have r0 := cellOf (k := 0) HP9.out.2 rfl
    have r1 := cellOf (k := 1) HP9.out.2 rfl
    have r2 := cellOf (k := 2) HP9.out.2 rfl
    clear hP9
    go_wp2
    refine bodyPost_ret (v := .tuple #[placeV none, .int .i64 90]) ?_ rfl ?_
    · first | rw [hW9] | skip
      simp [results, Tryz.results38, go_sem, r0, r1, r2]
      rfl
    · exact ⟨by rw [HR.out, HC.out], by first | exact HP9.out.1 | (rw [hW9]; exact HP9.out.1)⟩
  | true =>
    go_wp2_with fail
    refine (HNA.out w1 HP1.out.1).mono ?_
    rintro e w2 ⟨rfl, hw2⟩
    subst hw2
    rw [hbn]
    go_wp2_with fail
    refine (HFI.out w1 _ B HDA.out).mono ?_
    rintro e w3 ⟨rfl, hb3⟩
    have HP3 : Hid (PlaceAt w (w.heap.size + 1) none w3) := ⟨HP1.out.1.trans (hb3.mono HP1.out.1.size), heapOld hb3 HP1.out.2⟩
    clear hb3
    cases hr : findE es name with
    | none =>
      have HR : Hid (findR es name = none) := by unfold findR; rw [hbn, hr]; rfl
      have HC : Hid (findC es name = 100) := by unfold findC; rw [hbn, hr]; rfl
      clear hr hbn
      unfold placeV
      dsimp only [Option.isSome]
      obtain ⟨w4, hw4⟩ : ∃ W, w3.alloc (.cells #[.int .i64 0, .int .i64 0, .int .i64 0] 72) = W := ⟨_, rfl⟩
      have HP4 : Hid (PlaceAt w (w.heap.size + 1) none w4) := by rw [← hw4]; exact ⟨HP3.out.1.trans ((bl2 _).mono HP3.out.1.size), heapOld (bl2 _) HP3.out.2⟩
      have HZ4 : Hid (w4.heap[w3.heap.size]? = some (.cells #[.int .i64 0, .int .i64 0, .int .i64 0] 72 (0, 0))) := by rw [← hw4]; exact heapNew w3 _
      have q0 := cellOf (k := 0) HZ4.out rfl
      have q1 := cellOf (k := 1) HZ4.out rfl
      have q2 := cellOf (k := 2) HZ4.out rfl
      have hz : ∀ k, w4.frozen? ⟨w3.heap.size, k, none⟩ = false := (blk_cells HZ4.out).2
      obtain ⟨w5, hw5⟩ : ∃ Z, ((w4.setCell ⟨w3.heap.size, 0, none⟩ (.int .i64 0)).setCell ⟨w3.heap.size, 1, none⟩ (.int .i64 0)).setCell ⟨w3.heap.size, 2, none⟩ (.int .i64 0) = Z := ⟨_, rfl⟩
      have HP5 : Hid (PlaceAt w (w.heap.size + 1) none w5) := by
        have h3 := (Array.getElem?_eq_some_iff.1 HP3.out.2).1
        have hle := HP3.out.1.size
        rw [← hw5]
        refine ⟨((HP4.out.1.setCell (p := ⟨w3.heap.size, 0, none⟩) hle _).setCell (p := ⟨w3.heap.size, 1, none⟩) hle _).setCell (p := ⟨w3.heap.size, 2, none⟩) hle _, ?_⟩
        rw [setHeap_ne _ (by omega), setHeap_ne _ (by omega), setHeap_ne _ (by omega)]
        exact HP4.out.2
      have p0 := cellOf (k := 0) HP5.out.2 rfl
      have p1 := cellOf (k := 1) HP5.out.2 rfl
      have p2 := cellOf (k := 2) HP5.out.2 rfl
      have g0 : ∀ k, w5.frozen? ⟨w.heap.size + 1, k, none⟩ = false := (blk_cells HP5.out.2).2
      have hP9 := HP5.out.set (by omega) (none) (x := .int .i64 0) (y := .int .i64 0) (z := .int .i64 0) rfl
      obtain ⟨W9, hW9⟩ : ∃ Z, (((w5.setCell ⟨w.heap.size + 1, 0, none⟩ (.int .i64 0)).setCell ⟨w.heap.size + 1, 1, none⟩ (.int .i64 0)).setCell ⟨w.heap.size + 1, 2, none⟩ (.int .i64 0)) = Z := ⟨_, rfl⟩
      rw [hW9] at hP9
      have HP9 := Lib.hid hP9
      have r0 := cellOf (k := 0) HP9.out.2 rfl
      have r1 := cellOf (k := 1) HP9.out.2 rfl
      have r2 := cellOf (k := 2) HP9.out.2 rfl
      clear hP9
      go_wp2
      refine bodyPost_ret (v := .tuple #[placeV (none), .int .i64 100]) ?_ rfl ?_
      · first | rw [hW9] | skip
        simp [results, Tryz.results38, go_sem, r0, r1, r2]
        rfl
      · exact ⟨by rw [HR.out, HC.out], by first | exact HP9.out.1 | (rw [hW9]; exact HP9.out.1)⟩
    | some x =>
      have HR : Hid (findR es name = some x) := by unfold findR; rw [hbn, hr]; rfl
      have HC : Hid (findC es name = 0) := by unfold findC; rw [hbn, hr]; rfl
      clear hr hbn
      unfold placeV
      dsimp only [Option.isSome]
      obtain ⟨w4, hw4⟩ : ∃ W, w3.alloc (.cells #[.int .i64 x.inode, .int .i64 x.sec, .int .i64 (x.slot : Int)] 72) = W := ⟨_, rfl⟩
      have HP4 : Hid (PlaceAt w (w.heap.size + 1) none w4) := by rw [← hw4]; exact ⟨HP3.out.1.trans ((bl2 _).mono HP3.out.1.size), heapOld (bl2 _) HP3.out.2⟩
      have HZ4 : Hid (w4.heap[w3.heap.size]? = some (.cells #[.int .i64 x.inode, .int .i64 x.sec, .int .i64 (x.slot : Int)] 72 (0, 0))) := by rw [← hw4]; exact heapNew w3 _
      have q0 := cellOf (k := 0) HZ4.out rfl
      have q1 := cellOf (k := 1) HZ4.out rfl
      have q2 := cellOf (k := 2) HZ4.out rfl
      have p0 := cellOf (k := 0) HP4.out.2 rfl
      have p1 := cellOf (k := 1) HP4.out.2 rfl
      have p2 := cellOf (k := 2) HP4.out.2 rfl
      have g0 : ∀ k, w4.frozen? ⟨w.heap.size + 1, k, none⟩ = false := (blk_cells HP4.out.2).2
      have hP9 := HP4.out.set (by omega) (some x) (x := .int .i64 x.inode) (y := .int .i64 x.sec) (z := .int .i64 (x.slot : Int)) rfl
      obtain ⟨W9, hW9⟩ : ∃ Z, (((w4.setCell ⟨w.heap.size + 1, 0, none⟩ (.int .i64 x.inode)).setCell ⟨w.heap.size + 1, 1, none⟩ (.int .i64 x.sec)).setCell ⟨w.heap.size + 1, 2, none⟩ (.int .i64 (x.slot : Int))) = Z := ⟨_, rfl⟩
      rw [hW9] at hP9
      have HP9 := Lib.hid hP9
      have r0 := cellOf (k := 0) HP9.out.2 rfl
      have r1 := cellOf (k := 1) HP9.out.2 rfl
      have r2 := cellOf (k := 2) HP9.out.2 rfl
      clear hP9
      go_wp2
      refine bodyPost_ret (v := .tuple #[placeV (some x), .int .i64 0]) ?_ rfl ?_
      · first | rw [hW9] | skip
        simp [results, Tryz.results38, go_sem, r0, r1, r2]
        rfl
      · exact ⟨by rw [HR.out, HC.out], by first | exact HP9.out.1 | (rw [hW9]; exact HP9.out.1)⟩
end
end Go.Proofs.YtaphcmcimoloiaaGreatDoor
