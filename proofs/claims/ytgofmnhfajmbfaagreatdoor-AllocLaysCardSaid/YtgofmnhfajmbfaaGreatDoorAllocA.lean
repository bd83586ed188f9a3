/-
  AllocA: Leas, AllocFormat.
-/
import Derived.Test.YtgofmnhfajmbfaaGreatDoorMapsB
import Derived.Test.YtgofmnhfajmbfaaGreatDoorInodeA
import Derived.Test.YtgofmnhfajmbfaaGreatDoorTableA
import Derived.Laws.CopyOwn
namespace Go.Proofs.YtgofmnhfajmbfaaGreatDoor
open Go Go.RowKit Txt Sp

/-- A block of leases. -/
def leasO (l : List (Int × Int)) (t : TypeId) : Obj := .cells (l.flatMap leaC).toArray t (0, 0)
theorem leaC_at : ∀ (l : List (Int × Int)) (i : Nat) (x : Int × Int), l[i]? = some x → (l.flatMap leaC)[2 * i]? = some (.int .i64 x.1) ∧ (l.flatMap leaC)[2 * i + 1]? = some (.int .i64 x.2)
  | [], i, x, h => by simp at h
  | y :: r, 0, x, h => by
    have e : y = x := by simpa using h
    subst e
    exact ⟨rfl, rfl⟩
  | y :: r, i + 1, x, h => by
    have := leaC_at r i x (by simpa using h)
    rw [show 2 * (i + 1) = 2 * i + 2 by omega]
    exact this
theorem leaC_set : ∀ (l : List (Int × Int)) (i : Nat) (x : Int × Int), i < l.length → ((l.flatMap leaC).set (2 * i) (.int .i64 x.1)).set (2 * i + 1) (.int .i64 x.2) = (l.set i x).flatMap leaC
  | [], i, x, h => by simp at h
  | y :: r, 0, x, h => rfl
  | y :: r, i + 1, x, h => by
    have := leaC_set r i x (by simpa using h)
    rw [show 2 * (i + 1) = 2 * i + 2 by omega]
    show (Value.int .i64 y.1 :: Value.int .i64 y.2 :: ((r.flatMap leaC).set (2 * i) (.int .i64 x.1)).set (2 * i + 1) (.int .i64 x.2)) = _
    rw [this]
    rfl
theorem leas_cell {w : World} {g i : Nat} {l : List (Int × Int)} {t : TypeId} {x : Int × Int} (h : w.heap[g]? = some (leasO l t)) (hi : l[i]? = some x) : w.cell? ⟨g, 2 * i, none⟩ = some (.int .i64 x.1) ∧ w.cell? ⟨g, 2 * i + 1, none⟩ = some (.int .i64 x.2) := by
  have h2 := leaC_at l i x hi
  exact ⟨cellOf h (by rw [List.getElem?_toArray]; exact h2.1), cellOf h (by rw [List.getElem?_toArray]; exact h2.2)⟩
theorem leas_free {w : World} {g i : Nat} {l : List (Int × Int)} {t : TypeId} (h : w.heap[g]? = some (leasO l t)) : w.frozen? ⟨g, i, none⟩ = false := freeOf h
theorem leas_set {w : World} {g i : Nat} {l : List (Int × Int)} {t : TypeId} (h : w.heap[g]? = some (leasO l t)) (hi : i < l.length) (x : Int × Int) : ((w.setCell ⟨g, 2 * i, none⟩ (.int .i64 x.1)).setCell ⟨g, 2 * i + 1, none⟩ (.int .i64 x.2)).heap[g]? = some (leasO (l.set i x) t) := by
  have h1 := setHeap_at (k := 2 * i) h (.int .i64 x.1)
  have h2 := setHeap_at (k := 2 * i + 1) h1 (.int .i64 x.2)
  have e : ((l.flatMap leaC).toArray.setIfInBounds (2 * i) (.int .i64 x.1)).setIfInBounds (2 * i + 1) (.int .i64 x.2) = ((l.set i x).flatMap leaC).toArray := by
    apply Array.toList_inj.1
    rw [Array.toList_setIfInBounds, Array.toList_setIfInBounds]
    exact leaC_set l i x hi
  rw [e] at h2
  exact h2
theorem leas_flat (n : Nat) : (List.replicate n ((0 : Int), (0 : Int))).flatMap leaC = List.replicate (2 * n) (Value.int .i64 0) := by
  induction n with
  | zero => rfl
  | succ n ih =>
    rw [List.replicate_succ, List.flatMap_cons, ih, show 2 * (n + 1) = 2 * n + 1 + 1 by omega, List.replicate_succ, List.replicate_succ]
    rfl
theorem made_two (n : Nat) : (madeCells #[Value.int .i64 0, Value.int .i64 0] (2 * n)) = ((List.replicate n ((0 : Int), (0 : Int))).flatMap leaC).toArray := by
  apply Array.toList_inj.1
  rw [leas_flat]
  show (madeCells #[Value.int .i64 0, Value.int .i64 0] (2 * n)).toList = List.replicate (2 * n) (Value.int .i64 0)
  refine List.eq_replicate_iff.2 ⟨by simp [madeCells], fun b hb => ?_⟩
  simp only [madeCells, Array.toList_map, List.mem_map] at hb
  obtain ⟨i, _, rfl⟩ := hb
  have h2 : i % 2 = 0 ∨ i % 2 = 1 := by omega
  show #[Value.int .i64 0, Value.int .i64 0][i % 2]! = _
  rcases h2 with h | h <;> rw [h] <;> rfl
theorem infoLease : (Tryz.prog.info? 185).map (fun i => (i.zero, i.size, i.bytes)) = some (some (.agg #[.int .i64 0, .int .i64 0]), 2, 16) := by kernel_rfl
theorem run_make_leas (w : World) (n : Nat) (hn : n ≤ 4000000000) :
    (Instr.makeSlice 83 (.int .i64 (n : Int)) (.int .i64 (n : Int))).run Tryz.prog w = .ok (.slice (some ⟨w.heap.size, 0, none⟩) n n) (w.alloc (leasO (List.replicate n (0, 0)) 185)) := by
  obtain ⟨i0, hi, hz0, hz1, hz2⟩ := info_parts infoLease
  have h := run_make (P := Tryz.prog) w 83 185 i0 _ Tryz.underlying83 hi hz0 .i64 .i64 (n : Int) (n : Int) (by omega) (Int.le_refl _) (by rw [hz2]; omega) (by omega)
  rw [h, hz1, Int.toNat_natCast]
  have : madeCells (Value.agg #[.int .i64 0, .int .i64 0]).cells (n * 2) = ((List.replicate n ((0 : Int), (0 : Int))).flatMap leaC).toArray := by
    rw [Nat.mul_comm]
    exact made_two n
  rw [this]
  rfl
theorem leas_row {w : World} {g : Nat} {l : List (Int × Int)} {t : TypeId} (h : w.heap[g]? = some (leasO l t)) (h2 : l.length ≤ maxLen) {n : Nat} (hn : n = l.length) : Leases w (.slice (some ⟨g, 0, none⟩) n n) l := by
  subst hn
  refine ⟨some ⟨g, 0, none⟩, l.length, by rw [List.length_map], by rw [List.length_map]; exact Nat.le_refl _, h2, fun _ => ⟨g, 0, rfl, (Array.getElem?_eq_some_iff.1 h).1, fun j x hx i y hy => ?_⟩⟩
  rw [List.getElem?_map] at hx
  obtain ⟨p, hp, rfl⟩ := Option.map_eq_some_iff.1 hx
  have hc := leas_cell h hp
  match i, hy with
  | 0, hy =>
    have e : Value.int .i64 p.1 = y := by simpa [leaC] using hy
    rw [← e, Nat.zero_add, Nat.mul_comm]
    exact hc.1
  | 1, hy =>
    have e : Value.int .i64 p.2 = y := by simpa [leaC] using hy
    rw [← e, Nat.zero_add, Nat.mul_comm]
    exact hc.2
  | k + 2, hy => simp [leaC] at hy
end Go.Proofs.YtgofmnhfajmbfaaGreatDoor

namespace Go.Proofs.YtgofmnhfajmbfaaGreatDoor
open Go Go.RowKit Txt Sp

def fmtL (g : Sp.Geom) (n f : Nat) : List ByteArray := (((((List.replicate n Sp.blank).set 0 (superB g)).set 1 (wallB 0 0)).set f (ofL (1 :: zeros 63))).set (f + 2) (inodeB rootN))
theorem fmtL_eq {g : Sp.Geom} {n f : Nat} (hn : (n : Int) = g.size) (hf : (f : Int) = g.first 0) (h3 : 3 ≤ f) : fmtL g n f = formatL g := by
  unfold fmtL formatL
  have e : g.size.toNat = n := by omega
  rw [e]
  apply List.ext_getElem
  · simp
  · intro i h1 h2
    rw [List.getElem_map, List.getElem_range]
    simp only [List.getElem_set, List.getElem_replicate]
    by_cases c0 : i = 0
    · subst c0
      rw [if_neg (by omega), if_neg (by omega), if_neg (by omega), if_pos rfl, if_pos rfl]
    · rw [if_neg c0]
      by_cases c1 : i = 1
      · subst c1
        rw [if_neg (by omega), if_neg (by omega), if_pos rfl, if_pos rfl]
      · rw [if_neg c1]
        by_cases c2 : i = f
        · subst c2
          rw [if_neg (by omega), if_pos rfl, if_pos hf]
        · rw [if_neg (show ¬ (i : Int) = g.first 0 by omega)]
          by_cases c3 : i = f + 2
          · subst c3
            rw [if_pos rfl, if_pos (by omega)]
          · rw [if_neg (by omega), if_neg (by omega), if_neg (by omega), if_neg (by omega), if_neg (by omega)]
theorem fmt_room {g : Sp.Geom} (hg : g.ok) : g.first 0 = 2 + g.tables ∧ g.first 0 + 4 ≤ g.size ∧ 0 ≤ g.tables := by
  have h1 := Geom.regions_bd hg
  have h2 := Geom.long_bd hg
  rw [Geom.size_ok hg]
  obtain ⟨g1, g2, _⟩ := hg
  unfold Geom.first Geom.tables
  have e : g.groups = 1 ∨ g.groups = 2 ∨ g.groups = 3 ∨ g.groups = 4 := by omega
  rcases e with e | e | e | e <;> rw [e] <;> omega
theorem fmt_map {g : Sp.Geom} (hg : g.ok) : mapAt g 0 false = (g.first 0, 0) := by
  have h := hg.1
  have hw : g.within 0 g.groups = 0 := by unfold Geom.within; rw [if_pos hg, if_neg (by omega)]
  unfold mapAt
  rw [if_pos hw, if_neg (by decide), Int.add_zero]
theorem fmt_many {g : Sp.Geom} (hg : g.ok) : 1 ≤ g.many := by
  rw [Geom.many_ok hg]
  have h1 := hg.1
  have h2 := hg.2.2.1
  have := Int.mul_le_mul h1 h2 (by omega) (by omega)
  omega
theorem fmt_inode {g : Sp.Geom} (hg : g.ok) : inodeAt g 1 = (g.first 0 + 2, 0, 0, 0) := by
  have hm := fmt_many hg
  have hw : g.within 1 (g.many + 1) = 0 := by unfold Geom.within; rw [if_pos hg, if_neg (by omega)]
  unfold inodeAt
  rw [if_pos hw, if_neg (by decide)]
  have e1 : ((1 : Int) - 1) / g.inodes = 0 := by rw [Int.sub_self, Int.zero_ediv]
  have e2 : ((1 : Int) - 1) % g.inodes = 0 := by rw [Int.sub_self, Int.zero_emod]
  rw [e1, e2, Int.add_zero]
theorem fmt_fits {g : Sp.Geom} (hg : g.ok) : (iN 2 1 0 1 1 0 0 0 0 0 0 0 0 0).check g = 0 := by
  have hm := fmt_many hg
  have hb : blockOk g 0 := Or.inl rfl
  unfold Inode.check
  rw [if_pos hg, if_pos]
  unfold Inode.fits
  refine ⟨by decide, by decide, by decide, by decide, by decide, by decide, Or.inr (Or.inr ⟨rfl, rfl, by decide, ?_, ?_⟩)⟩
  · show (1 : Int) ≤ g.many; omega
  · refine ⟨fun b h => ?_, hb⟩
    have e : b = 0 := by simpa [iN] using h
    rw [e]
    exact hb
theorem fmt_of {g : Sp.Geom} (hg : g.ok) : ofC g.inodes [0] = 0 := by
  have h1 := hg.2.2.1
  have h2 := hg.2.2.2.1
  unfold ofC
  rw [if_neg]
  rintro (h | h | ⟨p, hp, h⟩)
  · omega
  · omega
  · rw [List.mem_singleton] at hp
    subst hp
    omega
theorem splice_same {α : Type} (l cs : List α) (o : Nat) (h : (l.drop o).take cs.length = cs) : splice l o cs = l := by
  unfold splice
  have e : cs ++ l.drop (o + cs.length) = l.drop o := by
    rw [← List.drop_drop]
    have h2 := List.take_append_drop cs.length (l.drop o)
    rw [h] at h2
    exact h2
  rw [e, List.take_append_drop]
theorem zeroL_flat : ∀ m : Nat, (List.replicate m ((0 : Int), (0 : Int))).flatMap leaseB = zeros (4 * m)
  | 0 => rfl
  | m + 1 => by
    rw [List.replicate_succ, List.flatMap_cons, zeroL_flat m]
    unfold zeros
    rw [show 4 * (m + 1) = 4 + 4 * m by omega, ← List.replicate_append_replicate]
    rfl
theorem tab_free (T R : Nat) : tabB T (List.replicate R (0, 0)) = List.replicate T Sp.blank := by
  unfold tabB
  apply List.ext_getElem
  · simp
  · intro i h1 h2
    rw [List.getElem_map, List.getElem_range, List.getElem_replicate, List.drop_replicate, List.take_replicate]
    unfold secB
    rw [zeroL_flat]
    unfold padL
    have h64 : (zeros (4 * min 16 (R - 16 * i))).length ≤ 64 := by unfold zeros; rw [List.length_replicate]; omega
    unfold Sp.blank
    congr 1
    unfold zeros at h64 ⊢
    rw [List.length_replicate] at h64 ⊢
    rw [List.replicate_append_replicate]
    congr 1
    omega
theorem copied_free {N T : Nat} (h : T + 2 ≤ N) (a b : ByteArray) : splice ((((List.replicate N Sp.blank).set 0 a).set 1 b).map Value.string) 2 ((List.replicate T Sp.blank).map Value.string) = (((List.replicate N Sp.blank).set 0 a).set 1 b).map Value.string := by
  apply splice_same
  rw [← List.map_drop, ← List.map_take]
  congr 1
  rw [List.length_map, List.length_replicate]
  apply List.ext_getElem
  · simp; omega
  · intro i h1 h2
    simp only [List.getElem_take, List.getElem_drop, List.getElem_set, List.getElem_replicate]
    rw [if_neg (by omega), if_neg (by omega)]
def FormatPost (g : Sp.Geom) (w : World) (e : Ending) (w' : World) : Prop :=
  ∃ v, e = .returned (.tuple #[v, .int .i64 g.check]) ∧ OwnTexts w.heap.size w' v (if g.ok then formatL g else []) ∧ Below w.heap.size w w'
section
set_option maxHeartbeats 8000000
set_option maxRecDepth 20000 in
theorem aformat_any (w : World) (g : Sp.Geom) : Calls Tryz.prog 7 #[gV g] w (FormatPost g w) := by
  have hch := fun W : World => gcheck_any W g
  by_cases hg : g.ok
  rotate_left
  · have HN4 : Hid (∀ w', Below w.heap.size w w' → FormatPost g w (.returned (.tuple #[.slice none 0 0, .int .i64 4])) w') := fun w' hb => ⟨_, by rw [Geom.check_no hg], by rw [if_neg hg]; exact OwnTexts.void _ _, hb⟩
    rw [Geom.check_no hg] at hch
    obtain ⟨Q, hQ⟩ : ∃ Q, FormatPost g w = Q := ⟨_, rfl⟩
    rw [hQ] at HN4 ⊢
    clear hg hQ
    obtain ⟨ga, gb, gc⟩ := g
    unfold gV at hch ⊢
    have HCH := Lib.hid hch
    clear hch
    obtain ⟨W0, hW0⟩ : ∃ W, w.alloc (.cells #[.int .i64 ga, .int .i64 gb, .int .i64 gc] 23) = W := ⟨_, rfl⟩
    have hk := g_keep hW0
    have HB0 := Lib.hid hk.1
    have HK := Lib.hid hk.2
    clear hk
    obtain ⟨z0, z1, z2⟩ := HK.out W0 (Below.refl _ _)
    go_enter Tryz.func7, Tryz.ntmps7
    go_wp2_with fail
    refine (HCH.out _).mono ?_
    rintro e w1 ⟨rfl, hb1⟩
    have HB1 := Lib.hid (blN (Below.refl _ _) hb1)
    clear hb1
    clear z0 z1 z2
    go_wp2
    first | exact HN4.out _ (blN HB0.out HB1.out) | (go_ret2; exact HN4.out _ (blN HB0.out HB1.out))
  rw [Geom.check_ok hg] at hch
  have hsz := Geom.size_bd hg
  have hrb := Geom.regions_bd hg
  have hfb := Geom.first_bd hg (k := 0) (by omega) (by omega)
  have hgs := fun W : World => gsize_any W g
  have hreg := fun W : World => gregions_any W g
  have hsup := fun W : World => sencode_any W g
  rw [if_pos hg, Geom.check_ok hg] at hsup
  have hfen := fun W : World => sfence_any W 0 0 (by decide) (by decide)
  have hbl := fun W : World => fblank_any W
  obtain ⟨N, hN⟩ : ∃ N : Nat, g.size = (N : Int) := ⟨g.size.toNat, by omega⟩
  obtain ⟨R, hR⟩ : ∃ N : Nat, g.regions = (N : Int) := ⟨g.regions.toNat, by omega⟩
  obtain ⟨f, hf⟩ : ∃ N : Nat, g.first 0 = (N : Int) := ⟨(g.first 0).toNat, by omega⟩
  rw [hN] at hgs hsz
  rw [hR] at hreg hrb
  rw [hf] at hfb
  have HY : Hid (∀ v w', OwnTexts w.heap.size w' v (fmtL g N f) → Below w.heap.size w w' → FormatPost g w (.returned (.tuple #[v, .int .i64 0])) w') := fun v w' ho hb => ⟨v, by rw [Geom.check_ok hg], by rw [if_pos hg, ← fmtL_eq hN.symm hf.symm (by omega)]; exact ho, hb⟩
  have hmk := fun W : World => run_make_strs W N (by omega)
  have hml := fun W : World => run_make_leas W R (by omega)
  obtain ⟨Q, hQ⟩ : ∃ Q, FormatPost g w = Q := ⟨_, rfl⟩
  rw [hQ] at HY ⊢
  obtain ⟨SB, hSB⟩ : ∃ T, superB g = T := ⟨_, rfl⟩
  have HSB := Lib.hid hSB
  rw [hSB] at hsup
  have HG := Lib.hid hg
  have HNg := Lib.hid hN
  have HRg := Lib.hid hR
  have HFg := Lib.hid hf
  change ∀ W, Calls _ _ #[.agg #[.int .i64 0, .int .i64 0]] _ _ at hfen
  clear hg hQ hN hR hf hSB
  obtain ⟨ga, gb, gc⟩ := g
  unfold gV at hch hgs hreg hsup ⊢
  have HCH := Lib.hid hch
  have HGS := Lib.hid hgs
  have HREG := Lib.hid hreg
  have HSUP := Lib.hid hsup
  have HFEN := Lib.hid hfen
  have HBL := Lib.hid hbl
  have HMK := Lib.hid hmk
  have HML := Lib.hid hml
  clear hch hgs hreg hsup hfen hbl hmk hml
  obtain ⟨W0, hW0⟩ : ∃ W, w.alloc (.cells #[.int .i64 ga, .int .i64 gb, .int .i64 gc] 23) = W := ⟨_, rfl⟩
  have hk := g_keep hW0
  have HB0 := Lib.hid hk.1
  have HK := Lib.hid hk.2
  clear hk
  obtain ⟨z0, z1, z2⟩ := HK.out W0 (Below.refl _ _)
  go_enter Tryz.func7, Tryz.ntmps7
  go_wp2_with fail
  refine (HCH.out _).mono ?_
  rintro e w1 ⟨rfl, hb1⟩
  have HB1 := Lib.hid (blN (Below.refl _ _) hb1)
  clear hb1
  clear z0 z1 z2
  obtain ⟨z0, z1, z2⟩ := HK.out w1 HB1.out
  go_wp2_with fail
  refine (HGS.out _).mono ?_
  rintro e w2 ⟨rfl, hb2⟩
  have HB2 := Lib.hid (blN HB1.out hb2)
  clear hb2
  clear z0 z1 z2
  have hmk := HMK.out w2
  obtain ⟨W3, hW3⟩ : ∃ W, w2.alloc (strsO (List.replicate N ByteArray.empty)) = W := ⟨_, rfl⟩
  rw [hW3] at hmk
  have HR3 : Hid (W3.heap[w2.heap.size]? = some (strsO (List.replicate 0 Sp.blank ++ List.replicate (N - 0) ByteArray.empty))) := by rw [← hW3]; exact heapNew w2 _
  have HB3 : Hid (Below W0.heap.size W0 W3) := by rw [← hW3]; exact bl1 HB2.out _
  have HG1 : Hid (W0.heap.size ≤ w2.heap.size) := HB2.out.size
  clear hW3
  go_wp2
  go_loopw [21] (fun i wr => ∃ k : Nat, k ≤ N ∧ i = .int .i64 k ∧ Hid (wr.heap[w2.heap.size]? = some (strsO (List.replicate k Sp.blank ++ List.replicate (N - k) ByteArray.empty))) ∧ Hid (Below W0.heap.size W0 wr)) (fun i _ => N - (intOf i).toNat)
  case atStart => exact ⟨0, Nat.zero_le _, rfl, HR3, HB3⟩
  case round =>
    obtain ⟨k, hk, rfl, HR, HB⟩ := hrel
    by_cases hlt : k < N
    · go_wp2_with fail
      refine (HBL.out _).mono ?_
      rintro e w4 ⟨rfl, hb4⟩
      have hr4 := heapOld hb4 HR.out
      have HB4 : Hid (Below W0.heap.size W0 w4) := blN HB.out hb4
      have c0 := strs_cell hr4 (i := k) (s := ByteArray.empty) (by rw [List.getElem?_append_right (by simp), List.length_replicate, Nat.sub_self, List.getElem?_replicate, if_pos (by omega)])
      have c1 := strs_free hr4 (i := k)
      have hs := strs_set (i := k) hr4 Sp.blank
      rw [rep_set hlt] at hs
      have HS := Lib.hid hs
      have HB5 := Lib.hid (HB4.out.setCell (p := ⟨w2.heap.size, k, none⟩) HG1.out (.string Sp.blank))
      clear hb4 hr4 hs
      go_wp2
      go_roundw
      case rel => exact ⟨k + 1, by omega, by go_num, HS, HB5⟩
      case measure => simp [intOf]; omega
    · have hkN : k = N := by omega
      have hrow := HR.out
      rw [hkN, Nat.sub_self, List.replicate_zero, List.append_nil] at hrow
      obtain ⟨L0, hL0⟩ : ∃ L, List.replicate N Sp.blank = L := ⟨_, rfl⟩
      have hlen : L0.length = N := by rw [← hL0, List.length_replicate]
      rw [hL0] at hrow
      have HR5 := Lib.hid hrow
      clear hrow HR HR3 HB3
      obtain ⟨z0, z1, z2⟩ := HK.out wr HB.out
      go_wp2_with fail
      refine (HSUP.out _).mono ?_
      rintro e w5 ⟨rfl, hb5⟩
      clear z0 z1 z2
      have hr5 := heapOld hb5 HR5.out
      have HB5 : Hid (Below W0.heap.size W0 w5) := blN HB.out hb5
      have c0 := strs_cell hr5 (i := 0) (List.getElem?_eq_getElem (by omega))
      have c1 := strs_free hr5 (i := 0)
      have hs := strs_set (i := 0) hr5 SB
      obtain ⟨W6, hW6⟩ : ∃ W, w5.setCell ⟨w2.heap.size, 0, none⟩ (.string SB) = W := ⟨_, rfl⟩
      rw [hW6] at hs
      have HB6 : Hid (Below W0.heap.size W0 W6) := by rw [← hW6]; exact HB5.out.setCell (p := ⟨w2.heap.size, 0, none⟩) HG1.out (.string SB)
      have HR6 := Lib.hid hs
      have hN1 : (0 : Int) < (N : Int) := by omega
      have hN2 : (1 : Int) < (N : Int) := by omega
      clear hb5 hr5 hs
      go_wp2_with fail
      refine (HFEN.out _).mono ?_
      rintro e w7 ⟨rfl, hb7⟩
      have hr7 := heapOld hb7 HR6.out
      have HB7 : Hid (Below W0.heap.size W0 w7) := blN HB6.out hb7
      have c2 := strs_cell hr7 (i := 1) (List.getElem?_eq_getElem (by rw [List.length_set]; omega))
      have c3 := strs_free hr7 (i := 1)
      have hs := strs_set (i := 1) hr7 (wallB 0 0)
      obtain ⟨W8, hW8⟩ : ∃ W, w7.setCell ⟨w2.heap.size, 1, none⟩ (.string (wallB 0 0)) = W := ⟨_, rfl⟩
      rw [hW8] at hs
      have HB8 : Hid (Below W0.heap.size W0 W8) := by rw [← hW8]; exact HB7.out.setCell (p := ⟨w2.heap.size, 1, none⟩) HG1.out (.string (wallB 0 0))
      have HR8 := Lib.hid hs
      clear hb7 hr7 hs
      go_wp2_with fail
      clear c0 c1 c2 c3 hmk
      have HTEN : Hid (∀ (W : World) (b : Nat), W.heap[b]? = some (leasO (List.replicate R (0, 0)) 185) → Calls Tryz.prog 38 #[.agg #[.int .i64 ga, .int .i64 gb, .int .i64 gc], .slice (some ⟨b, 0, none⟩) R R] W fun e w' => ∃ v, e = .returned (.tuple #[v, .int .i64 0]) ∧ OwnTexts W.heap.size w' v (tabB (Sp.Geom.tables ⟨ga, gb, gc⟩).toNat (List.replicate R (0, 0))) ∧ Below W.heap.size W w') := fun W b hW => by
        have h := tencode_any W ⟨ga, gb, gc⟩ (.slice (some ⟨b, 0, none⟩) R R) (List.replicate R (0, 0)) (leas_row hW (by rw [List.length_replicate]; unfold maxLen; omega) (by rw [List.length_replicate]))
        have hc : tableC ⟨ga, gb, gc⟩ (List.replicate R (0, 0)) = 0 := by
          unfold tableC
          rw [if_pos ⟨HG.out, by rw [List.length_replicate]; exact HRg.out.symm⟩, if_pos (fun x hx => by rw [(List.mem_replicate.1 hx).2]; decide)]
        unfold TEnc tableN gV at h
        rw [hc, if_pos rfl] at h
        exact h
      go_region_held3 (fun W => W.cell? ⟨w.heap.size, 0, none⟩ = some (.int .i64 ga) ∧ W.cell? ⟨w.heap.size, 1, none⟩ = some (.int .i64 gb) ∧ W.cell? ⟨w.heap.size, 2, none⟩ = some (.int .i64 gc))
        ((refine HK.out _ ?_; repeat' first | with_reducible exact HB8.out | with_reducible exact HB9.out | with_reducible exact HB10.out | with_reducible refine blD ?_ | with_reducible refine bl1 ?_ _))
        (first
          | (go_at_call 39
             refine (HREG.out _).mono ?_
             rintro e w9 ⟨rfl, hb9⟩
             have HB9 : Hid (Below W0.heap.size W0 w9) := blN (by repeat' first | with_reducible exact HB8.out | with_reducible refine blD ?_ | with_reducible refine bl1 ?_ _) hb9
             have HX9 : Hid (Below W8.heap.size W8 w9) := blN (by repeat' first | with_reducible exact Below.refl _ _ | with_reducible refine blD ?_ | with_reducible refine bl1 ?_ _) hb9
             have hml := HML.out w9
             clear hb9
             simp only)
          | (go_at_call 38
             with_reducible refine (HTEN.out _ _ ?a1).mono ?_
             case a1 => (repeat' first | with_reducible exact heapNew _ _ | with_reducible refine heapOld (blD (Below.refl _ _)) ?_)
             rintro e w10 ⟨v, rfl, hown, hb10⟩
             have HB10 : Hid (Below W0.heap.size W0 w10) := blN (by repeat' first | with_reducible exact HB9.out | with_reducible refine blD ?_ | with_reducible refine bl1 ?_ _) hb10
             have HX10 : Hid (Below W8.heap.size W8 w10) := blN (by repeat' first | with_reducible exact HX9.out | with_reducible refine blD ?_ | with_reducible refine bl1 ?_ _) hb10
             have HTx := Lib.hid (OwnTexts.texts hown)
             clear hb10 hown
             simp only))
      all_goals
        have hr10 := heapOld HX10.out HR8.out
        have htx := HTx.out
        rw [tab_free] at htx
        obtain ⟨T, hT⟩ : ∃ T, (Sp.Geom.tables ⟨ga, gb, gc⟩).toNat = T := ⟨_, rfl⟩
        rw [hT] at htx
        obtain ⟨ad, n, cap, rfl, HNt, hnt2, HFt⟩ := texts_facts htx
        obtain rfl : T = n := by have := HNt.out; rw [List.length_replicate] at this; exact this.symm
        have HTT := Lib.hid hT
        clear htx hT
        rw [← hL0] at hr10
        have hTN : T + 2 ≤ N := by
          have h1 := HTT.out
          have h2 := HFg.out
          have h3 := HNg.out
          have h4 := fmt_room HG.out
          omega
        have hcur : w10.heap[w2.heap.size]? = some (.cells ((((List.replicate N Sp.blank).set 0 SB).set 1 (wallB 0 0)).map Value.string).toArray 9 (0, 0)) := hr10
        have HCur := Lib.hid hcur
        have hszT : (Tryz.prog.info? 9).map (·.size) = some 1 := by kernel_rfl
        clear hr10 hcur
        go_wp2_with (refine wpList_copy_splice rfl (.tmp 52) (.tmp 53) 24 24 rfl 9 Tryz.underlying24 hszT _ _ _ _ _ _ rfl rfl w2.heap.size 2 _ 9 HCur.out ((List.replicate T Sp.blank).map Value.string) ?c1 ?c2 ?c3 ?c4 W0.heap.size W0 HB10.out HG1.out ?c5)
        case c1 => rw [List.length_map, List.length_replicate]; show T = min T (N - 2); omega
        case c2 =>
          intro h0
          obtain ⟨b, o, x, rfl, hb, hx, hc⟩ := HFt.out 0 h0
          refine ⟨_, rfl, fun j y hy => ?_⟩
          have hj : j < T := by have := (List.getElem?_eq_some_iff.1 hy).1; simpa using this
          obtain ⟨b2, o2, x2, he, hb2, hx2, hc2⟩ := HFt.out j hj
          cases he
          have e1 : Sp.blank = x2 := by
            rw [List.getElem?_replicate, if_pos hj] at hx2
            exact Option.some.inj hx2
          have e : Value.string x2 = y := by
            rw [List.getElem?_replicate, if_pos hj] at hy
            rw [← e1]
            exact Option.some.inj hy
          rw [← e, show (⟨b, o, none⟩ : Addr).add j = ⟨b, o + j, none⟩ by unfold Addr.add; split <;> simp_all]
          exact hc2
        case c3 =>
          simp only [List.length_map, List.length_replicate, List.length_set]
          omega
        case c4 => intro y hy; obtain ⟨s, _, rfl⟩ := List.mem_map.1 hy; rfl
        case c5 =>
          intro w11 hcp hb11
          have HB11 := Lib.hid hb11
          have hcf := copied_free hTN SB (wallB 0 0)
          rw [hL0] at hcf
          simp only [List.map_set, List.map_replicate] at hcf
          have HR11 : Hid (w11.heap[w2.heap.size]? = some (strsO ((L0.set 0 SB).set 1 (wallB 0 0)))) := by
            have h := hcp.out
            rw [hcf] at h
            show _ = _
            unfold strsO
            simp only [List.map_set]
            exact h
          clear hcp hb11 hcf HCur hszT HFt HNt HTx
          have hmap := fun W : World => gmap_any W ⟨ga, gb, gc⟩ 0 false
          rw [fmt_map HG.out, HFg.out] at hmap
          have hino := fun W : World => ginode_any W ⟨ga, gb, gc⟩ 1
          rw [fmt_inode HG.out, HFg.out] at hino
          obtain ⟨d, hd⟩ : ∃ d, f + 2 = d := ⟨_, rfl⟩
          have hf2 : (f : Int) + 2 = (d : Int) := by omega
          simp only [hf2] at hino
          have HDd := Lib.hid hd
          have henc := fun W : World => iencode_any W ⟨ga, gb, gc⟩ 2 1 0 1 1 0 0 0 0 0 0 0 0 0
          unfold IEnc at henc
          rw [fmt_fits HG.out, if_pos rfl] at henc
          have hofc : ofC gb [0] = 0 := fmt_of HG.out
          have hof : ∀ (W : World) (b : Nat), W.heap[b]? = some (.cells #[.int .i64 0] 3 (0, 0)) → Calls Tryz.prog 41 #[.int .i64 gb, .slice (some ⟨b, 0, none⟩) 1 1] W fun e w' => e = .returned (.tuple #[.string (ofL (1 :: zeros 63)), .int .i64 0]) ∧ Below W.heap.size W w' := fun W b hW => by
            have h := mof_any W gb (.slice (some ⟨b, 0, none⟩) 1 1) [0] (ints_block (o := 0) hW (fun j n hj => by
              match j, hj with
              | 0, hj => have e : (0 : Int) = n := by simpa using hj
                         rw [← e]; rfl
              | q + 1, hj => simp at hj) (by unfold maxLen; simp) rfl)
            unfold OfPost at h
            rw [hofc, if_pos rfl] at h
            exact h
          unfold gV at hmap hino henc
          unfold iA at henc
          have hfN : (f : Int) < (N : Int) := by have h2 := HFg.out; have h3 := HNg.out; have h4 := fmt_room HG.out; omega
          have hfN2 : (d : Int) < (N : Int) := by have h2 := HFg.out; have h3 := HNg.out; have h4 := fmt_room HG.out; omega
          clear hf2 hd
          have HMAP := Lib.hid hmap
          have HINO := Lib.hid hino
          have HENC := Lib.hid henc
          have HOF := Lib.hid hof
          clear hmap hino henc hof
          obtain ⟨z0, z1, z2⟩ := HK.out w11 HB11.out
          go_wp2_with fail
          clear z0 z1 z2
          refine (HMAP.out _).mono ?_
          rintro e w12 ⟨rfl, hb12⟩
          have HB12 := Lib.hid (blN HB11.out hb12)
          have HR12 := Lib.hid (heapOld hb12 HR11.out)
          clear hb12
          obtain ⟨z0, z1, z2⟩ := HK.out w12 HB12.out
          go_wp2_with fail
          clear z0 z1 z2
          refine (HOF.out _ _ (heapNew w12 _)).mono ?_
          rintro e w13 ⟨rfl, hb13⟩
          have HB13 := Lib.hid (blN (bl1 HB12.out _) hb13)
          have hr13 := heapOld hb13 (heapOld (bl2 _) HR12.out)
          have c4 := strs_cell hr13 (i := f) (List.getElem?_eq_getElem (by rw [List.length_set, List.length_set]; omega))
          have c5 := strs_free hr13 (i := f)
          have hs := strs_set (i := f) hr13 (ofL (1 :: zeros 63))
          obtain ⟨MB, hMB⟩ : ∃ T, ofL (1 :: zeros 63) = T := ⟨_, rfl⟩
          rw [hMB] at hs ⊢
          obtain ⟨W14, hW14⟩ : ∃ W, w13.setCell ⟨w2.heap.size, f, none⟩ (.string MB) = W := ⟨_, rfl⟩
          rw [hW14] at hs
          have HB14 : Hid (Below W0.heap.size W0 W14) := by rw [← hW14]; exact HB13.out.setCell (p := ⟨w2.heap.size, f, none⟩) HG1.out (.string MB)
          have HR14 := Lib.hid hs
          have HMB := Lib.hid hMB
          clear hb13 hr13 hs hMB
          obtain ⟨z0, z1, z2⟩ := HK.out W14 HB14.out
          go_wp2_with fail
          clear z0 z1 z2 c4 c5 hW14
          refine (HINO.out _).mono ?_
          rintro e w15 ⟨rfl, hb15⟩
          have HB15 := Lib.hid (blN HB14.out hb15)
          have HR15 := Lib.hid (heapOld hb15 HR14.out)
          clear hb15
          obtain ⟨z0, z1, z2⟩ := HK.out w15 HB15.out
          go_wp2_with fail
          clear z0 z1 z2
          refine (HENC.out _).mono ?_
          rintro e w16 ⟨rfl, hb16⟩
          have HB16 := Lib.hid (blN HB15.out hb16)
          have hr16 := heapOld hb16 HR15.out
          have c6 := strs_cell hr16 (i := d) (List.getElem?_eq_getElem (by rw [List.length_set, List.length_set, List.length_set]; have := HDd.out; omega))
          have c7 := strs_free hr16 (i := d)
          have hs := strs_set (i := d) hr16 (inodeB rootN)
          change _ = some (strsO (((L0.set 0 SB).set 1 (wallB 0 0)).set f MB |>.set d (inodeB rootN))) at hs
          obtain ⟨IB, hIB⟩ : ∃ T, inodeB rootN = T := ⟨_, rfl⟩
          have hIB2 : inodeB (iN 2 1 0 1 1 0 0 0 0 0 0 0 0 0) = IB := hIB
          rw [hIB] at hs
          rw [hIB2]
          obtain ⟨W17, hW17⟩ : ∃ W, w16.setCell ⟨w2.heap.size, d, none⟩ (.string IB) = W := ⟨_, rfl⟩
          rw [hW17] at hs
          have HB17 : Hid (Below W0.heap.size W0 W17) := by rw [← hW17]; exact HB16.out.setCell (p := ⟨w2.heap.size, d, none⟩) HG1.out (.string IB)
          have hfin : (((L0.set 0 SB).set 1 (wallB 0 0)).set f MB).set d IB = fmtL ⟨ga, gb, gc⟩ N f := by
            unfold fmtL
            rw [hL0, HSB.out, HMB.out, hIB, HDd.out]
          rw [hfin] at hs
          have HFin := Lib.hid (HY.out _ _ (strs_own hs (Nat.le_trans HB0.out.size HG1.out) (by rw [← hfin]; simp only [List.length_set]; unfold maxLen; omega) (n := N) (by rw [← hfin]; simp only [List.length_set]; exact hlen.symm)) (blN HB0.out HB17.out))
          clear hb16 hr16 hs hfin hIB hIB2
          go_wp2
          first | exact HFin.out | (go_ret2; exact HFin.out)
end
end Go.Proofs.YtgofmnhfajmbfaaGreatDoor
