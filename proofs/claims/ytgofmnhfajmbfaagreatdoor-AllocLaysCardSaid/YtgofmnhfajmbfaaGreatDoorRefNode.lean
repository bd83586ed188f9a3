/-
  Sets of numbers in memory: maps to true.
-/
import Derived.Test.YtgofmnhfajmbfaaGreatDoorSidA
import Derived.Test.YtgofmnhfajmbfaaGreatDoorRefAllG
import Derived.Deep.RegionHeld3
import Derived.Test.YtgofmnhfajmbfaaGreatDoorRefTable
import Derived.Test.YtgofmnhfajmbfaaGreatDoorInodeDec
namespace Go.Proofs.YtgofmnhfajmbfaaGreatDoor
open Go Go.RowKit Txt Sp

def truV (b : Bool) : Value := .bool b
def truE (X : List Int) : List (Int × Bool) := X.map fun n => (n, true)
theorem getM_tru (X : List Int) (n : Int) : IM.getM (truE X) n = if n ∈ X then some true else none := by
  induction X with
  | nil => rfl
  | cons x r ih =>
    unfold truE IM.getM at ih ⊢
    rw [List.map_cons, List.find?_cons]
    by_cases h : x = n
    · subst h
      simp
    · rw [decide_eq_false h]
      simp only [ih, List.mem_cons, Ne.symm h, false_or]
theorem setM_tru {X : List Int} {n : Int} (h : n ∉ X) : IM.setM (truE X) n true = truE (X ++ [n]) := by
  unfold IM.setM
  rw [getM_tru, if_neg h]
  unfold truE
  rw [List.map_append]
  rfl
theorem setM_tru_in {X : List Int} {n : Int} (h : n ∈ X) : IM.setM (truE X) n true = truE X := by
  unfold IM.setM
  rw [getM_tru, if_pos h]
  unfold truE
  rw [if_pos (by rfl), List.map_map]
  refine List.map_congr_left (fun x _ => ?_)
  show (if x = n then (n, true) else (x, true)) = (x, true)
  split
  · rename_i e; rw [e]
  · rfl
theorem truE_length (X : List Int) : (truE X).length = X.length := by unfold truE; rw [List.length_map]
theorem truE_keys (X : List Int) : (truE X).map Prod.fst = X := by
  unfold truE
  rw [List.map_map]
  exact List.map_id X
section
variable {wr : World} {m : Nat} {X : List Int}
theorem tru_lookup (h : IM.MapAt truV wr m (truE X)) (n : Int) : (Instr.lookup 138 (.map (some m)) (.int .i64 n) false).run Tryz.prog wr = .ok (.bool (decide (n ∈ X))) wr := by
  have := IM.run_lookup (P := Tryz.prog) Tryz.underlying138 Tryz.underlying3 (z := .bool false) (by kernel_rfl) h n
  rw [this, getM_tru]
  by_cases hn : n ∈ X
  · rw [if_pos hn, decide_eq_true hn]; rfl
  · rw [if_neg hn, decide_eq_false hn]; rfl
theorem tru_update (h : IM.MapAt truV wr m (truE X)) (n : Int) :
    ∃ o', (Instr.mapUpdate 138 (.map (some m)) (.int .i64 n) (.bool true)).run Tryz.prog wr = .ok () (ChangeMaps.setBlock wr m o') ∧ IM.IsMap truV o' (truE (if n ∈ X then X else X ++ [n])) := by
  obtain ⟨o, h1, h2⟩ := IM.run_update (P := Tryz.prog) Tryz.underlying138 Tryz.underlying3 h n true
  refine ⟨o, h1, ?_⟩
  by_cases hn : n ∈ X
  · rw [setM_tru_in hn] at h2
    rw [if_pos hn]
    exact h2
  · rw [setM_tru hn] at h2
    rw [if_neg hn]
    exact h2
theorem block_turn {w : World} {m : Nat} {o : Obj} : Turn (fun j => j = m) w (ChangeMaps.setBlock w m o) :=
  ⟨rfl, rfl, rfl, by rw [IM.size_setBlock]; exact Nat.le_refl _, fun k _ h => IM.heap_setBlock_ne h⟩
theorem mapAt_turn {α : Type} {enc : α → Value} {K : Nat → Prop} {a b : World} {m : Nat} {l : List (Int × α)} (hT : Turn K a b) (h : IM.MapAt enc a m l) (hk : ¬ K m) : IM.MapAt enc b m l := by
  obtain ⟨o, h1, h2⟩ := h
  exact ⟨o, hT.heap h1 hk, h2⟩
end
end Go.Proofs.YtgofmnhfajmbfaaGreatDoor
namespace Go.Proofs.YtgofmnhfajmbfaaGreatDoor
open Go Go.RowKit Txt Sp

theorem things_facts {base : Nat} {w : World} {v : Value} {l : List Sp.Thing} (h : Things base w v l) : ∃ (ad : Option Addr) (n cap : Nat), v = .slice ad n cap ∧ Hid (n = l.length) ∧ n ≤ 9223372036854775807 ∧
    Hid (∀ j, j < n → ∃ b off x, ad = some ⟨b, off, none⟩ ∧ b < w.heap.size ∧ l[j]? = some x ∧ w.cell? ⟨b, off + j * 4, none⟩ = some (.int .i64 x.kind) ∧ w.cell? ⟨b, off + j * 4 + 1, none⟩ = some (.int .i64 x.number)) := by
  obtain ⟨ad, n, cap, e, HN, hn, HF⟩ := RowAt.facts (f := thC) (OwnR.row (fun _ _ => rfl) h)
  refine ⟨ad, n, cap, e, HN, hn, fun j hj => ?_⟩
  obtain ⟨b, o, x, e1, hb, hx, hc⟩ := HF.out j hj
  exact ⟨b, o, x, e1, hb, hx, hc 0 _ rfl, hc 1 _ rfl⟩
def RWhatPost (g : Sp.Geom) (s : Int) (w : World) (e : Ending) (w' : World) : Prop :=
  e = .returned (.tuple #[.int .i64 (g.what s).1, .int .i64 (g.what s).2.1, .int .i64 (g.what s).2.2]) ∧ Below w.heap.size w w'
section
set_option maxHeartbeats 8000000
end
end Go.Proofs.YtgofmnhfajmbfaaGreatDoor
namespace Go.Proofs.YtgofmnhfajmbfaaGreatDoor
open Go Go.RowKit Txt Sp

section
set_option maxHeartbeats 8000000
theorem iA_at (k l z p ge d0 d1 d2 d3 d4 d5 d6 d7 m : Int) : ∀ j, j < 8 → (iA k l z p ge d0 d1 d2 d3 d4 d5 d6 d7 m)[5 + j]? = some (.int .i64 ([d0, d1, d2, d3, d4, d5, d6, d7].getD j 0))
  | 0, _ => rfl
  | 1, _ => rfl
  | 2, _ => rfl
  | 3, _ => rfl
  | 4, _ => rfl
  | 5, _ => rfl
  | 6, _ => rfl
  | 7, _ => rfl
  | j + 8, h => absurd h (by omega)
theorem eight_at (d0 d1 d2 d3 d4 d5 d6 d7 : Int) : ∀ j, j < 8 → [d0, d1, d2, d3, d4, d5, d6, d7][j]? = some ([d0, d1, d2, d3, d4, d5, d6, d7].getD j 0)
  | 0, _ => rfl
  | 1, _ => rfl
  | 2, _ => rfl
  | 3, _ => rfl
  | 4, _ => rfl
  | 5, _ => rfl
  | 6, _ => rfl
  | 7, _ => rfl
  | j + 8, h => absurd h (by omega)
end
end Go.Proofs.YtgofmnhfajmbfaaGreatDoor
