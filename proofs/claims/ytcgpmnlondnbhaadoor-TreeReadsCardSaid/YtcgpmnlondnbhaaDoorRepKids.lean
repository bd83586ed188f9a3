/-
  A directory's entries and its names. No walk in this text.
-/
import Derived.Test.YtcgpmnlondnbhaaDoorRepMove
namespace Go.Proofs.YtcgpmnlondnbhaaDoor
open Go Go.RowKit Txt Sp

theorem nodup_perm {α : Type} [DecidableEq α] : ∀ {a b : List α}, a.Nodup → b.Nodup → (∀ x, x ∈ a ↔ x ∈ b) → a.Perm b
  | [], b, _, _, h => by
    cases b with
    | nil => exact List.Perm.refl _
    | cons x r => exact absurd ((h x).2 (by simp)) (by simp)
  | x :: r, b, ha, hb, h => by
    have hx : x ∈ b := (h x).1 (by simp)
    rw [List.nodup_cons] at ha
    refine List.Perm.trans (List.Perm.cons x (nodup_perm ha.2 (hb.erase x) (fun y => ?_))) (List.perm_cons_erase hx).symm
    rw [hb.mem_erase_iff]
    constructor
    · intro hy
      exact ⟨fun e => ha.1 (e ▸ hy), (h y).1 (List.mem_cons_of_mem _ hy)⟩
    · rintro ⟨hne, hy⟩
      rcases List.mem_cons.1 ((h y).2 hy) with e | hy
      · exact absurd e hne
      · exact hy

theorem kidsL_nodup {t : Sp.Tree} (hok : t.Ok) (p : List ByteArray) : (t.kidsL p).Nodup := by
  unfold Sp.Tree.kidsL
  have hn := hok.nodup
  generalize t.names = L at hn
  induction L with
  | nil => simp
  | cons x r ih =>
    rw [List.map_cons, List.nodup_cons] at hn
    rw [List.filterMap_cons]
    split
    · exact ih hn.2
    · rename_i s hs
      rw [List.nodup_cons]
      refine ⟨fun hm => ?_, ih hn.2⟩
      obtain ⟨y, hy, hys⟩ := List.mem_filterMap.1 hm
      have key : ∀ z : List ByteArray × Nat, (if z.1.dropLast = p then z.1.getLast? else none) = some s → z.1 = p ++ [s] := by
        intro z hz
        split at hz
        · rename_i hd
          have hne : z.1 ≠ [] := fun e => by rw [e] at hz; cases hz
          rw [List.getLast?_eq_some_getLast hne] at hz
          rw [← hd, ← Option.some.inj hz, List.dropLast_concat_getLast hne]
        · cases hz
      exact hn.1 (by rw [key x hs, ← key y hys]; exact List.mem_map.2 ⟨y, hy, rfl⟩)

theorem getM_mem {l : List (ByteArray × Nat)} {s : ByteArray} : (getM l s).isSome ↔ s ∈ l.map (·.1) := by
  unfold getM
  rw [Option.isSome_map, List.find?_isSome, List.mem_map]
  constructor
  · rintro ⟨x, hx, e⟩
    exact ⟨x, hx, of_decide_eq_true e⟩
  · rintro ⟨x, hx, e⟩
    exact ⟨x, hx, by simp [e]⟩

section
variable {w : World} {B : Nat} {t : Sp.Tree} {φ μ : Nat → Nat}
theorem MapAt.nodup {m : Nat} {l : List (ByteArray × Nat)} (h : MapAt w m l) : (l.map (·.1)).Nodup := by
  obtain ⟨o, ho, es, c, rfl, hst, hen⟩ := h
  exact keys_nodup hen hst
theorem Rep.keys (hR : Rep w B t φ μ) (hok : t.Ok) {i : Nat} {p : List ByteArray} (hp : t.idOf p = some i) (hd : t.isDir i = true) {l : List (ByteArray × Nat)} (hl : MapAt w (μ i) l) : (l.map (·.1)).Perm (t.kidsL p) := by
  refine nodup_perm hl.nodup (kidsL_nodup hok p) (fun s => ?_)
  rw [← getM_mem, hR.entries hp hd hl, Option.isSome_map, kidsL_mem]
  constructor
  · intro h
    obtain ⟨j, hj⟩ := Option.isSome_iff_exists.1 h
    exact ⟨j, (find_mem hok).1 hj⟩
  · rintro ⟨j, hj⟩
    rw [(find_mem hok).2 hj]
    rfl
theorem Rep.len (hR : Rep w B t φ μ) (hok : t.Ok) {i : Nat} {p : List ByteArray} (hp : t.idOf p = some i) (hd : t.isDir i = true) {l : List (ByteArray × Nat)} (hl : MapAt w (μ i) l) : l.length = (t.kidsL p).length := by
  have := (hR.keys hok hp hd hl).length_eq
  rw [List.length_map] at this
  exact this
end
end Go.Proofs.YtcgpmnlondnbhaaDoor
