/-
  slices.Sorted(maps.Keys(m)) of a directory's map: its names, rising.
-/
import Derived.Test.YtcgpmnlondnbhaaDoorIter
import Derived.Test.YtcgpmnlondnbhaaDoorMapAt
import Derived.Test.YtcgpmnlondnbhaaDoorWorld
import Derived.Test.YtcgpmnlondnbhaaDoorSp
import Derived.Test.YtcgpmnlondnbhaaDoorOwn
namespace Go.Proofs.YtcgpmnlondnbhaaDoor
open Go Go.RowKit Go.Maps Go.Sort Go.Shelf Go.WideMaps Go.WideShapes

def dirR : Value → Option (DataW Unit × List MemPlace) := fun _ => some (.nil, [])
theorem ents_data {P : Program} {k : TypeId} (hks : P.underlying k = some .string) {es : List MapEntry} {l : List (ByteArray × Nat)} (h : es.map (fun e => (e.key, e.val)) = l.map encE) (hs : ∀ x ∈ l, x.1.size ≤ maxLen) :
    (∀ x ∈ es, ∃ y, WideElems.rd P k dirR x = some y) ∧ (es.map (WideElems.rg P k dirR)).map (fun p => strOf p.1) = l.map (fun x => x.1.data.toList) := by
  induction es generalizing l with
  | nil =>
    cases l with
    | nil => exact ⟨fun x hx => absurd hx (by simp), rfl⟩
    | cons y r => simp at h
  | cons e es ih =>
    cases l with
    | nil => simp at h
    | cons y r =>
      rw [List.map_cons, List.map_cons] at h
      injection h with h1 h2
      obtain ⟨g1, g2⟩ := ih h2 (fun x hx => hs x (List.mem_cons_of_mem _ hx))
      have hkey : e.key = .string y.1 := congrArg (·.1) h1
      have hrd : WideElems.rd P k dirR e = some (.string y.1.data.toList, .nil) := by
        unfold WideElems.rd
        rw [hkey, keyOf_string_mk hks (hs y (by simp))]
        rfl
      refine ⟨?_, ?_⟩
      · intro x hx
        rcases List.mem_cons.1 hx with rfl | hx
        · exact ⟨_, hrd⟩
        · exact g1 x hx
      · rw [List.map_cons, List.map_cons, List.map_cons, WideElems.rg_of hrd, g2]
        rfl

theorem owns_dir {P : Program} {k : TypeId} (hks : P.underlying k = some .string) {w : World} {m : Nat} {l : List (ByteArray × Nat)} (hm : MapAt w m l) (hs : ∀ x ∈ l, x.1.size ≤ maxLen) (hl : l.length ≤ 1000000) :
    ∃ D : DataW Unit, w.ownsMap P k dirR m l.length D ∧ (strKeys D).Perm (l.map (fun x => x.1.data.toList)) ∧ Maps.size D = l.length := by
  obtain ⟨o, ho, es, clock, rfl, hst, hen⟩ := hm
  have hsz := ents_len hen
  obtain ⟨h1, h2⟩ := ents_data hks hen hs
  refine ⟨_, ⟨es, clock, ho, ⟨by rw [hsz]; exact Nat.le_trans hl (by decide), hst, h1⟩, Nat.le_of_eq hsz, rfl⟩, ?_, ?_⟩
  · show (((es.toList.map (WideElems.rg P k dirR)).foldr DataW.insert []).map fun p => strOf p.1).Perm _
    rw [← h2]
    exact (sorted_perm _).map _
  · show ((es.toList.map (WideElems.rg P k dirR)).foldr DataW.insert []).length = _
    rw [(sorted_perm _).length_eq, List.length_map, Array.length_toList, hsz]

theorem sort_in (m : Nat) : AnyZ.SortsIn Tryd.prog Tryd.sorted48_ren Fence.wide m :=
  ⟨fun blk off cap ss W hH hblk hsz => callsIn_wide.2 (AnyM.slices_Sort_string Tryd.sort34 blk off cap ss W hH hblk hsz),
   fun p cap W => callsIn_wide.2 (AnyM.slices_Sort_string_none Tryd.sort34 p cap W)⟩

/-- maps.Keys: a function value over one new block, which holds the map. -/
theorem keys_any (mb : Option Nat) (W : World) : Calls Tryd.prog 49 #[.map mb] W fun e w' => e = .returned (.func (.func 57) #[] #[.pointer (some ⟨W.heap.size, 0, none⟩)]) ∧ w' = W.alloc (.cells #[.map mb] 64) :=
  callsIn_wide.1 (AnyZ.keys_in Tryd.keys49 Fence.wide 5 trivial rfl mb W)

set_option maxHeartbeats 1000000 in
theorem sorted_raw (b nn : Nat) (D0 : DataW Unit) (R : Value → Option (DataW Unit × List MemPlace)) (w : World) (hown : w.ownsMap Tryd.prog 9 R b nn D0) (hmax : Maps.size D0 ≤ maxLen) (hbytes : Maps.size D0 * 16 ≤ 140737488355328) :
    Calls Tryd.prog 48 #[.func (.func 57) #[] #[.pointer (some ⟨w.heap.size, 0, none⟩)]] (w.alloc (.cells #[.map (some b)] 64)) fun e w' => ∃ (v : Value) (ss : List (List UInt8)), e = .returned v ∧ ss.Perm (strKeys D0) ∧
      w'.ownsRow (w.alloc (.cells #[.map (some b)] 64)).heap.size 9 1 v ss.length ((ss.mergeSort (fun x y => decide (x ≤ y))).map encStr) ∧ (v = .slice none 0 0 ↔ ss = []) ∧ Below (w.alloc (.cells #[.map (some b)] 64)).heap.size (w.alloc (.cells #[.map (some b)] 64)) w' := by
  have hbl := hown.lt
  have hseq : SeqGives Fence.wide 2 Tryd.prog 57 #[.pointer (some ⟨w.heap.size, 0, none⟩)] encStr (fun ss => ss.Perm (strKeys D0)) (Maps.size D0) (w.alloc (.cells #[.map (some b)] 64)) :=
    AnyZ.keys_gives (ρ := Tryd.keys49_ren) { Tryd.keys49 with } Fence.wide _ trivial rfl (by omega) w.heap.size b nn D0 _ (by simp) (by simp) (by
      obtain ⟨es, clock, hb, Ft, hs, hD⟩ := hown
      exact ⟨es, clock, (Below.heap_alloc _ _ b hbl).trans hb, Ft, hs, hD⟩)
  exact callsIn_wide.1 (AnyZ.sorted_in Tryd.sorted48 Fence.wide 5 trivial trivial trivial trivial rfl (by omega) (sort_in _) (enters_of Tryd.func34 (by kernel_rfl) rfl) 57 #[.pointer (some ⟨w.heap.size, 0, none⟩)] trivial (enters_of Tryd.func57 (by kernel_rfl) rfl) _ _ hmax hbytes _ hseq)

theorem keys_sorted {ss : List (List UInt8)} {l : List ByteArray} (h : ss.Perm (l.map (·.data.toList))) : (ss.mergeSort (fun x y => decide (x ≤ y))).map encStr = (l.mergeSort Sp.leT).map Value.string := by
  rw [mergeSort_of_perm h]
  have h1 : (l.mergeSort Sp.leT).map (·.data.toList) = (l.map (·.data.toList)).mergeSort (fun x y => decide (x ≤ y)) := List.map_mergeSort (fun a _ b _ => rfl)
  show ((l.map (·.data.toList)).mergeSort (fun x y => decide (x ≤ y))).map encStr = _
  rw [← h1, List.map_map]
  refine List.map_congr_left (fun x _ => ?_)
  show encStr x.data.toList = .string x
  unfold encStr
  congr 1

theorem sorted_any {w : World} {m : Nat} {l : List (ByteArray × Nat)} (hm : MapAt w m l) (hs : ∀ x ∈ l, x.1.size ≤ maxLen) (hl : l.length ≤ 1000000) :
    Calls Tryd.prog 48 #[.func (.func 57) #[] #[.pointer (some ⟨w.heap.size, 0, none⟩)]] (w.alloc (.cells #[.map (some m)] 64)) fun e w' => ∃ v, e = .returned v ∧ OwnTexts (w.heap.size + 1) w' v ((l.map (·.1)).mergeSort Sp.leT) ∧
      Below (w.alloc (.cells #[.map (some m)] 64)).heap.size (w.alloc (.cells #[.map (some m)] 64)) w' := by
  obtain ⟨D, h1, h2, h3⟩ := owns_dir Tryd.underlying9 hm hs hl
  refine (sorted_raw m l.length D dirR w h1 (by rw [h3]; exact Nat.le_trans hl (by decide)) (by rw [h3]; omega)).mono ?_
  rintro e w' ⟨v, ss, rfl, hp, ho, _, hb⟩
  have hp2 : ss.Perm ((l.map (·.1)).map (·.data.toList)) := by rw [List.map_map]; exact hp.trans h2
  have hlen : ss.length = ((l.map (·.1)).mergeSort Sp.leT).length := by rw [hp2.length_eq, List.length_map, List.length_mergeSort]
  rw [keys_sorted hp2, hlen] at ho
  have hsz : (w.alloc (.cells #[.map (some m)] 64)).heap.size = w.heap.size + 1 := by simp
  rw [hsz] at ho
  exact ⟨v, rfl, ⟨_, ho⟩, hb⟩
end Go.Proofs.YtcgpmnlondnbhaaDoor
