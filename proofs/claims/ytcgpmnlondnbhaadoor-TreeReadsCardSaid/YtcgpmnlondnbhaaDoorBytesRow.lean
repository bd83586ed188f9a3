/-
  Rows of bytes: made, copied into from a text, turned into a text. No walk in this text.
-/
import Derived.Test.YtcgpmnlondnbhaaDoorTreeLink
import Derived.Laws.MakeOwn
import Derived.Laws.OwnMore
import Derived.Laws.CopyRow
import Derived.Laws.IdiomStrings
namespace Go.Proofs.YtcgpmnlondnbhaaDoor
open Go Go.RowKit Txt

def byteV (l : List UInt8) : List Value := l.map (fun b => Value.int .u8 (b.toNat : Int))
/-- A block of bytes. -/
def rowO (l : List UInt8) (e : TypeId) : Obj := .cells (byteV l).toArray e (0, 0)

section
variable {P : Program}
theorem byteV_length (l : List UInt8) : (byteV l).length = l.length := List.length_map _
theorem byteV_one {l : List UInt8} : ∀ v ∈ byteV l, v.oneCell' = true := by
  intro v hv
  obtain ⟨b, _, rfl⟩ := List.mem_map.1 hv
  rfl

theorem run_make_row (w : World) {t e : TypeId} {i : TypeInfo} (ht : P.underlying t = some (.slice e)) (hi : P.info? e = some i) (hz : i.zero = some (.int .u8 0)) (h1 : i.size = 1) (hb : i.bytes = 1) (n : Nat) (hn : n ≤ 4000000000) :
    (Instr.makeSlice t (.int .i64 (n : Int)) (.int .i64 (n : Int))).run P w = .ok (.slice (some ⟨w.heap.size, 0, none⟩) n n) (w.alloc (rowO (List.replicate n 0) e)) := by
  have h := run_make (P := P) w t e i _ ht hi hz .i64 .i64 (n : Int) (n : Int) (by omega) (Int.le_refl _) (by rw [hb]; omega) (by omega)
  rw [h, h1, Int.toNat_natCast, Nat.mul_one]
  have : madeCells (Value.int .u8 0).cells n = (byteV (List.replicate n 0)).toArray := by
    apply Array.toList_inj.1
    show (madeCells #[Value.int .u8 0] n).toList = _
    rw [toList_madeCells_one]
    simp [byteV]
  rw [this]
  rfl

theorem run_copy_text (w : World) {dT sT ty e : TypeId} (hu : P.underlying dT = some (.slice e)) (hs : (P.info? e).map (·.size) = some 1) {g : Nat} {l : List UInt8} (hg : w.heap[g]? = some (rowO l e)) (s : ByteArray) (cap : Nat) :
    (Builtin.copy_ #[dT, sT] ty #[.slice (some ⟨g, 0, none⟩) l.length cap, .string s]).run P w =
      .ok (goInt (Nat.min s.size l.length)) (w.setRow g (byteV (s.data.toList.take l.length ++ l.drop s.size)).toArray) := by
  have hsz : s.data.toList.length = s.size := Array.length_toList
  have hcs : List.take (s.size.min l.length) (List.map (fun b : UInt8 => Value.int .u8 (b.toNat : Int)) s.data.toList) = byteV (s.data.toList.take l.length) := by
    unfold byteV
    rw [List.map_take]
    rcases Nat.le_total s.size l.length with h | h
    · rw [show s.size.min l.length = s.size from Nat.min_eq_left h, List.take_of_length_le (by rw [List.length_map, hsz]; exact Nat.le_refl _), List.take_of_length_le (by rw [List.length_map, hsz]; exact h)]
    · rw [show s.size.min l.length = l.length from Nat.min_eq_right h]
  have hst := run_storeCells_at P g 0 e (byteV (s.data.toList.take l.length)) 0 (byteV l).toArray w hg (by rw [byteV_length]; simp [byteV_length]; omega) byteV_one
  have hres : (byteV l).take 0 ++ byteV (s.data.toList.take l.length) ++ (byteV l).drop (0 + (byteV (s.data.toList.take l.length)).length) = byteV (s.data.toList.take l.length ++ l.drop s.size) := by
    unfold byteV
    rw [List.take_zero, List.nil_append, List.map_append, List.length_map, Nat.zero_add, ← List.map_drop]
    congr 2
    rw [List.length_take]
    rcases Nat.le_total l.length s.data.toList.length with h | h
    · rw [Nat.min_eq_left h, List.drop_of_length_le (Nat.le_refl _), List.drop_of_length_le (by rw [← hsz]; exact h)]
    · rw [Nat.min_eq_right h, hsz]
  cases hq : P.info? e with
  | none => simp [hq] at hs
  | some i =>
    simp only [Nat.zero_add, Nat.add_zero, List.take_zero] at hst hres
    rw [hres] at hst
    simp [Builtin.copy_, run_underlying hu, Builtin.lenOf, Builtin.firstCells, sizeOf, typeInfo, hq, hcs, hst]

theorem run_row_text (w : World) {src dst e : TypeId} (hs : P.underlying src = some (.slice e)) (he : P.underlying e = some (.int .u8)) (hd : P.underlying dst = some .string) {g : Nat} {l : List UInt8} (hg : w.heap[g]? = some (rowO l e)) (cap : Nat) :
    (convert src dst (.slice (some ⟨g, 0, none⟩) l.length cap)).run P w = .ok (.string (ofL l)) w :=
  run_convert_bytes_back w src dst e ⟨g, 0, none⟩ cap l hs he hd (fun j hj => by
    have hadd : (⟨g, 0, none⟩ : Addr).add j = ⟨g, j, none⟩ := by unfold Addr.add; split <;> simp_all
    rw [hadd]
    refine cell_of_heap hg ?_
    simp [byteV, List.getElem?_eq_getElem hj])
end
end Go.Proofs.YtcgpmnlondnbhaaDoor
