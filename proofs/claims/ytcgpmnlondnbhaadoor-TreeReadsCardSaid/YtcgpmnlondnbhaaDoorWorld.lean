/-
  What a world holds: a slice of texts; the library's bound for Index.
-/
import Derived.Test.YtcgpmnlondnbhaaDoorProg
import Derived.Test.YtcgpmnlondnbhaaDoorTxt
import Derived.WalkKit
import Derived.WalkSpells
import Derived.WalkLawsBesides
import Derived.Lib.Hide
import Derived.Outline
import Derived.Deep.QuietTactic
import Derived.BigQuiet
import Derived.Deep.DeepFit
namespace Go.Proofs.YtcgpmnlondnbhaaDoor
open Go.RowKit

/-- The slice v holds the texts l. -/
def Texts (w : World) (v : Value) (l : List ByteArray) : Prop :=
  ∃ (ad : Option Addr) (cap : Nat), v = .slice ad l.length cap ∧ l.length ≤ cap ∧ cap ≤ maxLen ∧
    (0 < l.length → ∃ b off, ad = some ⟨b, off, none⟩ ∧ b < w.heap.size ∧ ∀ j x, l[j]? = some x → w.cell? ⟨b, off + j, none⟩ = some (.string x))

theorem Texts.below {w w' : World} {v : Value} {l : List ByteArray} (h : Texts w v l) (hb : Below w.heap.size w w') : Texts w' v l := by
  obtain ⟨ad, cap, hv, h1, h2, h3⟩ := h
  refine ⟨ad, cap, hv, h1, h2, fun hp => ?_⟩
  obtain ⟨b, off, e, hlt, hc⟩ := h3 hp
  have := hb.size
  exact ⟨b, off, e, by omega, fun j x hx => (hb.cell (p := ⟨b, off + j, none⟩) hlt).trans (hc j x hx)⟩
theorem Texts.void (w : World) : Texts w (.slice Option.none 0 0) [] := ⟨Option.none, 0, rfl, Nat.le_refl _, Nat.zero_le _, fun h => absurd h (by simp)⟩

/-- The facts of a slice of at most eight texts, for a walk. -/
theorem Texts.open8 {w : World} {v : Value} {l : List ByteArray} (h : Texts w v l) (h8 : l.length ≤ 8) : ∃ (ad : Option Addr) (n cap : Nat), v = .slice ad n cap ∧ Hid (n = l.length) ∧ n ≤ 8 ∧
    Hid (∀ k, k < n → ∃ b off x, ad = some ⟨b, off, none⟩ ∧ b < w.heap.size ∧ l[k]? = some x ∧ w.cell? ⟨b, off + k, none⟩ = some (.string x)) := by
  obtain ⟨ad, cap, e, h1, h2, h3⟩ := h
  refine ⟨ad, l.length, cap, e, rfl, h8, fun k hk => ?_⟩
  obtain ⟨b, off, e2, hb, hc⟩ := h3 (by omega)
  exact ⟨b, off, l[k], e2, hb, by simp, hc k _ (by simp)⟩

/-- The library's variable MaxLen holds a number. -/
def MaxOk (w : World) : Prop := ∃ m, w.cell? ⟨0, 0, Option.none⟩ = some (.int .i64 m)
theorem MaxOk.below {w w' : World} (h : MaxOk w) (hb : Below w.heap.size w w') : MaxOk w' :=
  let ⟨m, hm⟩ := h
  ⟨m, (hb.cell (World.block_lt_of_cell? _ _ hm)).trans hm⟩

theorem ret_int {k : IntKind} {a b : Int} (h : a = b) : Ending.returned (.int k a) = .returned (.int k b) := by rw [h]
theorem ret_bool {a b : Bool} (h : a = b) : Ending.returned (.bool a) = .returned (.bool b) := by rw [h]
theorem wrap_in {a : Int} (h : -9223372036854775808 ≤ a ∧ a ≤ 9223372036854775807) : IntKind.i64.wrap a = a := IntWalk.i64_in _ h

theorem u8_eq (c : UInt8) (n : Nat) (hn : n < 256) : ((c.toNat : Int) == (n : Int)) = decide (c = UInt8.ofNat n) := by
  rw [Bool.eq_iff_iff, beq_iff_eq, decide_eq_true_iff]
  constructor
  · intro h
    have : c.toNat = n := by omega
    rw [← this, UInt8.ofNat_toNat]
  · intro h
    rw [h, UInt8.toNat_ofNat_of_lt' hn]
theorem at_data (s : ByteArray) (k : Nat) (h : k < s.size) : s.data.toList[k]? = some (s[k]'h) := by
  rw [List.getElem?_eq_getElem (by rw [← Lib.size_eq]; exact h)]
  rfl
theorem take_snoc {α : Type} (l : List α) (k : Nat) (x : α) (h : l[k]? = some x) : l.take (k + 1) = l.take k ++ [x] := by
  rw [List.take_add_one, h]; rfl

end Go.Proofs.YtcgpmnlondnbhaaDoor
