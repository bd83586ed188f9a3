/-
  The library's functions that a dump's reader calls: Trim, Atoi, Cut, IndexByte, Split at a byte.
-/
import Derived.Test.YtmljdnlmpiklgaaGreatDoorSpLoadW
import Derived.Test.YtmljdnlmpiklgaaGreatDoorDumpAA
import Derived.Test.YtmljdnlmpiklgaaGreatDoorOwnRows
import Derived.Shelf.Strings.SlTrimAscii
namespace Go.Proofs.YtmljdnlmpiklgaaGreatDoor
open Go Go.RowKit Txt Sp

def hexT : ByteArray := ⟨#[48, 49, 50, 51, 52, 53, 54, 55, 56, 57, 97, 98, 99, 100, 101, 102]⟩
theorem trim_digs (s : ByteArray) (w : World) (hs : s.size ≤ 4000000000) :
    Calls Tryz.prog 131 #[.string s, .string ⟨#[48, 49, 50, 51, 52, 53, 54, 55, 56, 57]⟩] w fun e w' => e = .returned (.string (ofL (Lib.trimS s.data.toList digs))) ∧ Below w.heap.size w w' :=
  Any.strings_Trim_laid Tryz.lays160 (by kernel_rfl) s ⟨#[48, 49, 50, 51, 52, 53, 54, 55, 56, 57]⟩ w (by omega) (by decide) (ascii_of_all (by decide))
theorem atoi_num (s : ByteArray) (n : Nat) (w : World) (hl : s.size ≤ 12) (h : Lib.atoi s.data.toList = some (n : Int)) :
    Calls Tryz.prog 132 #[.string s] w fun e w' => e = .returned (.tuple #[.int .i64 (n : Int), .nilIface]) ∧ Below w.heap.size w w' :=
  (Tryz.strconv_Atoi s n (by omega) h w).mono fun e w' ⟨h1, t, h2⟩ => ⟨h1, by rw [h2]; exact ⟨rfl, rfl, rfl, by rw [Lib.bytesWorld_size]; omega, fun k hk => Lib.bytesWorld_at_old _ _ _ k hk⟩⟩
theorem cutText_any (s : ByteArray) (c : UInt8) (w : World) (hm : MaxOk w) (hs : s.size ≤ 4000000000) :
    Calls Tryz.prog 83 #[.string s, .string ⟨#[c]⟩] w fun e w' => e = .returned (.tuple #[.string (ofL (Lib.cut s.data.toList [c]).1), .string (ofL (Lib.cut s.data.toList [c]).2.1), .bool (Lib.cut s.data.toList [c]).2.2]) ∧ Below w.heap.size w w' := by
  obtain ⟨m, hm⟩ := hm
  exact (Tryz.strings_Cut s ⟨#[c]⟩ m w (by omega) hm).mono fun e w' ⟨h1, n, h2⟩ => ⟨h1, by rw [h2]; exact below_drewN (Below.refl _ _) n⟩
/-- The place of a digit of base 16; -1: it is none. -/
def hexI (c : UInt8) : Int := match hexV c with
  | some n => (n : Int)
  | none => -1
theorem hexI_some {c : UInt8} {n : Nat} (h : hexV c = some n) : hexI c = (n : Int) := by unfold hexI; rw [h]
theorem hexI_none {c : UInt8} (h : hexV c = none) : hexI c = -1 := by unfold hexI; rw [h]
theorem indexHex_any (c : UInt8) (w : World) :
    Calls Tryz.prog 89 #[.string hexT, .int .u8 (c.toNat : Int)] w fun e w' => e = .returned (.int .i64 (hexI c)) ∧ w = w' := by
  refine (Tryz.strings_IndexByte hexT (c.toNat : Int) w).mono fun e w' ⟨h1, h2⟩ => ⟨?_, h2.symm⟩
  rw [h1, Int.toNat_natCast]
  have : c.toNat.toUInt8 = c := UInt8.ofNat_toNat
  have h3 : Lib.indexByte hexT.data.toList c = hexI c := hexV_index c
  rw [this, h3]
/-- strings.Split at a byte. -/
theorem splitAt_any (s : ByteArray) (c : UInt8) (w : World) (hm : MaxOk w) (hs : s.size ≤ 4000000000) :
    Calls Tryz.prog 15 #[.string s, .string ⟨#[c]⟩] w fun e w' => ∃ v, e = .returned v ∧ Texts w' v ((cutAt c s.data.toList).map ofL) ∧ Below w.heap.size w w' := by
  obtain ⟨m, hm⟩ := hm
  refine (Tryz.strings_Split s ⟨#[c]⟩ m w (by omega) hm (by show (0 : Nat) < 1; decide)).mono ?_
  rintro e w' ⟨rfl, rfl⟩
  refine ⟨_, rfl, ?_, (Below.refl _ _).alloc (Nat.le_refl _) _⟩
  have hl := cutAtB_length_le (c0 := c) s
  rw [splitB_at, count_at]
  exact Texts.laid w (cutAtB c s) _ (by unfold maxLen; omega)
end Go.Proofs.YtmljdnlmpiklgaaGreatDoor
