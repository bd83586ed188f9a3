/-
  Walks of layer 5: Taken, Find from the first place on, Count.
-/
import Derived.Test.YtghafpdmcbockaaGreatDoorGeomBlk
import Derived.Test.YtghafpdmcbockaaGreatDoorSpFresh
import Derived.Lib.IndexLaws
namespace Go.Proofs.YtghafpdmcbockaaGreatDoor
open Go Go.RowKit Txt Sp

theorem index_free {s : ByteArray} (hs : s.size = 64) {n : Nat} (hn : n ≤ 64) : Lib.indexByte (s.extract 0 n).data.toList 0 = match freeP s n with | some p => (p : Int) | none => -1 := by
  have hx : (s.extract 0 n).data.toList = s.data.toList.take n := by rw [Lib.extract_data]; simp
  have hl : s.data.toList.length = 64 := hs
  have hat : ∀ p, p < n → ((s.data.toList.take n)[p]? = some 0 ↔ (s.data.toList.getD p 0 == 0) = true) := fun p hp => by
    rw [List.getElem?_take, if_pos hp, List.getD_eq_getElem?_getD, List.getElem?_eq_getElem (by omega)]
    simp
  rw [hx]
  have hge := Lib.indexByte_ge (s.data.toList.take n) 0
  by_cases h1 : Lib.indexByte (s.data.toList.take n) 0 = -1
  · have hnone := Lib.indexByte_none h1
    have : freeP s n = none := by
      unfold freeP
      rw [List.find?_eq_none]
      intro p hp h
      have hp := List.mem_range.1 hp
      exact hnone p ((hat p hp).2 h)
    rw [this, h1]
  · obtain ⟨o, ho⟩ : ∃ o : Nat, Lib.indexByte (s.data.toList.take n) 0 = (o : Int) := ⟨(Lib.indexByte (s.data.toList.take n) 0).toNat, by omega⟩
    obtain ⟨h2, h3⟩ := Lib.indexByte_some ho
    have hlt : o < n := by
      have := (List.getElem?_eq_some_iff.1 h2).1
      rw [List.length_take] at this
      omega
    have : freeP s n = some o := by
      unfold freeP
      rw [List.find?_range_eq_some]
      refine ⟨(hat o hlt).1 h2, List.mem_range.2 hlt, fun j hj => ?_⟩
      have := h3 j hj
      rw [ne_eq, hat j (by omega)] at this
      simpa using this
    rw [this, ho]
section
set_option maxHeartbeats 2000000
set_option maxRecDepth 20000 in
theorem mtaken_any (w : World) (s : ByteArray) (n p : Int) (h : mapC s n = 0) (hp : 0 ≤ p ∧ p < n) :
    Calls Tryz.prog 92 #[.string s, .int .i64 n, .int .i64 p] w fun e w' => e = .returned (.tuple #[.bool (s.data.toList.getD p.toNat 0 == 1), .int .i64 0]) ∧ Below w.heap.size w w' := by
  have ha := fun W : World => mask_any W s n p h
  obtain ⟨h1, h2, h3, _⟩ := mapC_size h
  rw [show manyC n p = 0 from if_neg (by omega)] at ha
  obtain ⟨k, rfl⟩ : ∃ k : Nat, p = (k : Int) := ⟨p.toNat, by omega⟩
  have hk : k < s.size := by omega
  obtain ⟨b, hb⟩ : ∃ b, s.data.toList.getD k 0 = b := ⟨_, rfl⟩
  rw [Int.toNat_natCast, hb]
  have hbb : (s[k]'hk) = b := by
    rw [← hb, List.getD_eq_getElem?_getD, List.getElem?_eq_getElem (by show k < s.data.toList.length; rw [Array.length_toList]; exact hk)]
    rfl
  have HD : Hid (((b.toNat : Int) == 1) = (b == 1)) := by
    show _ = _
    by_cases hb1 : b = 1
    · subst hb1; rfl
    · have hne : ¬ (b.toNat : Int) = 1 := fun e => hb1 (UInt8.toNat_inj.1 (show b.toNat = (1 : UInt8).toNat by
        have e1 : (1 : UInt8).toNat = 1 := rfl
        omega))
      rw [beq_eq_false_iff_ne.2 hne, beq_eq_false_iff_ne.2 hb1]
  have HA := Lib.hid ha
  clear ha
  clear h h1 h2 hp hb
  go_enter Tryz.func92, Tryz.ntmps92
  go_wp2_with fail
  refine (HA.out _).mono ?_
  rintro e w1 ⟨rfl, hb1⟩
  have HB1 := Lib.hid (blN (Below.refl _ _) hb1)
  clear hb1
  go_wp2
  go_ret2
  refine ⟨?_, HB1.out⟩
  have hd := HD.out
  rw [← hd, ← hbb]
  rfl
set_option maxRecDepth 20000 in
theorem mfind_any (w : World) (s : ByteArray) (n : Int) (h : mapC s n = 0) :
    Calls Tryz.prog 89 #[.string s, .int .i64 n, .int .i64 0] w fun e w' => e = .returned (match freeP s n.toNat with | some p => .tuple #[.int .i64 (p : Int), .int .i64 0] | none => .tuple #[.int .i64 0, .int .i64 50]) ∧ Below w.heap.size w w' := by
  have ha := fun W : World => mask_any W s n 0 h
  obtain ⟨h1, h2, h3, _⟩ := mapC_size h
  rw [show manyC n 0 = 0 from if_neg (by omega)] at ha
  obtain ⟨k, rfl⟩ : ∃ k : Nat, n = (k : Int) := ⟨n.toNat, by omega⟩
  rw [Int.toNat_natCast]
  have hk : k ≤ 64 := by omega
  have hx := index_free h3 hk
  have hi := fun W : World => Tryz.strings_Index_one (s.extract 0 k) 0 W
  have hj := fun W : World => Tryz.strings_Index_one ByteArray.empty 0 W
  have hj0 : Lib.indexByte ByteArray.empty.data.toList 0 = -1 := rfl
  rw [hj0] at hj
  rw [hx] at hi
  cases hf : freeP s k with
  | some p =>
    rw [hf] at hi
    dsimp only at hi ⊢
    have hp := (freeP_some hf).1
    have HA := Lib.hid ha
    have HI := Lib.hid hi
    have HJ := Lib.hid hj
    clear ha hi hj
    clear h h1 h2 hx hj0 hf
    go_enter Tryz.func89, Tryz.ntmps89
    go_wp2_with fail
    refine (HA.out _).mono ?_
    rintro e w1 ⟨rfl, hb1⟩
    have HB1 := Lib.hid (blN (Below.refl _ _) hb1)
    clear hb1
    go_wp2_with fail
    refine (HI.out _).mono ?_
    rintro e w2 ⟨rfl, hw2⟩
    subst hw2
    go_wp2
    go_ret2
    first | exact ⟨rfl, HB1.out⟩ | exact ⟨by rw [Int.zero_add], HB1.out⟩
  | none =>
    rw [hf] at hi
    dsimp only at hi ⊢
    have HA := Lib.hid ha
    have HI := Lib.hid hi
    have HJ := Lib.hid hj
    clear ha hi hj
    clear h h1 h2 hx hj0 hf
    go_enter Tryz.func89, Tryz.ntmps89
    go_wp2_with fail
    refine (HA.out _).mono ?_
    rintro e w1 ⟨rfl, hb1⟩
    have HB1 := Lib.hid (blN (Below.refl _ _) hb1)
    clear hb1
    go_wp2_with fail
    refine (HI.out _).mono ?_
    rintro e w2 ⟨rfl, hw2⟩
    subst hw2
    go_wp2_with fail
    refine (HJ.out _).mono ?_
    rintro e w3 ⟨rfl, hw3⟩
    subst hw3
    go_wp2
    go_ret2
    exact ⟨rfl, HB1.out⟩
set_option maxRecDepth 20000 in
theorem mcount_any (w : World) (s : ByteArray) (n : Int) (h : mapC s n = 0) :
    Calls Tryz.prog 45 #[.string s, .int .i64 n] w fun e w' => e = .returned (.tuple #[.int .i64 (onesN s : Int), .int .i64 0]) ∧ Below w.heap.size w w' := by
  have ha := fun W : World => mcheck_any W s n
  rw [h] at ha
  have hi := fun W : World => Tryz.strings_Count_one s 1 W
  have hx : Lib.countByte s.data.toList 1 = onesN s := rfl
  rw [hx] at hi
  obtain ⟨c, hc⟩ : ∃ c, onesN s = c := ⟨_, rfl⟩
  rw [hc] at hi ⊢
  have HA := Lib.hid ha
  have HI := Lib.hid hi
  clear ha hi
  clear h hx hc
  go_enter Tryz.func45, Tryz.ntmps45
  go_wp2_with fail
  refine (HA.out _).mono ?_
  rintro e w1 ⟨rfl, hb1⟩
  have HB1 := Lib.hid (blN (Below.refl _ _) hb1)
  clear hb1
  go_wp2_with fail
  refine (HI.out _).mono ?_
  rintro e w2 ⟨rfl, hw2⟩
  subst hw2
  go_wp2
  go_ret2
  exact ⟨rfl, HB1.out⟩
end
end Go.Proofs.YtghafpdmcbockaaGreatDoor
