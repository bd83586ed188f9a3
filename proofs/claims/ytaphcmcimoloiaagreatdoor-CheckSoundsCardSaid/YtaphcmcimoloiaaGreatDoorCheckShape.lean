/-
  Walks of layer 19: shape.
-/
import Derived.Test.YtaphcmcimoloiaaGreatDoorCheckTaken
namespace Go.Proofs.YtaphcmcimoloiaaGreatDoor
open Go Go.RowKit Txt Sp

def FullS (N : Nat) (S : Int → ByteArray) : Prop := ∀ k : Nat, k < N → (S k).size = 64
def ShapeOk (g : Sp.Geom) (N : Nat) (S : Int → ByteArray) : Prop := g.ok ∧ (N : Int) = g.size ∧ ∀ k : Nat, k < N → (S k).size = 64
section
variable {w : World} {N : Nat} {g : Sp.Geom} {vs : Value} {K : Nat → Prop} {S : Int → ByteArray}
set_option maxHeartbeats 2000000
set_option maxRecDepth 20000
theorem cshapeOne_any (w : World) (s : ByteArray) : Calls Tryz.prog 205 #[.string s] w fun e w' => e = .returned (.bool (decide (s.size ≠ 64))) ∧ w = w' := by
  by_cases h : s.size = 64
  · have q1 : ((s.size : Int) != 64) = false := by rw [h]; rfl
    rw [decide_eq_false (fun h2 => h2 h)]
    clear h
    go_enter Tryz.func205, Tryz.ntmps205
    go_wp2
    go_ret
    exact ⟨rfl, rfl⟩
  · have q1 : ((s.size : Int) != 64) = true := by simp; omega
    rw [decide_eq_true h]
    clear h
    go_enter Tryz.func205, Tryz.ntmps205
    go_wp2
    go_ret
    exact ⟨rfl, rfl⟩
theorem cshapeIx_any (hs : SecsAt w vs N S K) : Calls Tryz.prog 268 #[vs, .func (.func 205) #[] #[]] w fun e w' =>
    ∃ r : Int, e = .returned (.int .i64 r) ∧ (0 ≤ r ↔ ¬ FullS N S) ∧ w = w' := by
  obtain ⟨b, o, cap, rfl, hb, -, hn, hc⟩ := hs
  have HC := Lib.hid hc
  have HS := Lib.hid (fun s : ByteArray => cshapeOne_any w s)
  clear hb hc
  go_enter Tryz.func268, Tryz.ntmps268
  go_wp2
  go_loop [8] (fun i => ∃ k : Nat, k ≤ N ∧ i = .int .i64 k ∧ Hid (∀ t : Nat, t < k → (S t).size = 64)) (fun i => N - (intOf i).toNat)
  case atStart => exact ⟨0, Nat.zero_le _, rfl, Lib.hid (fun t h => absurd h (Nat.not_lt_zero _))⟩
  case round =>
    obtain ⟨k, hk, rfl, HA⟩ := hrel
    by_cases hlt : k < N
    · have c0 := HC.out k hlt
      have hcall := HS.out (S k)
      obtain ⟨s, hse⟩ : ∃ s, S k = s := ⟨_, rfl⟩
      rw [hse] at c0 hcall
      by_cases h64 : s.size = 64
      · have HA2 : Hid (∀ t : Nat, t < k + 1 → (S t).size = 64) := fun t ht => by
          by_cases e : t < k
          · exact HA.out t e
          · obtain rfl : t = k := by omega
            rw [hse]
            exact h64
        rw [decide_eq_false (fun h => h h64)] at hcall
        have HCa := Lib.hid hcall
        clear h64 hcall hse
        go_wp2_with fail
        refine HCa.out.mono ?_
        rintro e w2 ⟨rfl, rfl⟩
        go_wp2
        go_round
        case rel => exact ⟨k + 1, by omega, by go_num, HA2⟩
        case measure => simp [intOf]; omega
      · have HE : Hid (0 ≤ (k : Int) ↔ ¬ FullS N S) := ⟨fun _ h => h64 (by rw [← hse]; exact h k hlt), fun _ => by omega⟩
        rw [decide_eq_true h64] at hcall
        have HCa := Lib.hid hcall
        clear h64 hcall hse
        go_wp2_with fail
        refine HCa.out.mono ?_
        rintro e w2 ⟨rfl, rfl⟩
        go_wp2
        go_ret
        exact ⟨_, rfl, HE.out, rfl⟩
    · have hkN : N = k := by omega
      have HE : Hid (0 ≤ (-1 : Int) ↔ ¬ FullS N S) := ⟨fun h => absurd h (by decide), fun h => absurd (fun t ht => HA.out t (by omega)) h⟩
      clear hkN
      go_wp2
      go_ret
      exact ⟨_, rfl, HE.out, rfl⟩
theorem cshapeAll_any (hs : SecsAt w vs N S K) : Calls Tryz.prog 204 #[vs, .func (.func 205) #[] #[]] w fun e w' =>
    ∃ b : Bool, e = .returned (.bool b) ∧ (b = true ↔ ¬ FullS N S) ∧ w = w' := by
  have HI := Lib.hid (cshapeIx_any hs)
  clear hs
  go_enter Tryz.func204, Tryz.ntmps204
  go_wp2_with fail
  refine HI.out.mono ?_
  rintro e w1 ⟨r, rfl, hr, rfl⟩
  have HE : Hid (decide (r ≥ 0) = true ↔ ¬ FullS N S) := by show _ ↔ _; rw [decide_eq_true_iff]; exact hr
  clear hr
  go_wp2
  go_ret
  exact ⟨_, rfl, HE.out, rfl⟩
theorem cshape_any (w : World) (g : Sp.Geom) (hs : SecsAt w vs N S K) : Calls Tryz.prog 136 #[gV g, vs] w fun e w' => ∃ b : Bool, e = .returned (.bool b) ∧ (b = true ↔ ShapeOk g N S) ∧ Below w.heap.size w w' := by
  have hco := fun W (hW : Below w.heap.size w W) => cshapeAll_any (hs.below hW)
  have hck := fun W : World => gcheck_any W g
  have hsz := fun W : World => gsize_any W g
  obtain ⟨bv, o, cap, rfl, -, -, hN6, -⟩ := hs
  obtain ⟨c, hc⟩ : ∃ c, g.check = c := ⟨_, rfl⟩
  obtain ⟨z, hz⟩ : ∃ z, g.size = z := ⟨_, rfl⟩
  have hok : g.ok ↔ c = 0 := by
    rw [← hc]
    unfold Geom.check
    split <;> simp_all
  have HD : Hid (∀ b : Bool, (b = true ↔ ¬ FullS N S) → ((c == 0 && ((N : Int) == z && !b)) = true ↔ ShapeOk g N S)) := fun b hb => by
    unfold ShapeOk
    unfold FullS at hb
    rw [hok, hz]
    cases b
    · simp at hb
      simp
      intro _ _
      exact hb
    · simp at hb
      simp
      intro _ _
      exact hb
  rw [hc] at hck
  rw [hz] at hsz
  obtain ⟨ga, gb, gc⟩ := g
  unfold gV at *
  dsimp only at *
  obtain ⟨W0, hW0⟩ : ∃ W, w.alloc (.cells #[.int .i64 ga, .int .i64 gb, .int .i64 gc] 27) = W := ⟨_, rfl⟩
  have hk := g_keep hW0
  have HB0 := Lib.hid hk.1
  have HK := Lib.hid hk.2
  clear hk
  have HCo := Lib.hid (hco W0 (by rw [← hW0]; exact bl2 _))
  have HCK := Lib.hid hck
  have HSZ := Lib.hid hsz
  clear hck hsz
  clear hco hc hz hok
  obtain ⟨z0, z1, z2⟩ := HK.out W0 (Below.refl _ _)
  go_enter Tryz.func136, Tryz.ntmps136
  go_wp2_with fail
  clear z0 z1 z2
  refine HCo.out.mono ?_
  rintro e w1 ⟨b, rfl, hb, rfl⟩
  have HD2 := Lib.hid (HD.out b hb)
  clear hb
  obtain ⟨z0, z1, z2⟩ := HK.out W0 (Below.refl _ _)
  go_wp2_with fail
  clear z0 z1 z2
  refine (HCK.out _).mono ?_
  rintro e w2 ⟨rfl, hb2⟩
  have HB2 := Lib.hid hb2
  obtain ⟨z0, z1, z2⟩ := HK.out w2 hb2
  clear hb2
  by_cases hc0 : c = 0
  · have q0 : (c == 0) = true := by rw [hc0]; rfl
    go_wp2_with fail
    clear z0 z1 z2
    refine (HSZ.out _).mono ?_
    rintro e w3 ⟨rfl, hb3⟩
    have HB3 := Lib.hid (blN HB0.out (blN HB2.out hb3))
    clear hb3
    cases hq : ((N : Int) == z) with
    | true =>
      have HD3 := HD2.out
      rw [q0, hq] at HD3
      have HD4 := Lib.hid HD3
      clear HD3
      cases b
      · go_wp2
        go_ret
        exact ⟨_, rfl, HD4.out, HB3.out⟩
      · go_wp2
        go_ret
        exact ⟨_, rfl, HD4.out, HB3.out⟩
    | false =>
      have HD3 := HD2.out
      rw [q0, hq] at HD3
      have HD4 := Lib.hid HD3
      clear HD3
      go_wp2
      go_ret
      exact ⟨_, rfl, HD4.out, HB3.out⟩
  · have q0 : (c == 0) = false := beq_eq_false_iff_ne.2 hc0
    have HD3 := HD2.out
    rw [q0] at HD3
    have HD4 := Lib.hid HD3
    clear HD3
    go_wp2
    go_ret
    exact ⟨_, rfl, HD4.out, blN HB0.out HB2.out⟩
end
end Go.Proofs.YtaphcmcimoloiaaGreatDoor
