/-
  Walks of layer 19: the law CheckSounds.
-/
import Derived.Test.YtaphcmcimoloiaaGreatDoorCheckWorks
import Derived.Laws.AppendOwn
import Derived.Laws.AppendOwnNone
namespace Go.Proofs.YtaphcmcimoloiaaGreatDoor
open Go Go.RowKit Txt Sp

set_option maxHeartbeats 2000000
set_option maxRecDepth 20000
theorem soundOne_any (w : World) (x : Int × Int) : Calls Tryz.prog 55 #[.agg #[.int .i64 x.1, .int .i64 x.2]] w fun e w' => e = .returned (.bool (decide (x.1 ≤ 5))) ∧ Below w.heap.size w w' := by
  obtain ⟨a, b⟩ := x
  dsimp only
  obtain ⟨W0, hW0⟩ : ∃ W, w.alloc (.cells #[.int .i64 a, .int .i64 b] 107) = W := ⟨_, rfl⟩
  have HB : Hid (Below w.heap.size w W0) := by rw [← hW0]; exact bl2 _
  have hz : W0.heap[w.heap.size]? = some (.cells #[.int .i64 a, .int .i64 b] 107 (0, 0)) := by rw [← hW0]; exact heapNew w _
  have y0 := cellOf (k := 0) hz rfl
  clear hz
  go_enter Tryz.func55, Tryz.ntmps55
  go_wp2
  go_ret
  exact ⟨rfl, HB.out⟩
def soundP (l : List (Int × Int)) : Prop := ∀ x ∈ l, ¬ x.1 ≤ 5
def SayPost (p : Prop) (e : Ending) : Prop := ∃ b : Bool, e = .returned (.bool b) ∧ (b = true ↔ p)
theorem say {p : Prop} {b : Bool} (h : b = true ↔ p) : SayPost p (.returned (.bool b)) := ⟨b, rfl, h⟩
theorem soundP_step {l : List (Int × Int)} {k : Nat} {x : Int × Int} (h : soundP (l.take k)) (hx : l[k]? = some x) (h5 : ¬ x.1 ≤ 5) : soundP (l.take (k + 1)) := by
  intro t ht
  rw [take_step hx] at ht
  rcases List.mem_append.1 ht with ht | ht
  · exact h t ht
  · rw [List.mem_singleton.1 ht]; exact h5
theorem soundIx_any (w : World) (v : Value) (l : List (Int × Int)) (hv : RowAt w v 2 (l.map defC)) : Calls Tryz.prog 135 #[v, .func (.func 55) #[] #[]] w fun e w' =>
    ∃ r : Int, e = .returned (.int .i64 r) ∧ (0 ≤ r ↔ ¬ soundP l) ∧ Below w.heap.size w w' := by
  obtain ⟨ad, n, cap, rfl, HN, hn2, HF⟩ := RowAt.facts hv
  have HS := Lib.hid (fun (W : World) (x : Int × Int) => soundOne_any W x)
  clear hv
  go_enter Tryz.func135, Tryz.ntmps135
  go_wp2
  go_loopw [8] (fun i wr => ∃ k : Nat, k ≤ n ∧ i = .int .i64 k ∧ Hid (Below w.heap.size w wr ∧ soundP (l.take k))) (fun i _ => n - (intOf i).toNat)
  case atStart => exact ⟨0, Nat.zero_le _, rfl, Below.refl _ _, fun _ h => absurd h (by simp)⟩
  case round =>
    obtain ⟨k, hk, rfl, HA⟩ := hrel
    by_cases hlt : k < n
    · obtain ⟨b, o, x, rfl, hb, hx, hc⟩ := HF.out k hlt
      have hcall := HS.out wr x
      obtain ⟨x1, x2⟩ := x
      have y0 : wr.cell? ⟨b, o + k * 2, none⟩ = some (.int .i64 x1) := (HA.out.1.cell (p := ⟨b, o + k * 2, none⟩) hb).trans (hc 0 _ rfl)
      have y1 : wr.cell? ⟨b, o + k * 2 + 1, none⟩ = some (.int .i64 x2) := (HA.out.1.cell (p := ⟨b, o + k * 2 + 1, none⟩) hb).trans (hc 1 _ rfl)
      dsimp only at hcall
      have HX := Lib.hid hx
      clear hc hx hb
      by_cases h5 : x1 ≤ 5
      · have HE : Hid (0 ≤ (k : Int) ↔ ¬ soundP l) := ⟨fun _ h => h _ (List.mem_of_getElem? HX.out) h5, fun _ => by omega⟩
        rw [decide_eq_true h5] at hcall
        have HCa := Lib.hid hcall
        clear h5 hcall
        go_wp2_with fail
        refine HCa.out.mono ?_
        rintro e w2 ⟨rfl, hb2⟩
        have HB2 := Lib.hid (blN HA.out.1 hb2)
        clear hb2
        go_wp2
        go_ret
        exact ⟨_, rfl, HE.out, HB2.out⟩
      · rw [decide_eq_false h5] at hcall
        have HCa := Lib.hid hcall
        have HA2 : Hid (soundP (l.take (k + 1))) := soundP_step HA.out.2 HX.out h5
        clear h5 hcall
        go_wp2_with fail
        refine HCa.out.mono ?_
        rintro e w2 ⟨rfl, hb2⟩
        have HR1 : Hid (Below w.heap.size w w2 ∧ soundP (l.take (k + 1))) := ⟨blN HA.out.1 hb2, HA2.out⟩
        clear hb2
        go_wp2
        go_roundw
        case rel => exact ⟨k + 1, by omega, by go_num, HR1⟩
        case measure => simp [intOf]; omega
    · have HE : Hid (0 ≤ (-1 : Int) ↔ ¬ soundP l) := by
        have htk : l.take k = l := List.take_of_length_le (by have := HN.out; omega)
        have ha := HA.out.2
        rw [htk] at ha
        exact ⟨fun h => absurd h (by decide), fun h => absurd ha h⟩
      go_wp2
      go_ret
      exact ⟨_, rfl, HE.out, HA.out.1⟩
theorem soundHas_any (w : World) (v : Value) (l : List (Int × Int)) (hv : RowAt w v 2 (l.map defC)) : Calls Tryz.prog 54 #[v, .func (.func 55) #[] #[]] w fun e w' =>
    SayPost (¬ soundP l) e ∧ Below w.heap.size w w' := by
  have HI := Lib.hid (soundIx_any w v l hv)
  clear hv
  go_enter Tryz.func54, Tryz.ntmps54
  go_wp2_with fail
  refine HI.out.mono ?_
  rintro e w1 ⟨r, rfl, hr, hb⟩
  have HE : Hid (decide (r ≥ 0) = true ↔ ¬ soundP l) := by show _ ↔ _; rw [decide_eq_true_iff]; exact hr
  have HB := Lib.hid hb
  clear hr hb
  go_wp2
  go_ret
  exact ⟨say HE.out, HB.out⟩
theorem sound_any (w : World) (v : Value) (l : List (Int × Int)) (hv : RowAt w v 2 (l.map defC)) : Calls Tryz.prog 12 #[v] w fun e w' => SayPost (soundP l) e ∧ Below w.heap.size w w' := by
  have HI := Lib.hid (soundHas_any w v l hv)
  clear hv
  go_enter Tryz.func12, Tryz.ntmps12
  go_wp2_with fail
  refine HI.out.mono ?_
  rintro e w1 ⟨⟨b, rfl, hr⟩, hb⟩
  have HE : Hid ((!b) = true ↔ soundP l) := by
    show _ ↔ _
    cases b
    · simp at hr
      simp [hr]
    · simp at hr
      simp [hr]
  have HB := Lib.hid hb
  clear hr hb
  cases b
  · go_wp2
    go_ret
    exact ⟨say HE.out, HB.out⟩
  · go_wp2
    go_ret
    exact ⟨say HE.out, HB.out⟩
theorem rsound_any (w : World) (v : Value) (l : List (Int × Int)) (hv : RowAt w v 2 (l.map defC)) : Calls Tryz.prog 13 #[v] w fun e w' => SayPost (soundP l) e ∧ w = w' := by
  obtain ⟨ad, n, cap, rfl, HN, hn2, HF⟩ := RowAt.facts hv
  clear hv
  go_enter Tryz.func13, Tryz.ntmps13
  go_wp2
  go_loop [3] (fun i => ∃ k : Nat, k ≤ n ∧ i = .int .i64 k ∧ Hid (soundP (l.take k))) (fun i => n - (intOf i).toNat)
  case atStart => exact ⟨0, Nat.zero_le _, rfl, Lib.hid (fun _ h => absurd h (by simp))⟩
  case round =>
    obtain ⟨k, hk, rfl, HA⟩ := hrel
    by_cases hlt : k < n
    · obtain ⟨b, o, x, rfl, hb, hx, hc⟩ := HF.out k hlt
      obtain ⟨x1, x2⟩ := x
      have y0 : w.cell? ⟨b, o + k * 2, none⟩ = some (.int .i64 x1) := hc 0 _ rfl
      have HX := Lib.hid hx
      clear hc hx hb
      by_cases h5 : x1 ≤ 5
      · have q5 : decide (x1 ≤ 5) = true := decide_eq_true h5
        have HE : Hid (false = true ↔ soundP l) := ⟨fun h => (by cases h), fun h => absurd h5 (h _ (List.mem_of_getElem? HX.out))⟩
        clear h5
        go_wp2
        go_ret
        exact ⟨say HE.out, rfl⟩
      · have q5 : decide (x1 ≤ 5) = false := decide_eq_false h5
        have HA2 : Hid (soundP (l.take (k + 1))) := soundP_step HA.out HX.out h5
        clear h5
        go_wp2
        go_round
        case rel => exact ⟨k + 1, by omega, by go_num, HA2⟩
        case measure => simp [intOf]; omega
    · have HE : Hid (SayPost (soundP l) (.returned (.bool true))) := by
        have htk : l.take k = l := List.take_of_length_le (by have := HN.out; omega)
        have ha := HA.out
        rw [htk] at ha
        exact say ⟨fun _ => ha, fun _ => rfl⟩
      go_wp2
      go_ret
      exact ⟨HE.out, rfl⟩
theorem row_cell {w : World} {ad : Addr} {n : Nat} {l : List (Int × Int)} (hn : n = l.length) (HF : ∀ j, j < n → ∃ b off x, some ad = some (⟨b, off, none⟩ : Addr) ∧ b < w.heap.size ∧ l[j]? = some x ∧ ∀ (i : Nat) (y : Value), (defC x)[i]? = some y → w.cell? ⟨b, off + j * 2 + i, none⟩ = some y) :
    ∀ j u, (l.flatMap defC)[j]? = some u → ad.block < w.heap.size ∧ w.cell? (ad.add j) = some u ∧ u.oneCell' = true := fun j u hu => by
  have hj := (List.getElem?_eq_some_iff.1 hu).1
  rw [defC_len] at hj
  obtain ⟨b, off, x, e, hb, hx, hc⟩ := HF (j / 2) (by omega)
  cases e
  have e2 : j / 2 * 2 + j % 2 = j := by omega
  obtain ⟨y, hy, h1⟩ : ∃ y, (defC x)[j % 2]? = some y ∧ y.oneCell' = true := by
    have : j % 2 = 0 ∨ j % 2 = 1 := by omega
    rcases this with h | h <;> rw [h] <;> exact ⟨_, rfl, rfl⟩
  have h3 := flat_get (k := 2) (vs := l.map defC) (by intro x hx; obtain ⟨y, _, rfl⟩ := List.mem_map.1 hx; rfl) (j := j / 2) (x := defC x) (by rw [List.getElem?_map, hx]; rfl) (i := j % 2) (y := y) hy
  rw [e2, ← List.flatMap_def, hu] at h3
  obtain rfl : u = y := Option.some.inj h3
  have h4 := hc (j % 2) u hy
  rw [Nat.add_assoc, e2] at h4
  exact ⟨hb, by rw [show (⟨b, off, none⟩ : Addr).add j = ⟨b, off + j, none⟩ by unfold Addr.add; split <;> simp_all]; exact h4, h1⟩
theorem sounds_any (w : World) (v : Value) (l : List (Int × Int)) (hv : RowAt w v 2 (l.map defC)) (hvv : v = .slice none 0 0 ∨ ∃ a n cap, v = .slice (some a) n cap) (hsz : l.length * 16 ≤ 140737488351232) (hm : MaxOk w) :
    Calls Tryz.prog 3 #[v] w fun e w' => e = .returned (.bool true) ∧ Below w.heap.size w w' := by
  obtain ⟨ia, ib, ic, id, ie⟩ := info_parts infoDef
  have HOwn : Hid ((w.alloc (.cells #[] 107)).ownsRow w.heap.size 107 2 (.slice (some ⟨w.heap.size, 0, none⟩) 0 0) 0 []) := OwnR.block (f := defC) (l := []) (heapNew w _) rfl rfl (Nat.le_refl _) (Nat.zero_le _)
  have HV := Lib.hid hv
  have HM := Lib.hid hm
  have HTail : Hid (∀ (W : World) (u : Value), OwnR 107 2 defC w.heap.size W u l → Below w.heap.size w W → RowAt W u 2 (l.map defC) ∧ RowAt W v 2 (l.map defC)) := fun W u ho hb => ⟨OwnR.row (fun _ _ => rfl) ho, hv.below hb⟩
  have hso := fun (W : World) (u : Value) (hr : RowAt W u 2 (l.map defC)) => sound_any W u l hr
  have hrs := fun (W : World) (u : Value) (hr : RowAt W u 2 (l.map defC)) => rsound_any W u l hr
  have hsm := fun (W : World) (u u' : Value) (hr : RowAt W u 2 (l.map defC)) (hr' : RowAt W u' 2 (l.map defC)) => sameDefects_any W u u' l hr hr'
  have hwk := fun (W : World) (hm : MaxOk W) => works19_any W hm
  have HSO := Lib.hid hso
  have HRS := Lib.hid hrs
  have HSM := Lib.hid hsm
  have HWK := Lib.hid hwk
  clear hso hrs hsm hwk
  rcases hvv with rfl | ⟨ad, n, cap, rfl⟩
  · have hl : l = [] := by
      obtain ⟨_, _, e, _⟩ := hv
      injection e with _ e2 _
      exact List.eq_nil_of_length_eq_zero (by simpa using e2.symm)
    subst hl
    clear hv hm hsz
    go_enter Tryz.func3, Tryz.ntmps3
    go_wp2_with (at_builtin; refine wpList_append_own_none rfl _ _ _ rfl w.heap.size 107 ia 2 Tryz.underlying22 ib _ 0 [] rfl HOwn.out rfl ?_)
    have ho2 : OwnR 107 2 defC w.heap.size (w.alloc (.cells #[] 107)) (.slice (some ⟨w.heap.size, 0, none⟩) 0 0) ([] : List (Int × Int)) := HOwn.out
    have hb2 : Below w.heap.size w (w.alloc (.cells #[] 107)) := bl2 _
    obtain ⟨w2, hw2⟩ : ∃ W, w.alloc (.cells #[] 107) = W := ⟨_, rfl⟩
    rw [hw2] at ho2 hb2 ⊢
    clear hw2
    have HB2 := Lib.hid hb2
    have HO2 := Lib.hid ho2
    clear hb2 ho2
    go_wp2_with fail
    refine (HSO.out _ _ (HTail.out _ _ HO2.out HB2.out).1).mono ?_
    rintro e w3 ⟨⟨b1, rfl, he1⟩, hb3⟩
    have HB3 := Lib.hid (blN HB2.out hb3)
    have HE1 := Lib.hid he1
    have HO3 := Lib.hid (HO2.out.below hb3)
    clear hb3 he1
    go_wp2_with fail
    refine (HRS.out _ _ (HTail.out _ _ HO3.out HB3.out).2).mono ?_
    rintro e w4 ⟨⟨b2, rfl, he2⟩, rfl⟩
    have heq : b1 = b2 := Bool.eq_iff_iff.2 (HE1.out.trans he2.symm)
    subst heq
    clear he2
    have qb : (b1 == b1) = true := by simp
    go_wp2_with fail
    refine (HSM.out _ _ _ (HTail.out _ _ HO3.out HB3.out).1 (HTail.out _ _ HO3.out HB3.out).2).mono ?_
    rintro e w5 ⟨rfl, hb5⟩
    have HB5 := Lib.hid (blN HB3.out hb5)
    clear hb5
    go_wp2_with fail
    refine (HWK.out _ (HM.out.below HB5.out)).mono ?_
    rintro e w6 ⟨rfl, hb6⟩
    have HB6 := Lib.hid (blN HB5.out hb6)
    clear hb6
    go_wp2
    go_ret
    exact ⟨rfl, HB6.out⟩
  · obtain ⟨ad', n', cap', e', HN, hn2, HF⟩ := RowAt.facts hv
    injection e' with e1 e2 e3
    subst e1 e2 e3
    have hlen : (l.flatMap defC).length = n * 2 := by rw [defC_len, HN.out]
    have HRc := Lib.hid (row_cell HN.out HF.out)
    clear hv hm
    go_enter Tryz.func3, Tryz.ntmps3
    go_wp2_with (at_builtin; refine wpList_append_own _ rfl _ _ _ rfl w.heap.size 107 ia _ 2 16 Tryz.underlying22 ib ic id ie rfl (by decide) _ 0 [] rfl HOwn.out ad n cap (l.flatMap defC) rfl ?c1 ?c2 ?c3 ?c4 ?c5 ?c6 ?c7)
    case c1 => exact hlen
    case c2 =>
      intro j u hu
      obtain ⟨h1, h2, -⟩ := HRc.out j u hu
      refine ((Below.refl w.heap.size w).alloc (Nat.le_refl _) _).cell (p := ad.add j) ?_ |>.trans h2
      have : (ad.add j).block = ad.block := by unfold Addr.add; split <;> rfl
      rw [this]
      exact h1
    case c3 =>
      intro u hu
      obtain ⟨j, hj⟩ := List.mem_iff_getElem?.1 hu
      exact (HRc.out j u hj).2.2
    case c4 => have := HN.out; unfold maxLen; omega
    case c5 => have := HN.out; omega
    case c6 => simp
    case c7 =>
      intro u w2 hown2 hgrow2 _
      have hb2 : Below w.heap.size w w2 := Below.grown (bl2 _) hgrow2 (by simp) (fun q hq => (World.ownsRow.lt HOwn.out q hq).1)
      have ho2 : OwnR 107 2 defC w.heap.size w2 u l := by
        unfold OwnR
        rw [← HN.out]
        simpa using hown2
      clear hown2 hgrow2 hlen
      have HB2 := Lib.hid hb2
      have HO2 := Lib.hid ho2
      clear hb2 ho2
      go_wp2_with fail
      refine (HSO.out _ _ (HTail.out _ _ HO2.out HB2.out).1).mono ?_
      rintro e w3 ⟨⟨b1, rfl, he1⟩, hb3⟩
      have HB3 := Lib.hid (blN HB2.out hb3)
      have HE1 := Lib.hid he1
      have HO3 := Lib.hid (HO2.out.below hb3)
      clear hb3 he1
      go_wp2_with fail
      refine (HRS.out _ _ (HTail.out _ _ HO3.out HB3.out).2).mono ?_
      rintro e w4 ⟨⟨b2, rfl, he2⟩, rfl⟩
      have heq : b1 = b2 := Bool.eq_iff_iff.2 (HE1.out.trans he2.symm)
      subst heq
      clear he2
      have qb : (b1 == b1) = true := by simp
      go_wp2_with fail
      refine (HSM.out _ _ _ (HTail.out _ _ HO3.out HB3.out).1 (HTail.out _ _ HO3.out HB3.out).2).mono ?_
      rintro e w5 ⟨rfl, hb5⟩
      have HB5 := Lib.hid (blN HB3.out hb5)
      clear hb5
      go_wp2_with fail
      refine (HWK.out _ (HM.out.below HB5.out)).mono ?_
      rintro e w6 ⟨rfl, hb6⟩
      have HB6 := Lib.hid (blN HB5.out hb6)
      clear hb6
      go_wp2
      go_ret
      exact ⟨rfl, HB6.out⟩
end Go.Proofs.YtaphcmcimoloiaaGreatDoor
