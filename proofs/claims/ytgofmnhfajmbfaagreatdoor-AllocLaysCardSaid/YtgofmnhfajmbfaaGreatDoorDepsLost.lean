/-
  Walks of layer 12: Lost.
-/
import Derived.Test.YtgofmnhfajmbfaaGreatDoorDepC
import Derived.Test.YtgofmnhfajmbfaaGreatDoorSofA
namespace Go.Proofs.YtgofmnhfajmbfaaGreatDoor
open Go Go.RowKit Txt Sp

/-- The states of changes at places, set. -/
def setAt (s : Int) (l : List Sp.Chg) (q : Int) : List Sp.Chg := match l[q.toNat]? with
  | some c => l.set q.toNat (setSt c s)
  | none => l
def setAll (s : Int) (l : List Sp.Chg) (ps : List Int) : List Sp.Chg := ps.foldl (setAt s) l
theorem setAt_length (s : Int) (l : List Sp.Chg) (q : Int) : (setAt s l q).length = l.length := by
  unfold setAt
  split
  · rw [List.length_set]
  · rfl
theorem setAll_length (s : Int) : ∀ (ps : List Int) (l : List Sp.Chg), (setAll s l ps).length = l.length
  | [], _ => rfl
  | q :: r, l => by
    have := setAll_length s r (setAt s l q)
    rw [setAt_length] at this
    exact this
theorem setAt_at (s : Int) {l : List Sp.Chg} {j : Nat} (hj : j < l.length) : setAt s l (j : Int) = l.set j (setSt l[j] s) := by
  unfold setAt
  rw [Int.toNat_natCast, List.getElem?_eq_getElem hj]
theorem setAll_snoc (s : Int) (l : List Sp.Chg) (a : List Int) (q : Int) : setAll s l (a ++ [q]) = setAt s (setAll s l a) q := by
  unfold setAll
  rw [List.foldl_append]
  rfl
/-- What turns changes alone. -/
def ChgTurn (w : World) (D : Nat → Prop) (w' : World) : Prop := ∃ K, (∀ j, K j → D j) ∧ ChgK w K ∧ Turn K w w'
theorem ChgTurn.of_below {w w' : World} {D : Nat → Prop} (h : Below w.heap.size w w') : ChgTurn w D w' := ⟨fun _ => False, fun _ h => h.elim, fun _ h => h.elim, Turn.of_below h⟩
theorem ChgTurn.trans {a b c : World} {D : Nat → Prop} (hD : ∀ j, D j → j < a.heap.size) (h : ChgTurn a D b) (k : ChgTurn b D c) : ChgTurn a D c := by
  obtain ⟨K1, d1, c1, t1⟩ := h
  obtain ⟨K2, d2, c2, t2⟩ := k
  refine ⟨fun j => K1 j ∨ K2 j, fun j hj => hj.elim (d1 j) (d2 j), fun j hj => ?_, t1.trans t2 (fun _ _ h => Or.inl h) (fun _ _ h => Or.inr h)⟩
  by_cases h1 : K1 j
  · exact c1 j h1
  · have h2 := hj.resolve_left h1
    obtain ⟨cs, fr, e, he, ht⟩ := c2 j h2
    exact ⟨cs, fr, e, (t1.block j (hD j (d2 j h2)) h1).symm.trans he, ht⟩
theorem ChgTurn.one {w w' : World} {D : Nat → Prop} {g : Nat} (hg : D g) (hT : Turn (fun j => j = g) w w') (ho : OfType 209 w (fun j => j = g)) : ChgTurn w D w' :=
  ⟨fun j => j = g, fun j e => e ▸ hg, fun j e => by
    obtain ⟨cs, fr, h⟩ := ho j e
    exact ⟨cs, fr, _, h, Or.inr rfl⟩, hT⟩
theorem ChgTurn.size {w w' : World} {D : Nat → Prop} (h : ChgTurn w D w') : w.heap.size ≤ w'.heap.size := by
  obtain ⟨K, _, _, hT⟩ := h
  exact hT.size
def lostD (d : Sp.Deps) (i : Int) : Sp.Deps := ⟨setAll 1 d.l (d.places i 2 d.l.length), d.last⟩
def lostC (d : Sp.Deps) (i : Int) : Int := if d.places i 2 d.l.length = [] then 120 else 0
section
set_option maxHeartbeats 4000000
set_option maxRecDepth 20000 in
theorem depsLost_any {w : World} {base B : Nat} {d : Sp.Deps} {D : Nat → Prop} (h : DepsAt w base B d D) (hD : ∀ j, D j → j < w.heap.size) (hf : d.l.length ≤ 1024) (i : Int) :
    Calls Tryz.prog 172 #[pt B, .int .i64 i] w fun e w' => e = .returned (.int .i64 (lostC d i)) ∧ DepsAt w' base B (lostD d i) D ∧ ChgTurn w D w' := by
  have hof := depsOf_any h i 2 hf
  have hin : ∀ q ∈ d.places i 2 d.l.length, 0 ≤ q ∧ q < (d.l.length : Int) := fun q hq => by
    unfold Sp.Deps.places at hq
    obtain ⟨k, hk, rfl⟩ := List.mem_map.1 hq
    have := List.mem_range.1 (List.mem_filter.1 hk).1
    omega
  unfold lostC lostD
  obtain ⟨pl, hpl⟩ : ∃ pl, d.places i 2 d.l.length = pl := ⟨_, rfl⟩
  rw [hpl] at hof hin ⊢
  have HD0 := Lib.hid h
  have HDB : Hid (B < w.heap.size) := by
    obtain ⟨⟨v, ps, h1, _⟩, _, _⟩ := h
    exact (Array.getElem?_eq_some_iff.1 h1).1
  unfold pt at hof ⊢
  obtain ⟨cc, hcc⟩ : ∃ x : Int, (if pl = [] then 120 else 0) = x := ⟨_, rfl⟩
  rw [hcc]
  have HOF := Lib.hid hof
  have HIN := Lib.hid hin
  have HD := Lib.hid hD
  have HCC := Lib.hid hcc
  clear hof hin hD hcc
  clear h hpl
  go_enter Tryz.func172, Tryz.ntmps172
  go_wp2_with fail
  refine HOF.out.mono ?_
  rintro e w1 ⟨v, rfl, hr1, hb1⟩
  have HB1 := Lib.hid hb1
  obtain ⟨bd, m, bc, rfl, HM, hm2, HV⟩ := RowAt.facts (OwnR.row (f := intC) (fun _ _ => rfl) hr1)
  have HR1 := Lib.hid hr1
  have hlt1 : ∀ k, (Value.slice bd m bc).ownBlock = some k → w.heap.size ≤ k := fun k hk => (hr1.lt k hk).1
  have HLT1 := Lib.hid hlt1
  clear hr1 hb1 hlt1
  by_cases h0 : m = 0
  · subst h0
    have hnil : pl = [] := List.length_eq_zero_iff.1 (by have := HM.out; omega)
    subst hnil
    have e0 : (120 : Int) = cc := HCC.out
    subst e0
    have HEnd : Hid (DepsAt w1 base B ⟨setAll 1 d.l [], d.last⟩ D ∧ ChgTurn w D w1) := ⟨HD0.out.below HB1.out, ChgTurn.of_below HB1.out⟩
    go_wp2
    go_ret
    exact ⟨rfl, HEnd.out⟩
  · have q1 : ((m : Int) == 0) = false := beq_eq_false_iff_ne.2 (by omega)
    have hne : pl ≠ [] := fun e => h0 (by have := HM.out; rw [e] at this; exact this)
    have e0 : (0 : Int) = cc := by rw [← HCC.out, if_neg hne]
    subst e0
    go_wp2
    go_loopw [16] (fun q wr => ∃ k : Nat, k ≤ m ∧ q = .int .i64 (k : Int) ∧ Hid (DepsAt wr base B ⟨setAll 1 d.l (pl.take k), d.last⟩ D) ∧ Hid (ChgTurn w1 D wr)) (fun q _ => m - (intOf q).toNat)
    case atStart => exact ⟨0, Nat.zero_le _, rfl, HD0.out.below HB1.out, ChgTurn.of_below (Below.refl _ _)⟩
    case round =>
      obtain ⟨k, hk, rfl, HDk, HTk⟩ := hrel
      by_cases hlt : k < m
      · obtain ⟨b, o, q, hbd, hb, hq, hc⟩ := HV.out k hlt
        subst hbd
        have hqi := HIN.out q (List.mem_of_getElem? hq)
        obtain ⟨j, rfl⟩ : ∃ j : Nat, q = (j : Int) := ⟨q.toNat, by omega⟩
        have hbD : ¬ D b := fun hd => by
          have h1 := HD.out b hd
          have h2 := HLT1.out b (by
            have hr := HR1.out.2
            rcases hr with ⟨e, _⟩ | ⟨g, _, _, e, _⟩
            · cases e
            · cases e; rfl)
          omega
        have c0 : wr.cell? ⟨b, o + k, none⟩ = some (.int .i64 (j : Int)) := by
          obtain ⟨K, hK, -, hT⟩ := HTk.out
          have h := hc 0 _ rfl
          have hw : wr.heap[b]? = w1.heap[b]? := hT.block b hb (fun hk => hbD (hK b hk))
          have h2 : wr.cell? ⟨b, o + k * 1 + 0, none⟩ = w1.cell? ⟨b, o + k * 1 + 0, none⟩ := by simp only [World.cell?, hw]
          have h3 := h2.trans h
          simpa using h3
        have hjl : j < (⟨setAll 1 d.l (pl.take k), d.last⟩ : Sp.Deps).l.length := by show j < (setAll 1 d.l (pl.take k)).length; rw [setAll_length]; omega
        obtain ⟨g, cap, cB, hs, hfz, hDg, hgB, hda, hTs, hof⟩ := deps_stored HDk.out hjl 1
        obtain ⟨x, hx⟩ := Option.isSome_iff_exists.1 hs
        dsimp only at cB hjl
        rw [setAll_length] at cB hjl
        have hnext : (setAll 1 d.l (pl.take k)).set j (setSt ((setAll 1 d.l (pl.take k))[j]'(by rw [setAll_length]; exact hjl)) 1) = setAll 1 d.l (pl.take (k + 1)) := by
          rw [take_step hq, setAll_snoc, setAt_at]
        have HD2 : Hid (DepsAt (wr.setCell ⟨g, j * 6 + 5, none⟩ (.int .i64 1)) base B ⟨setAll 1 d.l (pl.take (k + 1)), d.last⟩ D) := by
          rw [← hnext]
          exact hda
        have HT2 : Hid (ChgTurn w1 D (wr.setCell ⟨g, j * 6 + 5, none⟩ (.int .i64 1))) := ChgTurn.trans (fun j hj => Nat.lt_of_lt_of_le (HD.out j hj) HB1.out.size) HTk.out (ChgTurn.one hDg hTs hof)
        obtain ⟨NL, hNL⟩ : ∃ n, d.l.length = n := ⟨_, rfl⟩
        rw [hNL] at cB hjl
        have hji : (j : Int) < (NL : Int) := by omega
        clear hda hTs hof hDg hs hnext hq hc hqi hbD hb hNL
        go_wp2
        go_roundw
        case rel => exact ⟨k + 1, by omega, by go_num, HD2, HT2⟩
        case measure => simp [intOf]; omega
      · obtain rfl : k = m := by omega
        have HEnd : Hid (DepsAt wr base B ⟨setAll 1 d.l pl, d.last⟩ D ∧ ChgTurn w D wr) := by
          have h1 := HDk.out
          rw [List.take_of_length_le (by rw [HM.out]; exact Nat.le_refl _)] at h1
          exact ⟨h1, ChgTurn.trans HD.out (ChgTurn.of_below HB1.out) HTk.out⟩
        go_wp2
        go_ret
        exact ⟨rfl, HEnd.out⟩
end
end Go.Proofs.YtgofmnhfajmbfaaGreatDoor
