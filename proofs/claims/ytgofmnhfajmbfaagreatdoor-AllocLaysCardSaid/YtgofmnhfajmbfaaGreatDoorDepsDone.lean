/-
  Walks of layer 12: Done.
-/
import Derived.Test.YtgofmnhfajmbfaaGreatDoorChgDelete
import Derived.Test.YtgofmnhfajmbfaaGreatDoorDepsSend
import Derived.Test.YtgofmnhfajmbfaaGreatDoorDepB
namespace Go.Proofs.YtgofmnhfajmbfaaGreatDoor
open Go Go.RowKit Txt Sp

theorem sentB_isU (i : Int) (c : Chg) : sentB i c = c.isU i := by
  unfold sentB Sp.Chg.isU
  by_cases h1 : c.at_ = i <;> by_cases h2 : c.state = 2 <;> simp [h1, h2]
/-- The changes of a sector that were sent, taken out of the list. -/
theorem DepsAt.deleted {w : World} {base B : Nat} {d : Sp.Deps} {D : Nat → Prop} (h : DepsAt w base B d D) (i : Int) : ∃ (ad : Option Addr) (n cap : Nat) (ps : List (Chg × Value)), w.cell? ⟨B, 0, none⟩ = some (.slice ad n cap) ∧ OwnR 209 6 chgC base w (.slice ad n cap) ps ∧ (∀ x ∈ ps, ∃ ad m c, x.2 = .slice ad m c) ∧
    ∀ e w2, DelPost i base (.slice ad n cap) ps w e w2 → ∃ a2 n2 c2, e = .returned (.slice a2 n2 c2) ∧ (∃ y, w2.cell? ⟨B, 0, none⟩ = some y) ∧ w2.frozen? ⟨B, 0, none⟩ = false ∧ DepsAt (w2.setCell ⟨B, 0, none⟩ (.slice a2 n2 c2)) base B (d.done i) D ∧ ChgTurn w D (w2.setCell ⟨B, 0, none⟩ (.slice a2 n2 c2)) := by
  obtain ⟨⟨v, ps, h1, h2, h3, h4, h5⟩, ho, hl⟩ := h
  obtain ⟨ad, cap, hv⟩ := h3.form
  refine ⟨ad, ps.length, cap, ps, by rw [← hv]; exact cellOf (k := 0) h1 rfl, by rw [← hv]; exact h3, fun x hx => ?_, ?_⟩
  · obtain ⟨a, c, e⟩ := (h5 x hx).1.form
    exact ⟨a, _, c, e⟩
  rw [← hv]
  rintro e w2 ⟨v', rfl, r1, r2, K, k1, k2, hT⟩
  obtain ⟨a2, c2, hv'⟩ := r1.form
  refine ⟨a2, _, c2, by rw [hv'], ?_⟩
  rw [← hv']
  have hBK : ¬ K B := fun hk => by
    obtain ⟨cs, fr, hh⟩ := k2 B hk
    rw [h1] at hh
    unfold depsO at hh
    cases hh
  have h12 := hT.heap h1 hBK
  have hTs : Turn (fun j => j = B) w2 (w2.setCell ⟨B, 0, none⟩ v') := setCell_turn
  have hTT : Turn (fun j => K j ∨ j = B) w (w2.setCell ⟨B, 0, none⟩ v') := hT.trans hTs (fun _ _ h => Or.inl h) (fun _ _ h => Or.inr h)
  have hv'B : ∀ k, v'.ownBlock = some k → k ≠ B := fun k hk e => by
    subst e
    have := h4 k (r2 k hk)
    obtain ⟨_, ⟨rfl, _⟩ | ⟨g, cap, cur, rfl, hg, hh, _⟩⟩ := r1
    · cases hk
    · cases hk
      rw [h12] at hh
      unfold depsO at hh
      cases hh
  refine ⟨⟨_, cellOf (k := 0) h12 rfl⟩, freeOf h12, ⟨⟨v', leftP i ps, ?_, ?_, r1.turn hTs hv'B, fun k hk => h4 k (r2 k hk), fun x hx => ?_⟩, ho, hl⟩, fun j => K j ∨ j = B, fun j hj => hj.elim (fun hk => h4 j (k1 j hk)) (fun e => e ▸ ho), fun j hj => ?_, hTT⟩
  · have := setHeap_at (k := 0) h12 v'
    exact this
  · show (leftP i ps).map Prod.fst = (d.done i).l
    unfold leftP Sp.Deps.done
    rw [← h2]
    show _ = (ps.map Prod.fst).filter _
    rw [List.filter_map]
    congr 1
    apply List.filter_congr
    intro x _
    show (!sentB i x.1) = !(x.1.isU i)
    rw [sentB_isU]
  · obtain ⟨q1, q2⟩ := h5 x (List.mem_filter.1 hx).1
    refine ⟨q1.turn hTT (fun k hk hK => ?_), q2⟩
    obtain ⟨_, ⟨e, _⟩ | ⟨g, cap, cur, e, hg, hh, _⟩⟩ := q1
    · rw [e] at hk; cases hk
    · rw [e] at hk
      cases hk
      rcases hK with hK | e
      · obtain ⟨cs, fr, hc⟩ := k2 _ hK
        rw [hc] at hh
        cases hh
      · have e : g = B := e
        rw [e, h1] at hh
        unfold depsO at hh
        cases hh
  · rcases hj with hk | e
    · obtain ⟨cs, fr, hc⟩ := k2 j hk
      exact ⟨cs, fr, _, hc, Or.inr rfl⟩
    · have e : j = B := e
      subst e
      exact ⟨_, _, _, h1, Or.inl rfl⟩
section
set_option maxHeartbeats 4000000
set_option maxRecDepth 20000 in
theorem depsDone_any {w : World} {base B : Nat} {d : Sp.Deps} {D : Nat → Prop} (h : DepsAt w base B d D) (hD : ∀ j, D j → j < w.heap.size) (hf : d.l.length ≤ 1024) (i : Int) (hu : d.under i) :
    Calls Tryz.prog 171 #[pt B, .int .i64 i] w fun e w' => ∃ a n c, e = .returned (.tuple #[.slice a n c, .int .i64 0]) ∧ DepsAt w' base B (d.done i) D ∧ ChgTurn w D w' := by
  obtain ⟨W0, hW0⟩ : ∃ W, w.alloc (.cells #[.int .i64 i] 3) = W := ⟨_, rfl⟩
  have hb0 : Below w.heap.size w W0 := by rw [← hW0]; exact bl2 _
  have hz0 : W0.heap[w.heap.size]? = some (.cells #[.int .i64 i] 3 (0, 0)) := by rw [← hW0]; exact heapNew w _
  have h0 := h.below hb0
  have hof := depsOf_any h0 i 2 hf
  have hne : d.places i 2 d.l.length ≠ [] := fun e => places_under.1 e hu
  have hin : ∀ q ∈ d.places i 2 d.l.length, 0 ≤ q ∧ q < (d.l.length : Int) := fun q hq => by
    rw [places_pl] at hq
    exact plOf_in hq
  have hll : (d.places i 2 d.l.length).length ≤ 1024 := Nat.le_trans (places_len d i 2 _) hf
  have hnl : (numsAt d (d.places i 2 d.l.length)).length = (d.places i 2 d.l.length).length := by unfold numsAt; rw [List.length_map]
  obtain ⟨pl, hpl⟩ : ∃ L, d.places i 2 d.l.length = L := ⟨_, rfl⟩
  rw [hpl] at hof hne hin hll hnl
  have hnum := fun (W : World) (hW : Below W0.heap.size W0 W) (v : Value) (hv : Ints W v pl) => depsNumbers_any (h0.below hW) v pl hv hin hll
  have c0 : W0.cell? ⟨w.heap.size, 0, none⟩ = some (.int .i64 i) := cellOf (k := 0) hz0 rfl
  have hdel := fun (W : World) (hW : Below W0.heap.size W0 W) => (h0.below hW).deleted i
  have hcd := fun (W : World) (base : Nat) (v : Value) (ps : List (Chg × Value)) (hW : Below W0.heap.size W0 W) (hv : OwnR 209 6 chgC base W v ps) (hsl : ∀ x ∈ ps, ∃ ad m c, x.2 = .slice ad m c) => chgDelete_any i hv hsl (heapOld hW hz0)
  have HBel : Hid (∀ W w', Below W0.heap.size W0 W → ChgTurn W D w' → ChgTurn w D w') := fun W w' hW h => ChgTurn.trans hD (ChgTurn.of_below (blN hb0 hW)) h
  unfold pt at hof hnum ⊢
  have HNE : Hid (pl.length ≠ 0) := fun e => hne (List.eq_nil_of_length_eq_zero e)
  have HNL := Lib.hid hnl
  have HD0 := Lib.hid h0
  have HOF := Lib.hid hof
  have HNUM := Lib.hid hnum
  have HDEL := Lib.hid hdel
  have HCD := Lib.hid hcd
  clear hof hnum hdel hcd
  clear h h0 hD hu hne hin hll hf hb0 hz0 hpl hnl
  go_enter Tryz.func171, Tryz.ntmps171
  go_wp2_with fail
  clear c0 hW0
  refine HOF.out.mono ?_
  rintro e w1 ⟨v, rfl, hv1, hb1⟩
  obtain ⟨ad0, n0, cap0, rfl, h00, -, -⟩ := RowAt.facts (OwnR.row (f := intC) (fun _ _ => rfl) hv1)
  have HB1 := Lib.hid hb1
  have HV1 : Hid (Ints w1 (.slice ad0 n0 cap0) pl) := OwnR.row (f := intC) (fun _ _ => rfl) hv1
  clear hb1 hv1 h00
  go_wp2_with fail
  refine (HNUM.out w1 HB1.out _ HV1.out).mono ?_
  rintro e w2 ⟨v, rfl, hv2, hb2⟩
  obtain ⟨ad2, n2, cap2, rfl, h02, -, -⟩ := RowAt.facts (OwnR.row (f := intC) (fun _ _ => rfl) hv2)
  have hn2 : n2 ≠ 0 := fun e => HNE.out (by have := h02.out; have := HNL.out; omega)
  have q1 : ((n2 : Int) == 0) = false := beq_eq_false_iff_ne.2 (by omega)
  have HB2 := Lib.hid (blN HB1.out hb2)
  clear hb2 hv2 h02 HV1 HNUM hn2
  obtain ⟨ad, n, cap, ps, c0, hv, hsl, hfin⟩ := HDEL.out w2 HB2.out
  have hca := HCD.out w2 _ _ ps HB2.out hv hsl
  have HFIN := Lib.hid hfin
  have HCA := Lib.hid hca
  clear hfin hca hv hsl HDEL HCD
  go_wp2_with fail
  clear c0
  refine HCA.out.mono ?_
  intro e w3 hp
  obtain ⟨a3, n3, c3, rfl, ⟨y, hy⟩, hfz, hd3, hT3⟩ := HFIN.out e w3 hp
  have HE : Hid (∃ a n c, Ending.returned (.tuple #[.slice ad2 n2 cap2, .int .i64 0]) = .returned (.tuple #[.slice a n c, .int .i64 0]) ∧ DepsAt (w3.setCell ⟨B, 0, none⟩ (.slice a3 n3 c3)) base B (d.done i) D ∧ ChgTurn w D (w3.setCell ⟨B, 0, none⟩ (.slice a3 n3 c3))) :=
    ⟨_, _, _, rfl, hd3, HBel.out w2 _ HB2.out hT3⟩
  clear hp hd3 hT3 HFIN HCA HBel
  go_wp2
  go_ret2
  exact HE.out
end
end Go.Proofs.YtgofmnhfajmbfaaGreatDoor
