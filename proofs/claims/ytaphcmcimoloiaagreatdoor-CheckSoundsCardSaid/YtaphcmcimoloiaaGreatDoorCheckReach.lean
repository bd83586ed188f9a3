/-
  Walks of layer 19: reached.
-/
import Derived.Test.YtaphcmcimoloiaaGreatDoorCheckTaken
import Derived.Deep.DeepCutAuto
import Derived.Deep.CutBlock
namespace Go.Proofs.YtaphcmcimoloiaaGreatDoor
open Go Go.RowKit Txt Sp

section
variable {w w1 w' : World} {base B N : Nat} {g : Sp.Geom} {vs : Value} {m : LookP} {t t' : Sp.Look} {D D' K : Nat → Prop} {S : Int → ByteArray}
def TellPost (w : World) (base B : Nat) (g : Sp.Geom) (vs : Value) (m : LookP) (t : Sp.Look) (D : Nat → Prop) (w' : World) : Prop := LookTo w base B g vs m t D w' D ∧ Turn (fun j => j = m.found) w w'
theorem TellPost.trans (h : TellPost w base B g vs m t D w1) (k : TellPost w1 base B g vs m t' D w') : TellPost w base B g vs m t' D w' := ⟨h.1.trans k.1, h.2.trans k.2 (fun _ _ h => h) (fun _ _ h => h)⟩
theorem TellPost.behind (h : TellPost w base B g vs m t D w1) (hb : Below w1.heap.size w1 w') : TellPost w base B g vs m t D w' := ⟨h.1.behind hb, h.2.trans (Turn.of_below (K := fun j => j = m.found) hb) (fun _ _ h => h) (fun _ _ h => h)⟩
theorem TellPost.ahead (h : TellPost w1 base B g vs m t D w') (hb : Below w.heap.size w w1) : TellPost w base B g vs m t D w' := ⟨LookTo.ahead hb h.1, (Turn.of_below (K := fun j => j = m.found) hb).trans h.2 (fun _ _ h => h) (fun _ _ h => h)⟩
theorem TellPost.none (h : LookAt w base B g vs m t D) (hb : Below w.heap.size w w') : TellPost w base B g vs m t D w' := ⟨LookTo.none h hb, Turn.of_below hb⟩
theorem TellPost.heap (h : TellPost w base B g vs m t D w') {k : Nat} {cs : Array Value} {e : TypeId} (ho : w.heap[k]? = some (.cells cs e (0, 0))) (hl : LookAt w base B g vs m t' D) : w'.heap[k]? = some (.cells cs e (0, 0)) :=
  h.2.heap ho (fun hk => by
    obtain ⟨o, hh, es, ck, rfl, _⟩ := hl.found
    rw [show k = m.found from hk, hh] at ho
    cases ho)
theorem TellPost.row (h : TellPost w base B g vs m t D w') {e : TypeId} {size n : Nat} {α : Type} {f : α → List Value} {v : Value} {l : List α} (hr : OwnR e size f n w v l) (hl : LookAt w base B g vs m t' D) : OwnR e size f n w' v l :=
  hr.turn h.2 (fun k hk hkf => by
    obtain ⟨o, hh, es, ck, rfl, _⟩ := hl.found
    obtain ⟨_, ⟨rfl, _⟩ | ⟨gb, cap, cur, rfl, _, hc, _⟩⟩ := hr
    · cases hk
    · cases hk
      rw [show gb = m.found from hkf, hh] at hc
      cases hc)
set_option maxHeartbeats 2000000 in
set_option maxRecDepth 20000 in
theorem ctell2_any (h : LookAt w base B g vs m t D) (k a : Int) : Calls Tryz.prog 207 #[pt B, .int .i64 k, .int .i64 a] w fun e w' => e = .returned (.tuple #[]) ∧ TellPost w base B g vs m (t.tell k a) D w' := by
  obtain ⟨W, hrun, hW, hT⟩ := h.tell k a
  obtain ⟨-, -, -, -, -, -, c8⟩ := h.cells
  have HQ : Hid (TellPost w base B g vs m (t.tell k a) D W) := ⟨⟨hW, fun _ h => Or.inl h, hT.mono (fun j _ hj => by rw [show j = m.found from hj]; exact h.own.2.2.2.2)⟩, hT⟩
  unfold pt
  clear hW hT h
  go_enter Tryz.func207, Tryz.ntmps207
  go_wp2
  go_end0
  exact ⟨rfl, HQ.out⟩
set_option maxHeartbeats 4000000 in
set_option maxRecDepth 20000 in
theorem creached_any (h : LookAt w base B g vs m t D) (i : Int) (hc : t.called i) (hlen : (t.namesOf i).length ≤ 30000) (n : Sp.Inode) : Calls Tryz.prog 211 #[pt B, .int .i64 i, .agg (nA n)] w fun e w' => e = .returned (.tuple #[]) ∧ TellPost w base B g vs m (t.reached i n) D w' := by
  obtain ⟨v, hlk, hv, -, -⟩ := h.naming i i
  obtain ⟨y, l, hcl⟩ := hc
  have hnm : t.namesOf i = y :: l := by unfold Look.namesOf; rw [hcl]; rfl
  obtain ⟨ad, cap, rfl⟩ := hv.form
  have hrow : OwnR 3 1 intC base w (.slice ad (t.namesOf i).length cap) (y :: l) := by rw [← hnm]; exact hv
  obtain ⟨L, hL⟩ : ∃ L, (t.namesOf i).length = L := ⟨_, rfl⟩
  have hL1 : 1 ≤ L := by rw [← hL, hnm]; simp
  rw [hL] at hlk hrow hlen
  have HCell : Hid (∀ W, OwnR 3 1 intC base W (.slice ad L cap) (y :: l) → ∃ bb oo, ad = some ⟨bb, oo, none⟩ ∧ W.cell? ⟨bb, oo, none⟩ = some (.int .i64 y)) := fun W hr => by
    obtain ⟨ad', n', cap', e', hn', -, hf'⟩ := RowAt.facts (OwnR.row (f := intC) (size := 1) (fun _ _ => rfl) hr)
    cases e'
    obtain ⟨bb, oo, x, e1, -, hx, hcc⟩ := hf'.out 0 (by omega)
    have hx : y = x := by simpa using hx
    subst hx
    have := hcc 0 _ rfl
    simp only [Nat.zero_mul, Nat.add_zero] at this
    exact ⟨bb, oo, e1, this⟩
  obtain ⟨bb, oo, rfl, -⟩ := HCell.out w hrow
  have hre : t.reached i n = (if n.kind ≠ 2 then (if n.links < (L : Int) then t.tell 5 i else if (L : Int) < n.links then t.tell 8 i else t) else if 1 < L then (if n.links < (L : Int) then t.tell 5 i else if (L : Int) < n.links then t.tell 8 i else t).tell 6 i else if n.parent ≠ y then (if n.links < (L : Int) then t.tell 5 i else if (L : Int) < n.links then t.tell 8 i else t).tell 7 i else (if n.links < (L : Int) then t.tell 5 i else if (L : Int) < n.links then t.tell 8 i else t)) := by
    unfold Look.reached
    simp only [hL]
    rw [hnm]
    rfl
  obtain ⟨t1, ht1⟩ : ∃ u, (if n.links < (L : Int) then t.tell 5 i else if (L : Int) < n.links then t.tell 8 i else t) = u := ⟨_, rfl⟩
  rw [ht1] at hre
  unfold nA iA
  obtain ⟨x0, h0⟩ : ∃ x, n.kind = x := ⟨_, rfl⟩
  obtain ⟨x1, h1⟩ : ∃ x, n.links = x := ⟨_, rfl⟩
  obtain ⟨x2, h2⟩ : ∃ x, n.size = x := ⟨_, rfl⟩
  obtain ⟨x3, h3⟩ : ∃ x, n.parent = x := ⟨_, rfl⟩
  obtain ⟨x4, h4⟩ : ∃ x, n.gen = x := ⟨_, rfl⟩
  obtain ⟨d0, h5⟩ : ∃ x, n.direct.getD 0 0 = x := ⟨_, rfl⟩
  obtain ⟨d1, h6⟩ : ∃ x, n.direct.getD 1 0 = x := ⟨_, rfl⟩
  obtain ⟨d2, h7⟩ : ∃ x, n.direct.getD 2 0 = x := ⟨_, rfl⟩
  obtain ⟨d3, h8⟩ : ∃ x, n.direct.getD 3 0 = x := ⟨_, rfl⟩
  obtain ⟨d4, h9⟩ : ∃ x, n.direct.getD 4 0 = x := ⟨_, rfl⟩
  obtain ⟨d5, h10⟩ : ∃ x, n.direct.getD 5 0 = x := ⟨_, rfl⟩
  obtain ⟨d6, h11⟩ : ∃ x, n.direct.getD 6 0 = x := ⟨_, rfl⟩
  obtain ⟨d7, h12⟩ : ∃ x, n.direct.getD 7 0 = x := ⟨_, rfl⟩
  obtain ⟨x6, h13⟩ : ∃ x, n.more = x := ⟨_, rfl⟩
  rw [h0, h3] at hre
  rw [h1] at ht1
  rw [h0, h1, h2, h3, h4, h5, h6, h7, h8, h9, h10, h11, h12, h13]
  obtain ⟨u, hu⟩ : ∃ u, t.reached i n = u := ⟨_, rfl⟩
  rw [hu] at hre ⊢
  obtain ⟨W1, hW1⟩ : ∃ W, w.alloc (.cells #[.int .i64 x0, .int .i64 x1, .int .i64 x2, .int .i64 x3, .int .i64 x4, .int .i64 d0, .int .i64 d1, .int .i64 d2, .int .i64 d3, .int .i64 d4, .int .i64 d5, .int .i64 d6, .int .i64 d7, .int .i64 x6] 56) = W := ⟨_, rfl⟩
  have HB1 : Hid (Below w.heap.size w W1) := by rw [← hW1]; exact bl2 _
  have HZ1 : Hid (W1.heap[w.heap.size]? = some (.cells #[.int .i64 x0, .int .i64 x1, .int .i64 x2, .int .i64 x3, .int .i64 x4, .int .i64 d0, .int .i64 d1, .int .i64 d2, .int .i64 d3, .int .i64 d4, .int .i64 d5, .int .i64 d6, .int .i64 d7, .int .i64 x6] 56 (0, 0))) := by rw [← hW1]; exact heapNew w _
  have HL1 := Lib.hid (h.below HB1.out)
  have HRow := Lib.hid (OwnR.below hrow HB1.out)
  have hlk1 := hlk W1 (Turn.of_below HB1.out)
  obtain ⟨-, -, -, -, c6, -⟩ := HL1.out.cells
  have y1 := cellOf (k := 1) HZ1.out rfl
  have HRe := Lib.hid hre
  have HT1 := Lib.hid ht1
  have HA : Hid (TellPost w base B g vs m t D W1) := TellPost.none h HB1.out
  clear h hlk hv hcl hnm hrow hL hre ht1 h0 h1 h2 h3 h4 h5 h6 h7 h8 h9 h10 h11 h12 h13 hu
  unfold pt
  go_enter Tryz.func211, Tryz.ntmps211
  go_upto_block 0 with fail
  clear hlk1 c6 hW1
  go_cut [] (fun wx => Hid (TellPost W1 base B g vs m t1 D wx))
  case first =>
    by_cases hlt : x1 < (L : Int)
    · have q1 : decide (x1 < (L : Int)) = true := decide_eq_true hlt
      have hte : t.tell 5 i = t1 := by rw [← HT1.out, if_pos hlt]
      have htl := ctell2_any HL1.out 5 i
      rw [hte] at htl
      unfold pt at htl
      have HTL := Lib.hid htl
      clear htl
      clear hlt hte
      go_wp2_with fail
      refine HTL.out.mono ?_
      rintro e w3 ⟨rfl, hto3⟩
      have HR := Lib.hid hto3
      clear hto3
      go_wp2
      go_meet
      case rel => exact HR
    · have q1 : decide (x1 < (L : Int)) = false := decide_eq_false hlt
      by_cases hgt : (L : Int) < x1
      · have q2 : decide (x1 > (L : Int)) = true := decide_eq_true hgt
        have hte : t.tell 8 i = t1 := by rw [← HT1.out, if_neg hlt, if_pos hgt]
        have htl := ctell2_any HL1.out 8 i
        rw [hte] at htl
        unfold pt at htl
        have HTL := Lib.hid htl
        clear htl
        clear hlt hgt hte
        go_wp2_with fail
        refine HTL.out.mono ?_
        rintro e w3 ⟨rfl, hto3⟩
        have HR := Lib.hid hto3
        clear hto3
        go_wp2
        go_meet
        case rel => exact HR
      · have q2 : decide (x1 > (L : Int)) = false := decide_eq_false hgt
        have hte : t = t1 := by rw [← HT1.out, if_neg hlt, if_neg hgt]
        have HR : Hid (TellPost W1 base B g vs m t1 D W1) := by rw [← hte]; exact TellPost.none HL1.out (Below.refl _ _)
        clear hlt hgt hte
        go_wp2
        go_meet
        case rel => exact HR
  case rest =>
    have HC := Lib.hid hcut.out
    clear hcut y1
    have hzc := HC.out.heap HZ1.out HL1.out
    have y0 := cellOf (k := 0) hzc rfl
    have y3 := cellOf (k := 3) hzc rfl
    have hrc := HC.out.row HRow.out HL1.out
    obtain ⟨bb', oo', e', cz⟩ := HCell.out wc hrc
    cases e'
    have HAc := Lib.hid (HA.out.trans HC.out)
    clear hzc hrc
    by_cases hk2 : x0 = 2
    · have q0 : (x0 == 2) = true := by rw [hk2]; rfl
      have q1 : (x0 != 2) = false := by rw [hk2]; rfl
      have hre2 := HRe.out
      rw [if_neg (fun h => h hk2)] at hre2
      by_cases hm1 : 1 < L
      · have q2 : decide ((L : Int) > 1) = true := decide_eq_true (by omega)
        have q3 : decide (1 < L) = true := decide_eq_true hm1
        rw [if_pos hm1] at hre2
        have htl := ctell2_any HC.out.1.1 6 i
        rw [← hre2] at htl
        unfold pt at htl
        have HTL := Lib.hid htl
        clear htl
        clear hk2 hre2
        go_wp2_with fail
        refine HTL.out.mono ?_
        rintro e w3 ⟨rfl, hto3⟩
        have HR := Lib.hid (HAc.out.trans hto3)
        clear hto3
        go_wp2
        go_end0
        exact ⟨rfl, HR.out⟩
      · have q2 : decide ((L : Int) > 1) = false := decide_eq_false (by omega)
        have q3 : decide (1 < L) = false := decide_eq_false hm1
        rw [if_neg hm1] at hre2
        by_cases hp : x3 = y
        · have q4 : (x3 == y) = true := by rw [hp]; exact beq_self_eq_true y
          have q5 : (x3 != y) = false := by rw [bne, q4]; rfl
          rw [if_neg (fun h => h hp)] at hre2
          have HR : Hid (TellPost w base B g vs m u D wc) := by rw [hre2]; exact HAc.out
          clear hk2 hre2 hp
          go_wp2_with fail
          have hL0 : 0 < L := hL1
          have hL0i : (0 : Int) < (L : Int) := by omega
          have hS : wc.drew.cell? ⟨w.heap.size, 3, none⟩ = some (.int .i64 x3) ∧ wc.drew.cell? ⟨bb, oo, none⟩ = some (.int .i64 y) := ⟨y3, cz⟩
          go_region_held3 (fun W => W.cell? ⟨w.heap.size, 3, none⟩ = some (.int .i64 x3) ∧ W.cell? ⟨bb, oo, none⟩ = some (.int .i64 y)) (exact hS) (fail)
          go_wp2
          go_end0
          exact ⟨rfl, TellPost.behind HR.out (blD (Below.refl _ _))⟩
        · have q4 : (x3 == y) = false := beq_eq_false_iff_ne.2 hp
          have q5 : (x3 != y) = true := by rw [bne, q4]; rfl
          rw [if_pos hp] at hre2
          have htl := ctell2_any (HC.out.1.1.below (blD (Below.refl _ _))) 7 i
          rw [← hre2] at htl
          unfold pt at htl
          have HTL := Lib.hid htl
          clear htl
          clear hk2 hre2 hp
          go_wp2_with fail
          have hL0 : 0 < L := hL1
          have hL0i : (0 : Int) < (L : Int) := by omega
          have hS : wc.drew.cell? ⟨w.heap.size, 3, none⟩ = some (.int .i64 x3) ∧ wc.drew.cell? ⟨bb, oo, none⟩ = some (.int .i64 y) := ⟨y3, cz⟩
          go_region_held3 (fun W => W.cell? ⟨w.heap.size, 3, none⟩ = some (.int .i64 x3) ∧ W.cell? ⟨bb, oo, none⟩ = some (.int .i64 y)) (exact hS) (fail)
          go_wp2_with fail
          refine HTL.out.mono ?_
          rintro e w3 ⟨rfl, hto3⟩
          have HR := Lib.hid (HAc.out.trans (hto3.ahead (blD (Below.refl _ _))))
          clear hto3
          go_wp2
          go_end0
          exact ⟨rfl, HR.out⟩
    · have q0 : (x0 == 2) = false := beq_eq_false_iff_ne.2 hk2
      have q1 : (x0 != 2) = true := by simpa using hk2
      have HR : Hid (TellPost w base B g vs m u D wc) := by rw [HRe.out, if_pos hk2]; exact HAc.out
      clear hk2
      go_wp2
      refine bodyPost_ret (results_none rfl _ _ _) rfl ?_
      exact ⟨rfl, HR.out⟩
end
end Go.Proofs.YtaphcmcimoloiaaGreatDoor
