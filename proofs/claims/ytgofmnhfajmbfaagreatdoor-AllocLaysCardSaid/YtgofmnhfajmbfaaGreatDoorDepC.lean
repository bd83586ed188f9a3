/-
  DepC: DepsNum, DepsIs, DepsSet.
-/
import Derived.Test.YtgofmnhfajmbfaaGreatDoorDepA
import Derived.Test.YtgofmnhfajmbfaaGreatDoorMapsB
import Derived.Test.YtgofmnhfajmbfaaGreatDoorSpJ
import Derived.Test.YtgofmnhfajmbfaaGreatDoorSidA
namespace Go.Proofs.YtgofmnhfajmbfaaGreatDoor
open Go Go.RowKit Txt Sp

theorem depsLeft_nil {w : World} {base B : Nat} {d : Sp.Deps} {D : Nat → Prop} (h : DepsAt w base B d D) (ad : Option Addr) (cap : Nat) :
    Calls Tryz.prog 66 #[pt B, .slice ad 0 cap] w fun e w' => e = .returned (.int .i64 (d.l.length : Int)) ∧ w' = w := by
  obtain ⟨a, n, c, c0, -, -, HN, hn, -⟩ := h.open
  have hn2 := HN.out
  rw [← hn2]
  clear hn2 h
  unfold pt
  go_enter Tryz.func66, Tryz.ntmps66
  go_wp2
  go_ret
  exact ⟨rfl, rfl⟩
/-- The numbers of changes at places. -/
def numsAt (d : Sp.Deps) (ps : List Int) : List Int := ps.map fun q => ((d.l.getD q.toNat ⟨0, 0, 0, ⟨#[]⟩, [], 0⟩).num : Int)
section
set_option maxHeartbeats 4000000
set_option maxRecDepth 20000 in
theorem depsNumbers_any {w : World} {base B : Nat} {d : Sp.Deps} {D : Nat → Prop} (h : DepsAt w base B d D) (v : Value) (ps : List Int) (hv : Ints w v ps) (hps : ∀ q ∈ ps, 0 ≤ q ∧ q < (d.l.length : Int)) (hl : ps.length ≤ 1024) :
    Calls Tryz.prog 238 #[pt B, v] w fun e w' => ∃ v', e = .returned v' ∧ OwnR 3 1 intC w.heap.size w' v' (numsAt d ps) ∧ Below w.heap.size w w' := by
  obtain ⟨ad, n, cap, c0, -, hBl, HN, hn, HF⟩ := h.open
  obtain ⟨bd, m, bc, rfl, HM, hm2, HV⟩ := RowAt.facts hv
  have hstep : ∀ (k : Nat) (q : Int), ps[k]? = some q → numsAt d (ps.take (k + 1)) = numsAt d (ps.take k) ++ [((d.l.getD q.toNat ⟨0, 0, 0, ⟨#[]⟩, [], 0⟩).num : Int)] := fun k q hq => by
    unfold numsAt
    rw [take_step hq, List.map_append]
    rfl
  have hfull : numsAt d (ps.take m) = numsAt d ps := by rw [List.take_of_length_le (by rw [HM.out]; exact Nat.le_refl _)]
  have hll : ∀ k, (numsAt d (ps.take k)).length ≤ 1024 := fun k => by unfold numsAt; rw [List.length_map, List.length_take]; omega
  have hz : numsAt d (ps.take 0) = [] := rfl
  have hBc : ∀ W, Below w.heap.size w W → W.cell? ⟨B, 0, none⟩ = some (.slice ad n cap) := fun W hW => (hW.cell (p := ⟨B, 0, none⟩) hBl).trans c0
  have hps2 : ∀ q ∈ ps, 0 ≤ q ∧ q < (n : Int) := fun q hq => by rw [HN.out]; exact hps q hq
  have hm3 : m ≤ 1024 := by rw [HM.out]; exact hl
  unfold pt
  have HSTEP := Lib.hid hstep
  have HFULL := Lib.hid hfull
  have HLL := Lib.hid hll
  have HZ := Lib.hid hz
  have HBC := Lib.hid hBc
  have HPS2 := Lib.hid hps2
  clear hstep hfull hll hz hBc hps2
  clear h hv hps hl c0 hBl
  go_enter Tryz.func238, Tryz.ntmps238
  go_wp2
  go_loopw [5, 10] (fun out q wr => ∃ k : Nat, k ≤ m ∧ q = .int .i64 (k : Int) ∧ Hid (OwnR 3 1 intC w.heap.size wr out (numsAt d (ps.take k))) ∧ Hid (Below w.heap.size w wr)) (fun _ q _ => m - (intOf q).toNat)
  case atStart => exact ⟨0, Nat.zero_le _, rfl, by rw [HZ.out]; exact OwnR.void _ _, Below.refl _ _⟩
  case round =>
    obtain ⟨k, hk, rfl, HO, HB⟩ := hrel
    by_cases hlt : k < m
    · obtain ⟨b, o, q, rfl, hb, hq, hc⟩ := HV.out k hlt
      have c1 : wr.cell? ⟨b, o + k, none⟩ = some (.int .i64 q) := by
        have h := (HB.out.cell (p := ⟨b, o + k * 1 + 0, none⟩) hb).trans (hc 0 _ rfl)
        simpa using h
      have hin := HPS2.out q (List.mem_of_getElem? hq)
      have hst := HSTEP.out k q hq
      obtain ⟨j, rfl⟩ : ∃ j : Nat, q = (j : Int) := ⟨q.toNat, by omega⟩
      have hj : j < n := by omega
      obtain ⟨b2, o2, c, va, vn, vc, rfl, hb2, hx2, hc2⟩ := HF.out j hj
      have hnum : d.l.getD ((j : Int)).toNat ⟨0, 0, 0, ⟨#[]⟩, [], 0⟩ = c := by rw [Int.toNat_natCast, List.getD_eq_getElem?_getD, hx2]; rfl
      rw [hnum] at hst
      have c2 := (HB.out.cell (p := ⟨b2, o2 + j * 6 + 0, none⟩) hb2).trans (hc2 0 _ rfl)
      simp only [Nat.add_zero] at c2
      have c3 := HBC.out wr HB.out
      have HSt := Lib.hid hst
      have hl2 := HLL.out k
      obtain ⟨cn, ca, co, cb, ch, cs⟩ := c
      dsimp only at c2
      clear hst hnum hx2 hc2 hb2 hb hq hc hin
      go_upto_region 5 with fail
      obtain ⟨ia6, ib6, ic6, id6, ie6⟩ := info_parts infoInt
      have hrow6 := HO.out
      unfold OwnR at hrow6
      have HRow6 := Lib.hid hrow6
      clear hrow6
      have HIb6 := Lib.hid ib6
      have HIc6 := Lib.hid ic6
      have HId6 := Lib.hid id6
      have HIe6 := Lib.hid ie6
      clear ib6 ic6 id6 ie6
      go_wp2_with (at_builtin; refine wpList_append_lies _ rfl _ _ _ rfl w.heap.size 3 ia6 _ 1 8 Tryz.underlying58 HIb6.out HIc6.out HId6.out HIe6.out rfl (by decide) _ _ _ rfl (HRow6.out.alloc _) ⟨wr.heap.size, 0, none⟩ 1 1 [.int .i64 (cn : Int)] rfl rfl (World.news_of_block (cs := #[.int .i64 (cn : Int)]) (t := 3) (fr := (0, 0)) (heapNew wr _)) (by simp [Value.oneCell']) (by omega) ?c1 ?c2 ?c3 (wr.heap.size + 1) (by simp) ?_)
      case c1 => unfold maxLen; omega
      case c2 => omega
      case c3 => have := HB.out.size; simp; omega
      intro g6 cap6 w6 hown6 hgrow6 hat6 hlt6
      have HO6 := Lib.hid (OwnR.snoc (f := intC) (x := (cn:Int)) hown6 rfl rfl)
      have HB6 : Hid (Below w.heap.size _ w6) := Below.grown (bl1 HB.out _) hgrow6 (bl1 HB.out _).size (fun q hq => (HRow6.out.lt q hq).1)
      clear hown6 hgrow6 hat6 hlt6 HRow6
      go_wp2
      go_roundw
      case rel => exact ⟨k + 1, by omega, by go_num, by rw [HSt.out]; exact HO6, HB6⟩
      case measure => simp [intOf]; omega
    · obtain rfl : k = m := by omega
      have ho := HO.out
      rw [HFULL.out] at ho
      have HO2 := Lib.hid ho
      clear ho
      go_wp2
      go_ret
      exact ⟨_, rfl, HO2.out, HB.out⟩
end
end Go.Proofs.YtgofmnhfajmbfaaGreatDoor

namespace Go.Proofs.YtgofmnhfajmbfaaGreatDoor
open Go Go.RowKit Txt Sp

section
set_option maxHeartbeats 4000000
set_option maxRecDepth 20000 in
theorem depsIsC_any (w : World) (c : Sp.Chg) (u : Value) (a : Option Addr) (m cp : Nat) (hu : u = .slice a m cp) (n : Int) (hc : (c.num : Int) ≤ 4611686018427387904) (hn : 0 ≤ n ∧ n ≤ 4611686018427387904) :
    Calls Tryz.prog 258 #[.agg (chgC (c, u)).toArray, .int .i64 n] w fun e w' => e = .returned (.int .i64 ((c.num : Int) - n)) ∧ Below w.heap.size w w' := by
  subst hu
  obtain ⟨cn, ca, co, cb, ch, cs⟩ := c
  unfold chgC
  dsimp only at hc ⊢
  have e1 : IntKind.i64.wrap ((cn : Int) - n) = (cn : Int) - n := IntWalk.i64_in _ (by omega)
  obtain ⟨W0, hW0⟩ : ∃ W, w.alloc (.cells #[.int .i64 (cn : Int), .int .i64 ca, .int .i64 co, .string cb, .slice a m cp, .int .i64 cs] 209) = W := ⟨_, rfl⟩
  have HB0 : Hid (Below w.heap.size w W0) := by rw [← hW0]; exact bl2 _
  have HC0 : Hid (W0.heap[w.heap.size]? = some (.cells #[.int .i64 (cn : Int), .int .i64 ca, .int .i64 co, .string cb, .slice a m cp, .int .i64 cs] 209 (0, 0))) := by rw [← hW0]; exact heapNew w _
  have y0 := cellOf (k := 0) HC0.out rfl
  go_enter Tryz.func258, Tryz.ntmps258
  go_wp2
  go_ret
  exact ⟨rfl, HB0.out⟩
/-- Where a number would stand among rising ones. -/
def Cut (d : Sp.Deps) (n : Int) (k : Nat) : Prop := (∀ (j : Nat) (c : Sp.Chg), j < k → d.l[j]? = some c → (c.num : Int) < n) ∧ ∀ (j : Nat) (c : Sp.Chg), k ≤ j → d.l[j]? = some c → n ≤ (c.num : Int)
set_option maxRecDepth 20000 in
theorem bsearch_any {w : World} {base B : Nat} {d : Sp.Deps} {D : Nat → Prop} (h : DepsAt w base B d D) (hok : d.Ok) (n : Int) (hn : 0 ≤ n ∧ n ≤ 4611686018427387904) (ad : Option Addr) (N cap : Nat) (hc : w.cell? ⟨B, 0, none⟩ = some (.slice ad N cap)) :
    Calls Tryz.prog 257 #[.slice ad N cap, .int .i64 n, .func (.func 258) #[] #[]] w fun e w' =>
      ∃ k : Nat, k ≤ d.l.length ∧ Cut d n k ∧ e = .returned (.tuple #[.int .i64 (k : Int), .bool (decide (∃ c, d.l[k]? = some c ∧ (c.num : Int) = n))]) ∧ Below w.heap.size w w' := by
  obtain ⟨ad', N', cap', c0, -, hBl, HN, hn2, HF⟩ := h.open
  rw [hc] at c0
  cases c0
  have hrise : ∀ (i j : Nat) (a b : Sp.Chg), i < j → d.l[i]? = some a → d.l[j]? = some b → a.num < b.num := fun i j a b hij ha hb => by
    have hi := List.getElem?_eq_some_iff.1 ha
    have hj := List.getElem?_eq_some_iff.1 hb
    have := List.pairwise_iff_getElem.1 hok.rise i j hi.1 hj.1 hij
    rw [hi.2, hj.2] at this
    exact this
  have hcl := fun (W : World) (c : Sp.Chg) (a : Option Addr) (m cp : Nat) (hx : c ∈ d.l) => depsIsC_any W c (.slice a m cp) a m cp rfl n (by have := (hok.num c hx).2; have := hok.last; omega) hn
  unfold chgC at hcl
  dsimp only at hcl
  have hbd := fun (c : Sp.Chg) (hx : c ∈ d.l) => (show (c.num : Int) ≤ 1000000000 by have := (hok.num c hx).2; have := hok.last; omega)
  have hN : N ≤ 1024 := by rw [HN.out]; exact hok.few
  have HRISE := Lib.hid hrise
  have HCL := Lib.hid hcl
  have HBD := Lib.hid hbd
  clear hrise hcl hbd
  clear h hok hc hBl
  go_enter Tryz.func257, Tryz.ntmps257
  go_wp2
  go_loopw [9, 10] (fun p q wr => ∃ i j : Nat, i ≤ j ∧ j ≤ N ∧ p = .int .i64 (i : Int) ∧ q = .int .i64 (j : Int) ∧ Hid (∀ (k : Nat) (c : Sp.Chg), k < i → d.l[k]? = some c → (c.num : Int) < n) ∧ Hid (∀ (k : Nat) (c : Sp.Chg), j ≤ k → d.l[k]? = some c → n ≤ (c.num : Int)) ∧ Hid (Below w.heap.size w wr)) (fun p q _ => (intOf q - intOf p).toNat)
  case atStart => exact ⟨0, N, Nat.zero_le _, Nat.le_refl _, rfl, rfl, fun k c hk => absurd hk (Nat.not_lt_zero _), fun k c hk hx => by have := (List.getElem?_eq_some_iff.1 hx).1; have := HN.out; omega, Below.refl _ _⟩
  case round =>
    obtain ⟨i, j, hij, hjN, rfl, rfl, HI, HJ, HB⟩ := hrel
    by_cases hlt : i < j
    · obtain ⟨M, hM⟩ : ∃ M : Nat, (i + j) / 2 = M := ⟨_, rfl⟩
      have hmid : ((i : Int) + (j : Int)) / 2 = (M : Int) := by omega
      have hM1 : i ≤ M ∧ M < j := by omega
      have hMN : M < N := by omega
      obtain ⟨b, o, c, va, vn, vc, rfl, hb, hx, hcc⟩ := HF.out M hMN
      have hmem := List.mem_of_getElem? hx
      have hcall := fun W => HCL.out W c va vn vc hmem
      have hbc := HBD.out c hmem
      obtain ⟨cn, ca, co, cb, ch, cs⟩ := c
      have c0 := (HB.out.cell (p := ⟨b, o + M * 6 + 0, none⟩) hb).trans (hcc 0 _ rfl)
      have c1 := (HB.out.cell (p := ⟨b, o + M * 6 + 1, none⟩) hb).trans (hcc 1 _ rfl)
      have c2 := (HB.out.cell (p := ⟨b, o + M * 6 + 2, none⟩) hb).trans (hcc 2 _ rfl)
      have c3 := (HB.out.cell (p := ⟨b, o + M * 6 + 3, none⟩) hb).trans (hcc 3 _ rfl)
      have c4 := (HB.out.cell (p := ⟨b, o + M * 6 + 4, none⟩) hb).trans (hcc 4 _ rfl)
      have c5 := (HB.out.cell (p := ⟨b, o + M * 6 + 5, none⟩) hb).trans (hcc 5 _ rfl)
      simp only [Nat.add_zero] at c0
      dsimp only at c0 c1 c2 c3 c4 c5 hcall hbc
      have HX := Lib.hid hx
      have HCALL := Lib.hid hcall
      clear hcall
      clear hcc hb hmem hM hx
      by_cases hlt2 : (cn : Int) < n
      · have q1 : decide ((cn : Int) - n < 0) = true := decide_eq_true (by omega)
        have HI2 : Hid (∀ (k : Nat) (c : Sp.Chg), k < M + 1 → d.l[k]? = some c → (c.num : Int) < n) := fun k c hk hxk => by
          by_cases e : k = M
          · subst e
            have := hxk.symm.trans HX.out
            cases this
            exact hlt2
          · have := HRISE.out k M c _ (by omega) hxk HX.out
            dsimp only at this
            omega
        go_wp2_with fail
        clear c0 c1 c2 c3 c4 c5
        refine (HCALL.out _).mono ?_
        rintro e w2 ⟨rfl, hb2⟩
        have HB2 := Lib.hid (blN HB.out hb2)
        clear hb2
        go_wp2
        go_roundw
        case rel => exact ⟨M + 1, j, by omega, hjN, by go_num, rfl, HI2, HJ, HB2⟩
        case measure => simp [intOf]; omega
      · have q1 : decide ((cn : Int) - n < 0) = false := decide_eq_false (by omega)
        have HJ2 : Hid (∀ (k : Nat) (c : Sp.Chg), M ≤ k → d.l[k]? = some c → n ≤ (c.num : Int)) := fun k c hk hxk => by
          by_cases e : k = M
          · subst e
            have := hxk.symm.trans HX.out
            cases this
            dsimp only
            omega
          · have := HRISE.out M k _ c (by omega) HX.out hxk
            dsimp only at this
            omega
        go_wp2_with fail
        clear c0 c1 c2 c3 c4 c5
        refine (HCALL.out _).mono ?_
        rintro e w2 ⟨rfl, hb2⟩
        have HB2 := Lib.hid (blN HB.out hb2)
        clear hb2
        go_wp2
        go_roundw
        case rel => exact ⟨i, M, by omega, by omega, rfl, by go_num, HI, HJ2, HB2⟩
        case measure => simp [intOf]; omega
    · obtain rfl : i = j := by omega
      have HCut : Hid (Cut d n i) := ⟨HI.out, HJ.out⟩
      by_cases hiN : i < N
      · obtain ⟨b, o, c, va, vn, vc, rfl, hb, hx, hcc⟩ := HF.out i hiN
        have hmem := List.mem_of_getElem? hx
        have hcall := fun W => HCL.out W c va vn vc hmem
        have hbc := HBD.out c hmem
        have HD : Hid (decide (∃ c, d.l[i]? = some c ∧ (c.num : Int) = n) = (((c.num : Int) - n) == 0)) := by
          show _ = _
          by_cases e : (c.num : Int) = n
          · rw [decide_eq_true ⟨c, hx, e⟩, beq_iff_eq.2 (by omega)]
          · rw [decide_eq_false (fun ⟨c', hc', e'⟩ => e (by rw [hx] at hc'; cases hc'; exact e')), beq_eq_false_iff_ne.2 (by omega)]
        obtain ⟨cn, ca, co, cb, ch, cs⟩ := c
        have c0 := (HB.out.cell (p := ⟨b, o + i * 6 + 0, none⟩) hb).trans (hcc 0 _ rfl)
        have c1 := (HB.out.cell (p := ⟨b, o + i * 6 + 1, none⟩) hb).trans (hcc 1 _ rfl)
        have c2 := (HB.out.cell (p := ⟨b, o + i * 6 + 2, none⟩) hb).trans (hcc 2 _ rfl)
        have c3 := (HB.out.cell (p := ⟨b, o + i * 6 + 3, none⟩) hb).trans (hcc 3 _ rfl)
        have c4 := (HB.out.cell (p := ⟨b, o + i * 6 + 4, none⟩) hb).trans (hcc 4 _ rfl)
        have c5 := (HB.out.cell (p := ⟨b, o + i * 6 + 5, none⟩) hb).trans (hcc 5 _ rfl)
        simp only [Nat.add_zero] at c0
        dsimp only at c0 c1 c2 c3 c4 c5 hcall HD
        obtain ⟨z, hz⟩ : ∃ z : Bool, (((cn : Int) - n) == 0) = z := ⟨_, rfl⟩
        rw [hz] at HD
        have HCALL := Lib.hid hcall
        clear hcall
        clear hcc hb hmem hx hbc
        go_wp2_with fail
        clear c0 c1 c2 c3 c4 c5
        refine (HCALL.out _).mono ?_
        rintro e w2 ⟨rfl, hb2⟩
        have HB2 := Lib.hid (blN HB.out hb2)
        clear hb2
        go_wp2
        go_ret2
        exact ⟨i, by have := HN.out; omega, HCut.out, by rw [HD.out]; rfl, HB2.out⟩
      · obtain rfl : i = N := by omega
        have HD : Hid (decide (∃ c, d.l[i]? = some c ∧ (c.num : Int) = n) = false) := decide_eq_false (fun ⟨c', hc', _⟩ => by have := (List.getElem?_eq_some_iff.1 hc').1; have := HN.out; omega)
        go_wp2
        go_ret2
        exact ⟨i, by have := HN.out; omega, HCut.out, by rw [HD.out]; rfl, HB.out⟩
theorem stateOf_cut {d : Sp.Deps} (hok : d.Ok) {n : Int} {k : Nat} (hc : Cut d n k) : stateOf d n = match d.l[k]? with
    | some c => if (c.num : Int) = n then c.state else 0
    | none => 0 := by
  have hrise : ∀ (i j : Nat) (a b : Sp.Chg), i < j → d.l[i]? = some a → d.l[j]? = some b → a.num < b.num := fun i j a b hij ha hb => by
    have hi := List.getElem?_eq_some_iff.1 ha
    have hj := List.getElem?_eq_some_iff.1 hb
    have := List.pairwise_iff_getElem.1 hok.rise i j hi.1 hj.1 hij
    rw [hi.2, hj.2] at this
    exact this
  have huniq : ∀ c ∈ d.l, (c.num : Int) = n → d.l[k]? = some c := fun c hm e => by
    obtain ⟨j, hj⟩ := List.getElem?_of_mem hm
    have h1 : ¬ j < k := fun hlt => by have := hc.1 j c hlt hj; omega
    by_cases e2 : j = k
    · rw [← e2]; exact hj
    · have hk : k < d.l.length := by have := (List.getElem?_eq_some_iff.1 hj).1; omega
      have h2 := hc.2 k _ (Nat.le_refl _) (List.getElem?_eq_getElem hk)
      have h3 := hrise k j _ c (by omega) (List.getElem?_eq_getElem hk) hj
      omega
  unfold stateOf
  cases hf : d.l.find? (fun c => decide ((c.num : Int) = n)) with
  | some c =>
    have hm := List.mem_of_find?_eq_some hf
    have he : (c.num : Int) = n := of_decide_eq_true (List.find?_some (p := fun c : Sp.Chg => decide ((c.num : Int) = n)) hf)
    rw [huniq c hm he]
    dsimp only
    rw [if_pos he]
  | none =>
    cases hk : d.l[k]? with
    | none => rfl
    | some c =>
      dsimp only
      rw [if_neg (fun e => by have := List.find?_eq_none.1 hf c (List.mem_of_getElem? hk); simp [e] at this)]
set_option maxRecDepth 20000 in
theorem depsIs_any {w : World} {base B : Nat} {d : Sp.Deps} {D : Nat → Prop} (h : DepsAt w base B d D) (hok : d.Ok) (n : Int) (hn : 0 ≤ n ∧ n ≤ 4611686018427387904) :
    Calls Tryz.prog 202 #[pt B, .int .i64 n] w fun e w' => e = .returned (.int .i64 (stateOf d n)) ∧ Below w.heap.size w w' := by
  obtain ⟨ad, N, cap, c0, -, hBl, HN, hn2, HF⟩ := h.open
  have hb := bsearch_any h hok n hn ad N cap c0
  have hst := fun (k : Nat) (hc : Cut d n k) => stateOf_cut hok hc
  obtain ⟨st, hsd⟩ : ∃ x, stateOf d n = x := ⟨_, rfl⟩
  rw [hsd] at hst ⊢
  have hBc : ∀ W, Below w.heap.size w W → W.cell? ⟨B, 0, none⟩ = some (.slice ad N cap) := fun W hW => (hW.cell (p := ⟨B, 0, none⟩) hBl).trans c0
  unfold pt
  have HB := Lib.hid hb
  have HST := Lib.hid hst
  have HBC := Lib.hid hBc
  clear hb hst hBc
  clear h hok hsd hBl
  go_enter Tryz.func202, Tryz.ntmps202
  go_wp2_with fail
  clear c0
  refine HB.out.mono ?_
  rintro e w1 ⟨k, hk, hcut, rfl, hb1⟩
  have HB1 := Lib.hid hb1
  have hst := HST.out k hcut
  clear hb1 hcut
  by_cases hkN : k < N
  · obtain ⟨b, o, c, va, vn, vc, rfl, hb, hx, hcc⟩ := HF.out k hkN
    rw [hx] at hst
    dsimp only at hst
    by_cases he : (c.num : Int) = n
    · have q1 : decide (∃ c, d.l[k]? = some c ∧ (c.num : Int) = n) = true := decide_eq_true ⟨c, hx, he⟩
      rw [if_pos he] at hst
      have c4 := (HB1.out.cell (p := ⟨b, o + k * 6 + 5, none⟩) hb).trans (hcc 5 _ rfl)
      obtain ⟨cn, ca, co, cb, ch, cs⟩ := c
      dsimp only at c4 hst
      have cB := HBC.out w1 HB1.out
      rw [q1]
      clear hcc hb hx he q1 HST
      subst hst
      go_wp2
      go_ret
      exact ⟨rfl, HB1.out⟩
    · have q1 : decide (∃ c, d.l[k]? = some c ∧ (c.num : Int) = n) = false := decide_eq_false (fun ⟨c', hc', e'⟩ => he (by rw [hx] at hc'; cases hc'; exact e'))
      rw [if_neg he] at hst
      rw [q1]
      clear hcc hb hx he q1 HST
      subst hst
      go_wp2
      go_ret
      exact ⟨rfl, HB1.out⟩
  · have hnone : d.l[k]? = none := List.getElem?_eq_none (by have := HN.out; omega)
    rw [hnone] at hst
    dsimp only at hst
    have q1 : decide (∃ c, d.l[k]? = some c ∧ (c.num : Int) = n) = false := decide_eq_false (fun ⟨c', hc', _⟩ => by rw [hnone] at hc'; cases hc')
    rw [q1]
    clear hnone q1 HST
    subst hst
    go_wp2
    go_ret
    exact ⟨rfl, HB1.out⟩
end
end Go.Proofs.YtgofmnhfajmbfaaGreatDoor

namespace Go.Proofs.YtgofmnhfajmbfaaGreatDoor
open Go Go.RowKit Txt Sp

theorem flat_set_cell {α : Type} {f : α → List Value} {k : Nat} : ∀ {l : List α} {q : Nat} {y : α} {r : Nat} {v : Value}, (∀ x ∈ l, (f x).length = k) → (f y).length = k → (hq : q < l.length) → r < k → f y = (f l[q]).set r v →
    (l.flatMap f).set (q * k + r) v = (l.set q y).flatMap f
  | x :: t, 0, y, r, v, hl, hy, hq, hr, he => by
    have hx := hl x (List.mem_cons_self ..)
    rw [List.flatMap_cons, List.set_cons_zero, List.flatMap_cons, Nat.zero_mul, Nat.zero_add, List.set_append_left _ _ (by omega)]
    rw [he]
    rfl
  | x :: t, q + 1, y, r, v, hl, hy, hq, hr, he => by
    have hx := hl x (List.mem_cons_self ..)
    have ih := flat_set_cell (l := t) (q := q) (y := y) (r := r) (v := v) (fun z hz => hl z (List.mem_cons_of_mem _ hz)) hy (by simpa using hq) hr he
    rw [List.flatMap_cons, List.set_cons_succ, List.flatMap_cons, List.set_append_right _ _ (by rw [hx, Nat.succ_mul]; omega), hx, show (q + 1) * k + r - k = q * k + r by rw [Nat.succ_mul]; omega, ih]
/-- The state of a change is set. -/
theorem deps_stored {w : World} {base B : Nat} {d : Sp.Deps} {D : Nat → Prop} (h : DepsAt w base B d D) {q : Nat} (hq : q < d.l.length) (s : Int) :
    ∃ g cap, w.cell? ⟨B, 0, none⟩ = some (.slice (some ⟨g, 0, none⟩) d.l.length cap) ∧ (w.cell? ⟨g, q * 6 + 5, none⟩).isSome ∧ w.frozen? ⟨g, q * 6 + 5, none⟩ = false ∧ D g ∧ g ≠ B ∧
      DepsAt (w.setCell ⟨g, q * 6 + 5, none⟩ (.int .i64 s)) base B { d with l := d.l.set q (setSt d.l[q] s) } D ∧ Turn (fun j => j = g) w (w.setCell ⟨g, q * 6 + 5, none⟩ (.int .i64 s)) ∧ OfType 209 w (fun j => j = g) := by
  obtain ⟨⟨v, ps, h1, h2, h3, h4, h5⟩, ho, hl⟩ := h
  have hlen : ps.length = d.l.length := by rw [← h2, List.length_map]
  have hq2 : q < ps.length := by omega
  have h3' := h3
  obtain ⟨hx, ⟨rfl, h0⟩ | ⟨g, cap, cur, rfl, hg, hh, hnc, hm, hcs, ht⟩⟩ := h3'
  · omega
  have hkc : q * 6 + 5 < cur.size := by omega
  have hBg : B ≠ g := fun e => by rw [e, hh] at h1; cases h1
  have hT : Turn (fun j => j = g) w (w.setCell ⟨g, q * 6 + 5, none⟩ (.int .i64 s)) := setCell_turn
  have hst := (World.ownsRow.stored h3 (q * 6 + 5) (.int .i64 s)).1
  have hpq : ps[q].1 = d.l[q] := by simp only [← h2, List.getElem_map]
  have hfl : (ps.flatMap chgC).set (q * 6 + 5) (.int .i64 s) = (ps.set q (setSt d.l[q] s, ps[q].2)).flatMap chgC := flat_set_cell (fun _ _ => rfl) rfl hq2 (by decide) (by rw [← hpq]; rfl)
  refine ⟨g, cap, by rw [← hlen]; exact cellOf (k := 0) h1 rfl, ?_, freeOf hh, h4 g rfl, Ne.symm hBg, ⟨⟨.slice (some ⟨g, 0, none⟩) ps.length cap, ps.set q (setSt d.l[q] s, ps[q].2), hT.heap h1 hBg, ?_, ?_, h4, fun x hx => ?_⟩, ho, hl⟩, hT, ?_⟩
  · rw [World.cell?]
    simp [hh, hkc]
  · rw [List.map_set, h2]
  · unfold OwnR
    rw [List.length_set, ← hfl]
    simpa using hst
  · have hold : ∃ y ∈ ps, y.2 = x.2 ∧ y.1.ahead = x.1.ahead := by
      rcases List.mem_or_eq_of_mem_set hx with hx | hx
      · exact ⟨x, hx, rfl, rfl⟩
      · refine ⟨ps[q], List.getElem_mem hq2, by rw [hx], ?_⟩
        rw [hx, hpq]
        rfl
    obtain ⟨y, hy, e1, e2⟩ := hold
    obtain ⟨o1, o2⟩ := h5 y hy
    rw [← e1, ← e2]
    refine ⟨o1.turn hT (fun k hk e => ?_), o2⟩
    have hk : y.2.ownBlock = some k := hk
    obtain ⟨_, ⟨e3, _⟩ | ⟨g', cap', cur', e3, _, hh', _⟩⟩ := o1
    · rw [e3] at hk
      cases hk
    · rw [e3] at hk
      have : g' = k := by simpa [Value.ownBlock] using hk
      rw [this, e, hh] at hh'
      cases hh'
  · rintro k rfl
    exact ⟨_, _, hh⟩
end Go.Proofs.YtgofmnhfajmbfaaGreatDoor
