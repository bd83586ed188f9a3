/-
  Walks of layer 12: New, of, patched.
-/
import Derived.Test.YtghafpdmcbockaaGreatDoorDiskNew
namespace Go.Proofs.YtghafpdmcbockaaGreatDoor
open Go Go.RowKit Txt Sp

/-- Changes, opened: their row's length and cells. -/
theorem DepsAt.open {w : World} {base B : Nat} {d : Sp.Deps} {D : Nat → Prop} (h : DepsAt w base B d D) : ∃ (ad : Option Addr) (n cap : Nat), w.cell? ⟨B, 0, none⟩ = some (.slice ad n cap) ∧ w.cell? ⟨B, 1, none⟩ = some (.int .i64 (d.last : Int)) ∧ B < w.heap.size ∧ Hid (n = d.l.length) ∧ n ≤ 9223372036854775807 ∧
    Hid (∀ j, j < n → ∃ b off c va vn vc, ad = some ⟨b, off, none⟩ ∧ b < w.heap.size ∧ d.l[j]? = some c ∧ (∀ (i : Nat) (y : Value), (chgC (c, .slice va vn vc))[i]? = some y → w.cell? ⟨b, off + j * 6 + i, none⟩ = some y)) := by
  obtain ⟨⟨v, ps, h1, h2, h3, _, h5⟩, _, _⟩ := h
  obtain ⟨ad, n, cap, rfl, a1, a2, a3⟩ := RowAt.facts (OwnR.row (f := chgC) (size := 6) (fun _ _ => rfl) h3)
  have hl : n = d.l.length := by rw [← h2, List.length_map]; exact a1.out
  refine ⟨ad, n, cap, cellOf (k := 0) h1 rfl, cellOf (k := 1) h1 rfl, (Array.getElem?_eq_some_iff.1 h1).1, hl, a2, fun j hj => ?_⟩
  obtain ⟨b, off, ⟨c, u⟩, e1, e2, e3, e4⟩ := a3.out j hj
  obtain ⟨va, vc, hu⟩ := OwnR.form (h5 (c, u) (List.mem_of_getElem? e3)).1
  dsimp only at hu
  subst hu
  exact ⟨b, off, c, va, _, vc, e1, e2, by rw [← h2, List.getElem?_map, e3]; rfl, e4⟩
/-- The places of a sector's changes in a state. -/
def Sp.Deps.places (d : Sp.Deps) (i st : Int) (k : Nat) : List Int := ((List.range k).filter (fun j => decide (∃ c, d.l[j]? = some c ∧ c.at_ = i ∧ c.state = st))).map (fun j : Nat => (j : Int))
theorem places_step {d : Sp.Deps} {i st : Int} {k : Nat} {c : Chg} (hc : d.l[k]? = some c) : d.places i st (k + 1) = d.places i st k ++ (if c.at_ = i ∧ c.state = st then [(k : Int)] else []) := by
  unfold Sp.Deps.places
  rw [List.range_succ, List.filter_append, List.map_append]
  congr 1
  by_cases h : c.at_ = i ∧ c.state = st
  · rw [if_pos h, List.filter_cons, if_pos (by simpa [hc] using h)]
    rfl
  · rw [if_neg h, List.filter_cons, if_neg (by simpa [hc] using h)]
    rfl
theorem places_len (d : Sp.Deps) (i st : Int) (k : Nat) : (d.places i st k).length ≤ k := by
  unfold Sp.Deps.places
  rw [List.length_map]
  exact Nat.le_trans (List.length_filter_le _ _) (by rw [List.length_range]; exact Nat.le_refl _)
section
set_option maxHeartbeats 2000000
theorem depsNew_any (w : World) : Calls Tryz.prog 88 #[] w fun e w' => ∃ B D, e = .returned (pt B) ∧ DepsAt w' w.heap.size B ⟨[], 0⟩ D ∧ Below w.heap.size w w' ∧ ∀ j, D j → w.heap.size ≤ j ∧ j < w'.heap.size := by
  go_enter Tryz.func88, Tryz.ntmps88
  go_wp2
  go_ret
  refine ⟨_, fun j => j = w.heap.size, rfl, ⟨⟨.slice none 0 0, [], heap_alloc_new w _, rfl, OwnR.void _ _, fun k hk => by (cases hk), fun x hx => by cases hx⟩, rfl, Nat.le_refl _⟩, bl2 _, fun j e => by subst e; simp⟩
set_option maxRecDepth 20000 in
theorem depsOf_any {w : World} {base B : Nat} {d : Sp.Deps} {D : Nat → Prop} (h : DepsAt w base B d D) (i st : Int) (hf : d.l.length ≤ 1024) :
    Calls Tryz.prog 130 #[pt B, .int .i64 i, .int .i64 st] w fun e w' => ∃ v, e = .returned v ∧ OwnR 3 1 intC w.heap.size w' v (d.places i st d.l.length) ∧ Below w.heap.size w w' := by
  obtain ⟨ad, n, cap, c0, -, -, HN, hn, HF⟩ := h.open
  have hnl := HN.out
  rw [← hnl]
  have HLe : Hid (n ≤ 1024) := by show n ≤ 1024; omega
  unfold pt
  clear h hf hnl
  go_enter Tryz.func130, Tryz.ntmps130
  go_wp2_with fail
  clear c0
  go_loopw [7, 15] (fun out q wr => ∃ k : Nat, k ≤ n ∧ q = .int .i64 (k : Int) ∧ Hid (OwnR 3 1 intC w.heap.size wr out (d.places i st k)) ∧ Hid (Below w.heap.size w wr)) (fun _ q _ => n - (intOf q).toNat)
  case atStart => exact ⟨0, Nat.zero_le _, rfl, OwnR.void _ _, Below.refl _ _⟩
  case round =>
    obtain ⟨k, hk, rfl, HO, HB⟩ := hrel
    by_cases hlt : k < n
    · obtain ⟨b, o, c, ua, un, uc, rfl, hb, hx, hc⟩ := HF.out k hlt
      have hst := places_step (i := i) (st := st) hx
      obtain ⟨cn, ca, co, cb, ch, cs⟩ := c
      have c0 := (HB.out.cell (p := ⟨b, o + k * 6 + 0, none⟩) hb).trans (hc 0 _ rfl)
      have c1 := (HB.out.cell (p := ⟨b, o + k * 6 + 1, none⟩) hb).trans (hc 1 _ rfl)
      have c2 := (HB.out.cell (p := ⟨b, o + k * 6 + 2, none⟩) hb).trans (hc 2 _ rfl)
      have c3 := (HB.out.cell (p := ⟨b, o + k * 6 + 3, none⟩) hb).trans (hc 3 _ rfl)
      have c4 := (HB.out.cell (p := ⟨b, o + k * 6 + 4, none⟩) hb).trans (hc 4 _ rfl)
      have c5 := (HB.out.cell (p := ⟨b, o + k * 6 + 5, none⟩) hb).trans (hc 5 _ rfl)
      simp only [Nat.add_zero] at c0
      have hpl := places_len d i st k
      dsimp only at hst
      by_cases h1 : ca = i
      · have q1 : (ca == i) = true := beq_iff_eq.2 h1
        by_cases h2 : cs = st
        · have q2 : (cs == st) = true := beq_iff_eq.2 h2
          rw [if_pos ⟨h1, h2⟩] at hst
          have HSt := Lib.hid hst
          have HP := Lib.hid hpl
          clear hst hpl hx hc hb h1 h2
          obtain ⟨W5, hW5⟩ : ∃ W, wr.alloc (.cells #[.int .i64 (cn : Int), .int .i64 ca, .int .i64 co, .string cb, .slice ua un uc, .int .i64 cs] 190) = W := ⟨_, rfl⟩
          have hz5 : W5.heap[wr.heap.size]? = some (.cells #[.int .i64 (cn : Int), .int .i64 ca, .int .i64 co, .string cb, .slice ua un uc, .int .i64 cs] 190 (0, 0)) := by rw [← hW5]; exact heapNew wr _
          have z1 := cellOf (k := 1) hz5 rfl
          have z5 := cellOf (k := 5) hz5 rfl
          go_upto_region 6 with fail
          have HB5 : Hid (Below w.heap.size w W5) := by rw [← hW5]; exact bl1 HB.out _
          have HO5 : Hid (OwnR 3 1 intC w.heap.size W5 u7 (d.places i st k)) := by rw [← hW5]; exact OwnR.below HO.out (bl2 _)
          have hll : (d.places i st k).length ≤ 1024 := by have := HP.out; have := HLe.out; omega
          clear hW5 c0 c1 c2 c3 c4 c5 q1 q2 z1 z5 hz5
          obtain ⟨ia6, ib6, ic6, id6, ie6⟩ := info_parts infoInt
          have hrow6 := HO5.out
          unfold OwnR at hrow6
          have HRow6 := Lib.hid hrow6
          clear hrow6
          have HIb6 := Lib.hid ib6
          have HIc6 := Lib.hid ic6
          have HId6 := Lib.hid id6
          have HIe6 := Lib.hid ie6
          clear ib6 ic6 id6 ie6
          go_wp2_with (at_builtin; refine wpList_append_lies _ rfl _ _ _ rfl w.heap.size 3 ia6 _ 1 8 Tryz.underlying30 HIb6.out HIc6.out HId6.out HIe6.out rfl (by decide) _ _ _ rfl (HRow6.out.alloc _) ⟨W5.heap.size, 0, none⟩ 1 1 [.int .i64 (k : Int)] rfl rfl (World.news_of_block (cs := #[.int .i64 (k : Int)]) (t := 3) (fr := (0, 0)) (heapNew W5 _)) (by simp [Value.oneCell']) (by omega) ?c1 ?c2 ?c3 (W5.heap.size + 1) (by simp) ?_)
          case c1 => unfold maxLen; omega
          case c2 => omega
          case c3 => have := HB5.out.size; simp; omega
          intro g6 cap6 w6 hown6 hgrow6 hat6 hlt6
          have HO6 := Lib.hid (OwnR.snoc (f := intC) (x := (k:Int)) hown6 rfl rfl)
          have HB6 : Hid (Below w.heap.size _ w6) := Below.grown (bl1 HB5.out _) hgrow6 (bl1 HB5.out _).size (fun q hq => (HRow6.out.lt q hq).1)
          clear hown6 hgrow6 hat6 hlt6 HRow6
          go_wp2
          go_roundw
          case rel => exact ⟨k + 1, by omega, by go_num, by rw [HSt.out]; exact HO6, HB6⟩
          case measure => simp [intOf]; omega
        · have q2 : (cs == st) = false := beq_eq_false_iff_ne.2 h2
          rw [if_neg (fun h => h2 h.2), List.append_nil] at hst
          have HSt := Lib.hid hst
          clear hst hpl hx hc hb h1 h2
          go_wp2
          go_roundw
          case rel => exact ⟨k + 1, by omega, by go_num, by rw [HSt.out]; exact OwnR.below HO.out (bl2 _), bl1 HB.out _⟩
          case measure => simp [intOf]; omega
      · have q1 : (ca == i) = false := beq_eq_false_iff_ne.2 h1
        rw [if_neg (fun h => h1 h.1), List.append_nil] at hst
        have HSt := Lib.hid hst
        clear hst hpl hx hc hb h1
        go_wp2
        go_roundw
        case rel => exact ⟨k + 1, by omega, by go_num, by rw [HSt.out]; exact OwnR.below HO.out (bl2 _), bl1 HB.out _⟩
        case measure => simp [intOf]; omega
    · obtain rfl : k = n := by omega
      go_wp2
      go_ret
      exact ⟨_, rfl, HO.out, HB.out⟩
end
end Go.Proofs.YtghafpdmcbockaaGreatDoor
