/-
  DepA: Deps, AppendSrc, IntRows, DepsView, Overlap, AddChk.
-/
import Derived.Test.YtgofmnhfajmbfaaGreatDoorSidA
import Derived.Deep.AppendLies
import Derived.Laws.OwnMore
import Derived.OwnWalk
import Derived.Test.YtgofmnhfajmbfaaGreatDoorShelf
import Derived.Test.YtgofmnhfajmbfaaGreatDoorMapsA
import Derived.Maps.AppendAt
import Derived.Test.YtgofmnhfajmbfaaGreatDoorInodeA
import Derived.Test.YtgofmnhfajmbfaaGreatDoorTableA
namespace Go.Proofs.YtgofmnhfajmbfaaGreatDoor
open Go Go.RowKit Txt Sp

/-- Changes, opened: their row's length and cells. -/
theorem DepsAt.open {w : World} {base B : Nat} {d : Sp.Deps} {D : Nat → Prop} (h : DepsAt w base B d D) : ∃ (ad : Option Addr) (n cap : Nat), w.cell? ⟨B, 0, none⟩ = some (.slice ad n cap) ∧ w.cell? ⟨B, 1, none⟩ = some (.int .i64 (d.last : Int)) ∧ B < w.heap.size ∧ Hid (n = d.l.length) ∧ n ≤ 9223372036854775807 ∧
    Hid (∀ j, j < n → ∃ b off c va vn vc, ad = some ⟨b, off, none⟩ ∧ b < w.heap.size ∧ d.l[j]? = some c ∧ (∀ (i : Nat) (y : Value), (chgC (c, .slice va vn vc))[i]? = some y → w.cell? ⟨b, off + j * 6 + i, none⟩ = some y)) := by
  obtain ⟨⟨v, ps, h1, h2, h3, _, h5⟩, _, _⟩ := h
  obtain ⟨ad, n, cap, rfl, a1, a2, a3⟩ := RowAt.facts (OwnR.row (f := chgC) (size := 6) (fun _ _ => rfl) h3)
  have hl : n = d.l.length := by rw [← h2, List.length_map]; exact a1.out
  refine ⟨ad, n, cap, cellOf (k := 0) h1 rfl, cellOf (k := 1) h1 rfl, (Array.getElem?_eq_some_iff.1 h1).1, hl, a2, fun j hj => ?_⟩
  obtain ⟨b, off, ⟨c, u⟩, e1, e2, e3, e4⟩ := a3.out j hj
  obtain ⟨va, vc, hu⟩ := OwnR.form (h5 (c, u) (List.mem_of_getElem? e3)).1
  dsimp only at hu
  subst hu
  exact ⟨b, off, c, va, _, vc, e1, e2, by rw [← h2, List.getElem?_map, e3]; rfl, e4⟩
/-- The places of a sector's changes in a state. -/
def Sp.Deps.places (d : Sp.Deps) (i st : Int) (k : Nat) : List Int := ((List.range k).filter (fun j => decide (∃ c, d.l[j]? = some c ∧ c.at_ = i ∧ c.state = st))).map (fun j : Nat => (j : Int))
theorem places_step {d : Sp.Deps} {i st : Int} {k : Nat} {c : Chg} (hc : d.l[k]? = some c) : d.places i st (k + 1) = d.places i st k ++ (if c.at_ = i ∧ c.state = st then [(k : Int)] else []) := by
  unfold Sp.Deps.places
  rw [List.range_succ, List.filter_append, List.map_append]
  congr 1
  by_cases h : c.at_ = i ∧ c.state = st
  · rw [if_pos h, List.filter_cons, if_pos (by simpa [hc] using h)]
    rfl
  · rw [if_neg h, List.filter_cons, if_neg (by simpa [hc] using h)]
    rfl
theorem places_len (d : Sp.Deps) (i st : Int) (k : Nat) : (d.places i st k).length ≤ k := by
  unfold Sp.Deps.places
  rw [List.length_map]
  exact Nat.le_trans (List.length_filter_le _ _) (by rw [List.length_range]; exact Nat.le_refl _)
section
set_option maxHeartbeats 2000000
theorem depsNew_any (w : World) : Calls Tryz.prog 105 #[] w fun e w' => ∃ B D, e = .returned (pt B) ∧ DepsAt w' w.heap.size B ⟨[], 0⟩ D ∧ Below w.heap.size w w' ∧ ∀ j, D j → w.heap.size ≤ j ∧ j < w'.heap.size := by
  go_enter Tryz.func105, Tryz.ntmps105
  go_wp2
  go_ret
  refine ⟨_, fun j => j = w.heap.size, rfl, ⟨⟨.slice none 0 0, [], heap_alloc_new w _, rfl, OwnR.void _ _, fun k hk => by (cases hk), fun x hx => by cases hx⟩, rfl, Nat.le_refl _⟩, bl2 _, fun j e => by subst e; simp⟩
set_option maxRecDepth 20000 in
theorem depsOf_any {w : World} {base B : Nat} {d : Sp.Deps} {D : Nat → Prop} (h : DepsAt w base B d D) (i st : Int) (hf : d.l.length ≤ 1024) :
    Calls Tryz.prog 137 #[pt B, .int .i64 i, .int .i64 st] w fun e w' => ∃ v, e = .returned v ∧ OwnR 3 1 intC w.heap.size w' v (d.places i st d.l.length) ∧ Below w.heap.size w w' := by
  obtain ⟨ad, n, cap, c0, -, -, HN, hn, HF⟩ := h.open
  have hnl := HN.out
  rw [← hnl]
  have HLe : Hid (n ≤ 1024) := by show n ≤ 1024; omega
  unfold pt
  clear h hf hnl
  go_enter Tryz.func137, Tryz.ntmps137
  go_wp2_with fail
  clear c0
  go_loopw [7, 15] (fun out q wr => ∃ k : Nat, k ≤ n ∧ q = .int .i64 (k : Int) ∧ Hid (OwnR 3 1 intC w.heap.size wr out (d.places i st k)) ∧ Hid (Below w.heap.size w wr)) (fun _ q _ => n - (intOf q).toNat)
  case atStart => exact ⟨0, Nat.zero_le _, rfl, OwnR.void _ _, Below.refl _ _⟩
  case round =>
    obtain ⟨k, hk, rfl, HO, HB⟩ := hrel
    by_cases hlt : k < n
    · obtain ⟨b, o, c, ua, un, uc, rfl, hb, hx, hc⟩ := HF.out k hlt
      have hst := places_step (i := i) (st := st) hx
      obtain ⟨cn, ca, co, cb, ch, cs⟩ := c
      have c0 := (HB.out.cell (p := ⟨b, o + k * 6 + 0, none⟩) hb).trans (hc 0 _ rfl)
      have c1 := (HB.out.cell (p := ⟨b, o + k * 6 + 1, none⟩) hb).trans (hc 1 _ rfl)
      have c2 := (HB.out.cell (p := ⟨b, o + k * 6 + 2, none⟩) hb).trans (hc 2 _ rfl)
      have c3 := (HB.out.cell (p := ⟨b, o + k * 6 + 3, none⟩) hb).trans (hc 3 _ rfl)
      have c4 := (HB.out.cell (p := ⟨b, o + k * 6 + 4, none⟩) hb).trans (hc 4 _ rfl)
      have c5 := (HB.out.cell (p := ⟨b, o + k * 6 + 5, none⟩) hb).trans (hc 5 _ rfl)
      simp only [Nat.add_zero] at c0
      have hpl := places_len d i st k
      dsimp only at hst
      by_cases h1 : ca = i
      · have q1 : (ca == i) = true := beq_iff_eq.2 h1
        by_cases h2 : cs = st
        · have q2 : (cs == st) = true := beq_iff_eq.2 h2
          rw [if_pos ⟨h1, h2⟩] at hst
          have HSt := Lib.hid hst
          have HP := Lib.hid hpl
          clear hst hpl hx hc hb h1 h2
          obtain ⟨W5, hW5⟩ : ∃ W, wr.alloc (.cells #[.int .i64 (cn : Int), .int .i64 ca, .int .i64 co, .string cb, .slice ua un uc, .int .i64 cs] 209) = W := ⟨_, rfl⟩
          have hz5 : W5.heap[wr.heap.size]? = some (.cells #[.int .i64 (cn : Int), .int .i64 ca, .int .i64 co, .string cb, .slice ua un uc, .int .i64 cs] 209 (0, 0)) := by rw [← hW5]; exact heapNew wr _
          have z1 := cellOf (k := 1) hz5 rfl
          have z5 := cellOf (k := 5) hz5 rfl
          go_upto_region 6 with fail
          have HB5 : Hid (Below w.heap.size w W5) := by rw [← hW5]; exact bl1 HB.out _
          have HO5 : Hid (OwnR 3 1 intC w.heap.size W5 u7 (d.places i st k)) := by rw [← hW5]; exact OwnR.below HO.out (bl2 _)
          have hll : (d.places i st k).length ≤ 1024 := by have := HP.out; have := HLe.out; omega
          clear hW5 c0 c1 c2 c3 c4 c5 q1 q2 z1 z5 hz5
          obtain ⟨ia6, ib6, ic6, id6, ie6⟩ := info_parts infoInt
          have hrow6 := HO5.out
          unfold OwnR at hrow6
          have HRow6 := Lib.hid hrow6
          clear hrow6
          have HIb6 := Lib.hid ib6
          have HIc6 := Lib.hid ic6
          have HId6 := Lib.hid id6
          have HIe6 := Lib.hid ie6
          clear ib6 ic6 id6 ie6
          go_wp2_with (at_builtin; refine wpList_append_lies _ rfl _ _ _ rfl w.heap.size 3 ia6 _ 1 8 Tryz.underlying58 HIb6.out HIc6.out HId6.out HIe6.out rfl (by decide) _ _ _ rfl (HRow6.out.alloc _) ⟨W5.heap.size, 0, none⟩ 1 1 [.int .i64 (k : Int)] rfl rfl (World.news_of_block (cs := #[.int .i64 (k : Int)]) (t := 3) (fr := (0, 0)) (heapNew W5 _)) (by simp [Value.oneCell']) (by omega) ?c1 ?c2 ?c3 (W5.heap.size + 1) (by simp) ?_)
          case c1 => unfold maxLen; omega
          case c2 => omega
          case c3 => have := HB5.out.size; simp; omega
          intro g6 cap6 w6 hown6 hgrow6 hat6 hlt6
          have HO6 := Lib.hid (OwnR.snoc (f := intC) (x := (k:Int)) hown6 rfl rfl)
          have HB6 : Hid (Below w.heap.size _ w6) := Below.grown (bl1 HB5.out _) hgrow6 (bl1 HB5.out _).size (fun q hq => (HRow6.out.lt q hq).1)
          clear hown6 hgrow6 hat6 hlt6 HRow6
          go_wp2
          go_roundw
          case rel => exact ⟨k + 1, by omega, by go_num, by rw [HSt.out]; exact HO6, HB6⟩
          case measure => simp [intOf]; omega
        · have q2 : (cs == st) = false := beq_eq_false_iff_ne.2 h2
          rw [if_neg (fun h => h2 h.2), List.append_nil] at hst
          have HSt := Lib.hid hst
          clear hst hpl hx hc hb h1 h2
          go_wp2
          go_roundw
          case rel => exact ⟨k + 1, by omega, by go_num, by rw [HSt.out]; exact OwnR.below HO.out (bl2 _), bl1 HB.out _⟩
          case measure => simp [intOf]; omega
      · have q1 : (ca == i) = false := beq_eq_false_iff_ne.2 h1
        rw [if_neg (fun h => h1 h.1), List.append_nil] at hst
        have HSt := Lib.hid hst
        clear hst hpl hx hc hb h1
        go_wp2
        go_roundw
        case rel => exact ⟨k + 1, by omega, by go_num, by rw [HSt.out]; exact OwnR.below HO.out (bl2 _), bl1 HB.out _⟩
        case measure => simp [intOf]; omega
    · obtain rfl : k = n := by omega
      go_wp2
      go_ret
      exact ⟨_, rfl, HO.out, HB.out⟩
end
end Go.Proofs.YtgofmnhfajmbfaaGreatDoor

namespace Go.Proofs.YtgofmnhfajmbfaaGreatDoor
open Go

section
variable {P : Program} (w : World)
theorem run_append_src (t ty : TypeId) (base : Nat) (e : TypeId) (i : TypeInfo) (z : Value) (size bytes : Nat) (ht : P.underlying t = some (.slice e)) (hi : P.info? e = some i) (hz : i.zero = some z)
    (hsize : i.size = size) (hby : i.bytes = bytes) (hzs : z.cells.size = size) (hsz : 0 < size)
    (g n cap : Nat) (xs : List Value) (hown : w.ownsRow base e size (.slice (some ⟨g, 0, none⟩) n cap) n xs)
    (ad : Option Addr) (m c : Nat) (hnil : ad = none → m = 0 ∧ c = 0) (news : List Value) (hl : news.length = m * size) (hnews : ∀ a, ad = some a → ∀ j u, news[j]? = some u → w.cell? (a.add j) = some u) (h1 : ∀ u ∈ news, u.oneCell' = true)
    (h63 : n + m ≤ maxLen) (hbytes : (n + m) * bytes ≤ 140737488355328) (hbase : base ≤ w.heap.size) :
    ∃ g' cap' w', (Builtin.append_ #[t, t] ty #[.slice (some ⟨g, 0, none⟩) n cap, .slice ad m c]).run P w = .ok (.slice (some ⟨g', 0, none⟩) (n + m) cap') w' ∧
      w'.ownsRow base e size (.slice (some ⟨g', 0, none⟩) (n + m) cap') (n + m) (xs ++ news) ∧ w.grownBy w' (some g) ∧ (g' = g ∨ g' = w.heap.size) := by
  cases ad with
  | none =>
    obtain ⟨rfl, rfl⟩ := hnil rfl
    obtain rfl : news = [] := List.eq_nil_of_length_eq_zero (by simpa using hl)
    rw [List.append_nil, Nat.add_zero]
    exact ⟨g, cap, w, run_append_owned_none (P := P) (w := w) base t ty e i size ht hi _ n xs hown, hown, ⟨rfl, rfl, rfl, Nat.le_refl _, fun _ _ _ => rfl⟩, Or.inl rfl⟩
  | some a =>
    obtain ⟨v', w', hr, h2, h3, h4, h5⟩ := run_append_own_at (P := P) w base t ty e i z size bytes ht hi hz hsize hby hzs hsz _ n xs hown a m c news hl (hnews a rfl) h1 h63 hbytes hbase
    rcases h2.2 with ⟨hv, _⟩ | ⟨g', cap', cur, rfl, h6⟩
    · have := (h4.1 hv).1
      cases this
    · refine ⟨g', cap', w', hr, h2, h3, ?_⟩
      rcases h5 with h5 | h5
      · exact Or.inl (by simpa [Value.ownBlock] using h5)
      · exact Or.inr (by simpa [Value.ownBlock] using h5)

/-- At a plain region's list. -/
theorem wpList_append_src {ops : Array Oper} {rest : List Oper} {o : Oper} {a : Act} {Q : Exit → Act → World → Prop} (hgd : o.guard = none) (s x : Operand) (t : TypeId)
    (ho : o.op = .call { callee := .builtin .append, args := #[s, x], argTypes := #[t, t] })
    (base : Nat) (e : TypeId) (i : TypeInfo) (z : Value) (size bytes : Nat) (ht : P.underlying t = some (.slice e)) (hi : P.info? e = some i) (hz : i.zero = some z)
    (hsize : i.size = size) (hby : i.bytes = bytes) (hzs : z.cells.size = size) (hsz : 0 < size)
    (g n cap : Nat) (xs : List Value) (hs : a.eval s = .slice (some ⟨g, 0, none⟩) n cap) (hown : w.ownsRow base e size (.slice (some ⟨g, 0, none⟩) n cap) n xs)
    (ad : Option Addr) (m c : Nat) (hx : a.eval x = .slice ad m c) (hnil : ad = none → m = 0 ∧ c = 0) (news : List Value) (hl : news.length = m * size) (hnews : ∀ a, ad = some a → ∀ j u, news[j]? = some u → w.cell? (a.add j) = some u) (h1 : ∀ u ∈ news, u.oneCell' = true)
    (h63 : n + m ≤ maxLen) (hbytes : (n + m) * bytes ≤ 140737488355328) (hbase : base ≤ w.heap.size)
    (h : ∀ g' cap' w', w'.ownsRow base e size (.slice (some ⟨g', 0, none⟩) (n + m) cap') (n + m) (xs ++ news) → w.grownBy w' (some g) → (g' = g ∨ g' = w.heap.size) → wpList P ops Q rest (a.put o.dst (.slice (some ⟨g', 0, none⟩) (n + m) cap')) w') :
    wpList P ops Q (o :: rest) a w := by
  refine wpList_plain hgd fun K hK => ?_
  obtain ⟨g', cap', w', hr, h2, h3, h4⟩ := run_append_src (P := P) w t o.type base e i z size bytes ht hi hz hsize hby hzs hsz g n cap xs hown ad m c hnil news hl hnews h1 h63 hbytes hbase
  unfold Oper.wp execOp
  simp only [ho, resolve, invoke, builtin, Sem.run_bind, Sem.run_pure, Result.andThen_ok, List.map_toArray, List.map_cons, List.map_nil, hs, hx, hr]
  exact hK _ _ (h g' cap' w' h2 h3 h4)

/-- At a step of a region that draws. -/
theorem step_append_src {ops : Array Oper} {o : Oper} {a : Act} {K : Act → World → Prop} {Q : Exit → Act → World → Prop} {E : Prop} (hgd : o.guard = none) (s x : Operand) (t : TypeId)
    (ho : o.op = .call { callee := .builtin .append, args := #[s, x], argTypes := #[t, t] })
    (base : Nat) (e : TypeId) (i : TypeInfo) (z : Value) (size bytes : Nat) (ht : P.underlying t = some (.slice e)) (hi : P.info? e = some i) (hz : i.zero = some z)
    (hsize : i.size = size) (hby : i.bytes = bytes) (hzs : z.cells.size = size) (hsz : 0 < size)
    (g n cap : Nat) (xs : List Value) (hs : a.eval s = .slice (some ⟨g, 0, none⟩) n cap) (hown : w.ownsRow base e size (.slice (some ⟨g, 0, none⟩) n cap) n xs)
    (ad : Option Addr) (m c : Nat) (hx : a.eval x = .slice ad m c) (hnil : ad = none → m = 0 ∧ c = 0) (news : List Value) (hl : news.length = m * size) (hnews : ∀ a, ad = some a → ∀ j u, news[j]? = some u → w.cell? (a.add j) = some u) (h1 : ∀ u ∈ news, u.oneCell' = true)
    (h63 : n + m ≤ maxLen) (hbytes : (n + m) * bytes ≤ 140737488355328) (hbase : base ≤ w.heap.size)
    (h : ∀ g' cap' w', w'.ownsRow base e size (.slice (some ⟨g', 0, none⟩) (n + m) cap') (n + m) (xs ++ news) → w.grownBy w' (some g) → (g' = g ∨ g' = w.heap.size) → K (a.put o.dst (.slice (some ⟨g', 0, none⟩) (n + m) cap')) w') :
    if Region.wanted o (yielded ops a.tmps) = true then Oper.wp P o a w K Q else E := by
  have hw : Region.wanted o (yielded ops a.tmps) = true := by simp [Region.wanted, hgd]
  rw [if_pos hw]
  obtain ⟨g', cap', w', hr, h2, h3, h4⟩ := run_append_src (P := P) w t o.type base e i z size bytes ht hi hz hsize hby hzs hsz g n cap xs hown ad m c hnil news hl hnews h1 h63 hbytes hbase
  unfold Oper.wp execOp
  simp only [ho, resolve, invoke, builtin, Sem.run_bind, Sem.run_pure, Result.andThen_ok, List.map_toArray, List.map_cons, List.map_nil, hs, hx, hr]
  exact h g' cap' w' h2 h3 h4
end
end Go.Proofs.YtgofmnhfajmbfaaGreatDoor

namespace Go.Proofs.YtgofmnhfajmbfaaGreatDoor
open Go Go.RowKit Txt Sp

section
variable {P : Program} (w : World)
theorem run_append_rows (t ty : TypeId) (base base' : Nat) (e : TypeId) (i : TypeInfo) (z : Value) (size bytes : Nat) (ht : P.underlying t = some (.slice e)) (hi : P.info? e = some i) (hz : i.zero = some z)
    (hsize : i.size = size) (hby : i.bytes = bytes) (hzs : z.cells.size = size) (hsz : 0 < size) (v u : Value) (n m : Nat) (xs ys : List Value) (hown : w.ownsRow base e size v n xs) (hsrc : w.ownsRow base' e size u m ys)
    (h1 : ∀ u ∈ ys, u.oneCell' = true) (h63 : n + m ≤ maxLen) (hbytes : (n + m) * bytes ≤ 140737488355328) (hbase : base ≤ w.heap.size) :
    ∃ v' w', (Builtin.append_ #[t, t] ty #[v, u]).run P w = .ok v' w' ∧ w'.ownsRow base e size v' (n + m) (xs ++ ys) ∧ w.grownBy w' v.ownBlock := by
  obtain ⟨hy, ⟨rfl, rfl⟩ | ⟨g, cap, cur, rfl, hg, hh, hnc, hm, hcs, htk⟩⟩ := hsrc
  · obtain rfl : ys = [] := List.eq_nil_of_length_eq_zero (by simpa using hy)
    rw [List.append_nil, Nat.add_zero]
    exact ⟨v, w, run_append_owned_none (P := P) (w := w) base t ty e i size ht hi v n xs hown, hown, ⟨rfl, rfl, rfl, Nat.le_refl _, fun _ _ _ => rfl⟩⟩
  · obtain ⟨v', w', hr, h2, h3, _⟩ := run_append_own_at (P := P) w base t ty e i z size bytes ht hi hz hsize hby hzs hsz v n xs hown ⟨g, 0, none⟩ m cap ys hy (fun j x hx => by
      rw [show (⟨g, 0, none⟩ : Addr).add j = ⟨g, j, none⟩ by unfold Addr.add; split <;> simp_all]
      rw [← htk] at hx
      have hj := (List.getElem?_eq_some_iff.1 hx).1
      rw [List.length_take] at hj
      rw [List.getElem?_take_of_lt (by omega)] at hx
      refine cellOf hh ?_
      simpa using hx) h1 h63 hbytes hbase
    exact ⟨v', w', hr, h2, h3⟩
theorem wpList_append_rows {ops : Array Oper} {rest : List Oper} {o : Oper} {a : Act} {Q : Exit → Act → World → Prop} (hgd : o.guard = none) (s x : Operand) (t : TypeId)
    (ho : o.op = .call { callee := .builtin .append, args := #[s, x], argTypes := #[t, t] })
    (base base' : Nat) (e : TypeId) (i : TypeInfo) (z : Value) (size bytes : Nat) (ht : P.underlying t = some (.slice e)) (hi : P.info? e = some i) (hz : i.zero = some z)
    (hsize : i.size = size) (hby : i.bytes = bytes) (hzs : z.cells.size = size) (hsz : 0 < size) (v u : Value) (n m : Nat) (xs ys : List Value) (hs : a.eval s = v) (hown : w.ownsRow base e size v n xs) (hx : a.eval x = u) (hsrc : w.ownsRow base' e size u m ys)
    (h1 : ∀ u ∈ ys, u.oneCell' = true) (h63 : n + m ≤ maxLen) (hbytes : (n + m) * bytes ≤ 140737488355328) (hbase : base ≤ w.heap.size)
    (h : ∀ v' w', w'.ownsRow base e size v' (n + m) (xs ++ ys) → w.grownBy w' v.ownBlock → wpList P ops Q rest (a.put o.dst v') w') :
    wpList P ops Q (o :: rest) a w := by
  refine wpList_plain hgd fun K hK => ?_
  obtain ⟨v', w', hr, h2, h3⟩ := run_append_rows (P := P) w t o.type base base' e i z size bytes ht hi hz hsize hby hzs hsz v u n m xs ys hown hsrc h1 h63 hbytes hbase
  unfold Oper.wp execOp
  simp only [ho, resolve, invoke, builtin, Sem.run_bind, Sem.run_pure, Result.andThen_ok, List.map_toArray, List.map_cons, List.map_nil, hs, hx, hr]
  exact hK _ _ (h v' w' h2 h3)
end
theorem intC_map (l : List Int) : l.flatMap intC = l.map (Value.int .i64) := by
  induction l with
  | nil => rfl
  | cons x r ih => rw [List.flatMap_cons, ih]; rfl
/-- slices.Sort of a row of numbers of one's own. -/
theorem sortInts_any {w : World} {base : Nat} {v : Value} {l : List Int} (h : OwnR 3 1 intC base w v l) (hll : l.length ≤ 1000000) :
    Calls Tryz.prog 193 #[v] w fun e w' => e = .returned (.tuple #[]) ∧ OwnR 3 1 intC base w' v (l.mergeSort fun x y => decide (x ≤ y)) ∧ Turn (fun k => v.ownBlock = some k) w w' := by
  have h0 := h
  obtain ⟨hx, ⟨rfl, h1⟩ | ⟨g, cap, cur, rfl, hg, hh, hnc, hm, hcs, htk⟩⟩ := h
  · obtain rfl : l = [] := List.eq_nil_of_length_eq_zero h1
    refine (Tryz.slices_Sort_int_none none 0 w).mono ?_
    rintro e w' ⟨rfl, rfl⟩
    exact ⟨rfl, by simpa using h0, Turn.refl _ _⟩
  · rw [intC_map] at htk
    have hcell : ∀ j (hj : j < l.length), cur[j]? = some (.int .i64 l[j]) := fun j hj => by
      have h2 : (cur.toList.take (l.length * 1))[j]? = some (.int .i64 l[j]) := by rw [htk, List.getElem?_map, List.getElem?_eq_getElem hj]; rfl
      rw [List.getElem?_take_of_lt (by omega)] at h2
      simpa using h2
    refine (Tryz.slices_Sort_int g 0 cap l w (fun j hj => ?_) (Array.getElem?_eq_some_iff.1 hh).1 (by omega)).mono ?_
    · have hj' : j < l.length := by simpa using hj
      rw [Nat.zero_add]
      refine ⟨?_, freeOf hh⟩
      rw [cellOf hh (hcell j hj')]
      simp [hj']
    · rintro e w' ⟨rfl, n, os, rfl⟩
      obtain ⟨M, hM⟩ : ∃ M, (l.mergeSort fun x y => decide (x ≤ y)) = M := ⟨_, rfl⟩
      have hML : M.length = l.length := by rw [← hM, List.length_mergeSort]
      rw [hM]
      have hgs := (Array.getElem?_eq_some_iff.1 hh).1
      have hat : (Sort.grow (Sort.putRow (Value.int .i64) (Sort.ahead w n) g 0 M.toArray) os).heap[g]? = some (.cells (Sort.putCells (Value.int .i64) 0 M.toArray cur) 3 (0, 0)) := by
        unfold Sort.grow Sort.putRow Sort.mapBlock Sort.ahead
        simp only
        rw [Array.getElem?_append_left (by simpa using hgs), Array.getElem?_modify, if_pos rfl, hh]
        rfl
      refine ⟨rfl, ⟨by rw [intC_map, List.length_map, Nat.mul_one], Or.inr ⟨g, cap, _, by rw [hML], hg, hat, by omega, hm, by simp [Sort.putCells, hcs], ?_⟩⟩, ⟨rfl, rfl, rfl, by unfold Sort.grow Sort.putRow Sort.mapBlock Sort.ahead; simp, fun k hk hne => ?_⟩⟩
      · rw [intC_map]
        apply List.ext_getElem?
        intro j
        by_cases hj : j < M.length
        · have hjc : j < cur.size := by omega
          rw [List.getElem?_take_of_lt (by omega), List.getElem?_map, List.getElem?_eq_getElem hj]
          simp [Sort.putCells, hjc, hj]
        · rw [List.getElem?_eq_none (by rw [List.length_take]; omega), List.getElem?_eq_none (by rw [List.length_map]; omega)]
      · have hkg : g ≠ k := fun e => hne (by rw [e]; rfl)
        unfold Sort.grow Sort.putRow Sort.mapBlock Sort.ahead
        simp only
        rw [Array.getElem?_append_left (by simpa using hk), Array.getElem?_modify, if_neg hkg]
end Go.Proofs.YtgofmnhfajmbfaaGreatDoor

namespace Go.Proofs.YtgofmnhfajmbfaaGreatDoor
open Go Go.RowKit Txt Sp

/-- The patch of the change at a place. -/
def Sp.Deps.patchAt (d : Sp.Deps) (j : Int) : Int × ByteArray := match d.l[j.toNat]? with
  | some c => (c.off, c.bytes)
  | none => (0, ⟨#[]⟩)
section
set_option maxHeartbeats 2000000
set_option maxRecDepth 20000 in
theorem depsPatched_any {w : World} {base B : Nat} {d : Sp.Deps} {D : Nat → Prop} (h : DepsAt w base B d D) (hok : d.Ok) (s : ByteArray) (hs : s.size = 64) (v : Value) (js : List Int) (hv : Ints w v js) (hj : ∀ j ∈ js, 0 ≤ j ∧ j < d.l.length) (hl : js.length ≤ 1024) :
    Calls Tryz.prog 194 #[pt B, .string s, v] w fun e w' => e = .returned (.tuple #[.string (ofL (patchedL s.data.toList (js.map d.patchAt))), .int .i64 0]) ∧ Below w.heap.size w w' := by
  obtain ⟨ad, n, cap, c0, -, hBl, HN, hn, HF⟩ := h.open
  have hnl := HN.out
  obtain ⟨jad, m, jcap, rfl, HM, hm, HJ⟩ := RowAt.facts (f := fun n : Int => [Value.int .i64 n]) hv
  have hml := HM.out
  have hpo : patchesOk (js.map d.patchAt) := by
    intro p hp
    obtain ⟨j, hjm, rfl⟩ := List.mem_map.1 hp
    have h1 := hj j hjm
    unfold Sp.Deps.patchAt
    rw [List.getElem?_eq_getElem (by omega)]
    exact hok.fit _ (List.getElem_mem _)
  have hpt := fun (W : World) (v : Value) (hv : Pats W v (js.map d.patchAt)) => fpatched_any W s v _ hv hs (by rw [List.length_map]; exact hl) hpo
  have HC0 : Hid (∀ W, Below w.heap.size w W → W.cell? ⟨B, 0, none⟩ = some (.slice ad n cap)) := fun W hW => (hW.cell (p := ⟨B, 0, none⟩) hBl).trans c0
  have HLe : Hid (js.length ≤ 1024) := hl
  obtain ⟨R, hR⟩ : ∃ R, ofL (patchedL s.data.toList (js.map d.patchAt)) = R := ⟨_, rfl⟩
  rw [hR] at hpt ⊢
  have HJJ := Lib.hid hj
  have hps : ∀ k j, js[k]? = some j → (js.take (k + 1)).map d.patchAt = (js.take k).map d.patchAt ++ [d.patchAt j] := fun k j h => by rw [take_step h, List.map_append]; rfl
  have hend : (js.take m).map d.patchAt = js.map d.patchAt := by rw [List.take_of_length_le (by omega)]
  obtain ⟨PL, hPL⟩ : ∃ PL : Nat → List (Int × ByteArray), (fun k => (js.take k).map d.patchAt) = PL := ⟨_, rfl⟩
  have hPe : ∀ k, (js.take k).map d.patchAt = PL k := fun k => by rw [← hPL]
  have hpl : ∀ k, (PL k).length ≤ 1024 := fun k => by rw [← hPe, List.length_map, List.length_take]; omega
  have hP0 : PL 0 = [] := by rw [← hPe]; rfl
  simp only [hPe] at hps hend
  have HP0 := Lib.hid hP0
  unfold pt
  have HPT := Lib.hid hpt
  have HPS := Lib.hid hps
  have HEND := Lib.hid hend
  have HPL := Lib.hid hpl
  clear hpt hps hend hpl
  clear hPL hPe hP0
  clear h hok hv hj hl hpo hR c0 hnl hml
  go_enter Tryz.func194, Tryz.ntmps194
  go_wp2_with fail
  go_loopw [8, 13] (fun out q wr => ∃ k : Nat, k ≤ m ∧ q = .int .i64 (k : Int) ∧ Hid (OwnR 167 2 patC w.heap.size wr out (PL k)) ∧ Hid (Below w.heap.size w wr)) (fun _ q _ => m - (intOf q).toNat)
  case atStart => exact ⟨0, Nat.zero_le _, rfl, by rw [HP0.out]; exact OwnR.void _ _, Below.refl _ _⟩
  case round =>
    obtain ⟨k, hk, rfl, HO, HB⟩ := hrel
    by_cases hlt : k < m
    · obtain ⟨jb, jo, j, rfl, hjb, hjx, hjc⟩ := HJ.out k hlt
      have hjb2 := HJJ.out j (List.mem_of_getElem? hjx)
      obtain ⟨q, rfl⟩ : ∃ q : Nat, j = (q : Int) := ⟨j.toNat, by omega⟩
      have hqn : q < n := by have := HN.out; omega
      obtain ⟨b, o, c, ua, un, uc, rfl, hb, hx, hc⟩ := HF.out q hqn
      have hst := HPS.out k _ hjx
      have hpa : d.patchAt (q : Int) = (c.off, c.bytes) := by unfold Sp.Deps.patchAt; rw [Int.toNat_natCast, hx]
      rw [hpa] at hst
      obtain ⟨cn, ca, co, cb, ch, cs⟩ := c
      have c0 := HC0.out wr HB.out
      have j0 := (HB.out.cell (p := ⟨jb, jo + k * 1 + 0, none⟩) hjb).trans (hjc 0 _ rfl)
      simp only [Nat.add_zero, Nat.mul_one] at j0
      have c2 := (HB.out.cell (p := ⟨b, o + q * 6 + 2, none⟩) hb).trans (hc 2 _ rfl)
      have c3 := (HB.out.cell (p := ⟨b, o + q * 6 + 3, none⟩) hb).trans (hc 3 _ rfl)
      have hll := HPL.out k
      dsimp only at hst
      have HSt := Lib.hid hst
      clear hst hpa hx hc hb hjx hjc hjb hjb2
      obtain ⟨ia5, ib5, ic5, id5, ie5⟩ := info_parts infoPatch
      have hrow5 := HO.out
      unfold OwnR at hrow5
      have HRow5 := Lib.hid hrow5
      clear hrow5
      have HIb5 := Lib.hid ib5
      have HIc5 := Lib.hid ic5
      have HId5 := Lib.hid id5
      have HIe5 := Lib.hid ie5
      clear ib5 ic5 id5 ie5
      go_wp2_with (at_builtin; refine wpList_append_lies _ rfl _ _ _ rfl w.heap.size 167 ia5 _ 2 24 Tryz.underlying193 HIb5.out HIc5.out HId5.out HIe5.out rfl (by decide) _ _ _ rfl (HRow5.out.alloc _) ⟨wr.heap.size, 0, none⟩ 1 1 [.int .i64 co, .string cb] rfl rfl (World.news_of_block (cs := #[.int .i64 co, .string cb]) (t := 167) (fr := (0, 0)) (heapNew wr _)) (by simp [Value.oneCell']) (by omega) ?c1 ?c2 ?c3 (wr.heap.size + 1) (by simp) ?_)
      case c1 => unfold maxLen; omega
      case c2 => omega
      case c3 => have := HB.out.size; simp; omega
      intro g5 cap5 w5 hown5 hgrow5 hat5 hlt5
      have HO5 := Lib.hid (OwnR.snoc (f := patC) (x := (co,cb)) hown5 rfl rfl)
      have HB5 : Hid (Below w.heap.size _ w5) := Below.grown (bl1 HB.out _) hgrow5 (bl1 HB.out _).size (fun q hq => (HRow5.out.lt q hq).1)
      clear hown5 hgrow5 hat5 hlt5 HRow5
      go_wp2
      go_roundw
      case rel => exact ⟨k + 1, by omega, by go_num, by rw [HSt.out]; exact HO5, HB5⟩
      case measure => simp [intOf]; omega
    · obtain rfl : k = m := by omega
      have ho := HO.out
      rw [HEND.out] at ho
      have HP := Lib.hid (HPT.out wr _ (OwnR.row (f := patC) (size := 2) (fun _ _ => rfl) ho))
      clear ho
      go_wp2_with fail
      refine HP.out.mono ?_
      rintro e w2 ⟨rfl, hb2⟩
      have HB2 := Lib.hid (blN HB.out hb2)
      clear hb2
      go_wp2
      go_ret2
      exact ⟨rfl, HB2.out⟩
/-- All places of a sector's changes. -/
def Sp.Deps.all (d : Sp.Deps) (i : Int) (k : Nat) : List Int := ((List.range k).filter (fun j => decide (∃ c, d.l[j]? = some c ∧ c.at_ = i))).map (fun j : Nat => (j : Int))
theorem all_sorted (d : Sp.Deps) (i : Int) (k : Nat) : (d.all i k).Pairwise (fun a b => decide (a ≤ b) = true) := by
  unfold Sp.Deps.all
  rw [List.pairwise_map]
  refine (List.pairwise_lt_range.filter _).imp ?_
  intro a b h
  exact decide_eq_true (by omega)
theorem places_perm {d : Sp.Deps} (hok : d.Ok) (i : Int) (k : Nat) : (d.places i 1 k ++ d.places i 2 k).Perm (d.all i k) := by
  unfold Sp.Deps.places Sp.Deps.all
  rw [← List.map_append]
  refine List.Perm.map _ ?_
  have h := List.filter_append_perm (fun j => decide (∃ c, d.l[j]? = some c ∧ c.at_ = i ∧ c.state = 1)) ((List.range k).filter (fun j => decide (∃ c, d.l[j]? = some c ∧ c.at_ = i)))
  rw [List.filter_filter, List.filter_filter] at h
  have e1 : (List.range k).filter (fun j => decide (∃ c, d.l[j]? = some c ∧ c.at_ = i ∧ c.state = 1) && decide (∃ c, d.l[j]? = some c ∧ c.at_ = i)) = (List.range k).filter (fun j => decide (∃ c, d.l[j]? = some c ∧ c.at_ = i ∧ c.state = 1)) := by
    refine List.filter_congr fun j _ => ?_
    rw [← Bool.decide_and]
    refine decide_eq_decide.2 ⟨fun h => h.1, fun h => ⟨h, ?_⟩⟩
    obtain ⟨c, h1, h2, _⟩ := h
    exact ⟨c, h1, h2⟩
  have e2 : (List.range k).filter (fun j => !decide (∃ c, d.l[j]? = some c ∧ c.at_ = i ∧ c.state = 1) && decide (∃ c, d.l[j]? = some c ∧ c.at_ = i)) = (List.range k).filter (fun j => decide (∃ c, d.l[j]? = some c ∧ c.at_ = i ∧ c.state = 2)) := by
    refine List.filter_congr fun j _ => ?_
    rw [← decide_not, ← Bool.decide_and]
    refine decide_eq_decide.2 ⟨?_, ?_⟩
    · rintro ⟨h1, c, h2, h3⟩
      refine ⟨c, h2, h3, ?_⟩
      rcases hok.st c (List.mem_of_getElem? h2) with h | h
      · exact absurd ⟨c, h2, h3, h⟩ h1
      · exact h
    · rintro ⟨c, h1, h2, h3⟩
      refine ⟨?_, c, h1, h2⟩
      rintro ⟨c', h1', _, h3'⟩
      rw [h1] at h1'
      cases h1'
      omega
  rw [e1, e2] at h
  exact h
theorem places_sorted {d : Sp.Deps} (hok : d.Ok) (i : Int) (k : Nat) : (d.places i 1 k ++ d.places i 2 k).mergeSort (fun x y => decide (x ≤ y)) = d.all i k := by
  have tr : ∀ a b c : Int, decide (a ≤ b) = true → decide (b ≤ c) = true → decide (a ≤ c) = true := fun a b c h1 h2 => by simp only [decide_eq_true_eq] at *; omega
  have to' : ∀ a b : Int, (decide (a ≤ b) || decide (b ≤ a)) = true := fun a b => by simp only [Bool.or_eq_true, decide_eq_true_eq]; omega
  refine List.Perm.eq_of_pairwise (le := fun a b : Int => decide (a ≤ b) = true) (fun a b _ _ h1 h2 => ?_) (List.pairwise_mergeSort tr to' _) (all_sorted d i k) ((List.mergeSort_perm _ _).trans (places_perm hok i k))
  simp only [decide_eq_true_eq] at h1 h2
  omega
theorem all_patches (d : Sp.Deps) (i : Int) : ∀ k, k ≤ d.l.length → (d.all i k).map d.patchAt = ((d.l.take k).filter (fun c => decide (c.at_ = i))).map (fun c => (c.off, c.bytes))
  | 0, _ => rfl
  | k + 1, hk => by
    have ih := all_patches d i k (by omega)
    have hx : d.l[k]? = some d.l[k] := List.getElem?_eq_getElem (by omega)
    rw [take_step hx, List.filter_append, List.map_append, ← ih]
    unfold Sp.Deps.all
    rw [List.range_succ, List.filter_append, List.map_append, List.map_append]
    congr 1
    by_cases h : d.l[k].at_ = i
    · rw [List.filter_cons, if_pos (by simpa [hx] using h), List.filter_cons, if_pos (by simpa using h)]
      simp only [List.filter_nil, List.map_cons, List.map_nil]
      unfold Sp.Deps.patchAt
      rw [Int.toNat_natCast, hx]
    · rw [List.filter_cons, if_neg (by simpa [hx] using h), List.filter_cons, if_neg (by simpa using h)]
      rfl
theorem view_places {d : Sp.Deps} (hok : d.Ok) (i : Int) : ((d.places i 1 d.l.length ++ d.places i 2 d.l.length).mergeSort (fun x y => decide (x ≤ y))).map d.patchAt = d.patches i := by
  rw [places_sorted hok, all_patches d i _ (Nat.le_refl _), List.take_length]
  rfl
section
set_option maxHeartbeats 2000000
set_option maxRecDepth 20000 in
theorem depsView_any {w : World} {base B : Nat} {d : Sp.Deps} {D : Nat → Prop} (h : DepsAt w base B d D) (hok : d.Ok) (i : Int) (s : ByteArray) (hs : s.size = 64) :
    Calls Tryz.prog 130 #[pt B, .int .i64 i, .string s] w fun e w' => e = .returned (.tuple #[.string (d.view i s), .int .i64 0]) ∧ Below w.heap.size w w' := by
  have hv : d.view i s = ofL (patchedL s.data.toList (d.patches i)) := if_pos hs
  have ho1 := fun (W : World) (hW : Below w.heap.size w W) => depsOf_any (h.below hW) i 1 hok.few
  have ho2 := fun (W : World) (hW : Below w.heap.size w W) => depsOf_any (h.below hW) i 2 hok.few
  obtain ⟨l1, hl1⟩ : ∃ l, d.places i 1 d.l.length = l := ⟨_, rfl⟩
  obtain ⟨l2, hl2⟩ : ∃ l, d.places i 2 d.l.length = l := ⟨_, rfl⟩
  have hb1 : l1.length ≤ 1024 := by rw [← hl1]; exact Nat.le_trans (places_len d i 1 _) hok.few
  have hb2 : l2.length ≤ 1024 := by rw [← hl2]; exact Nat.le_trans (places_len d i 2 _) hok.few
  have hvp := view_places hok i
  rw [hl1, hl2] at hvp
  have hjs : ∀ j ∈ (l1 ++ l2).mergeSort (fun x y => decide (x ≤ y)), 0 ≤ j ∧ j < d.l.length := by
    intro j hj
    rw [← hl1, ← hl2, places_sorted hok] at hj
    unfold Sp.Deps.all at hj
    obtain ⟨q, hq, rfl⟩ := List.mem_map.1 hj
    have := List.mem_range.1 (List.mem_filter.1 hq).1
    omega
  rw [hl1] at ho1
  rw [hl2] at ho2
  obtain ⟨M, hM⟩ : ∃ M, (l1 ++ l2).mergeSort (fun x y => decide (x ≤ y)) = M := ⟨_, rfl⟩
  have hML : M.length ≤ 2048 := by rw [← hM, List.length_mergeSort, List.length_append]; omega
  have hMf : M.length ≤ 1024 := by
    have := congrArg List.length hvp
    rw [List.length_map, hM] at this
    rw [this]
    exact Deps.patches_few hok i
  rw [hM] at hvp hjs
  have hpa := fun (W : World) (v : Value) (hW : Below w.heap.size w W) (hv : Ints W v M) => depsPatched_any (h.below hW) hok s hs v M hv hjs hMf
  rw [hvp] at hpa
  rw [hv]
  obtain ⟨ia, ib, ic, id, ie⟩ := info_parts infoInt
  obtain ⟨R, hR⟩ : ∃ R, ofL (patchedL s.data.toList (d.patches i)) = R := ⟨_, rfl⟩
  rw [hR] at hpa ⊢
  have HM := Lib.hid hM
  unfold pt at ho1 ho2 hpa ⊢
  have HO1 := Lib.hid ho1
  have HO2 := Lib.hid ho2
  have HPA := Lib.hid hpa
  clear ho1 ho2 hpa
  clear h hok hv hl1 hl2 hvp hjs hM hR hML hMf hs
  go_enter Tryz.func130, Tryz.ntmps130
  go_wp2_with fail
  go_at_call_of 137 (Value.int .i64 1)
  refine (HO1.out _ (Below.refl _ _)).mono ?_
  rintro e w1 ⟨v1, rfl, hv1, hw1⟩
  have HV1 := Lib.hid hv1
  have HW1 := Lib.hid hw1
  clear hv1 hw1
  go_wp2_with fail
  refine (HO2.out _ HW1.out).mono ?_
  rintro e w2 ⟨v2, rfl, hv2, hw2⟩
  have HV2 := Lib.hid hv2
  have HV1b := Lib.hid (OwnR.below HV1.out hw2)
  have HW2 := Lib.hid (blN HW1.out hw2)
  clear hv2 hw2 HO1 HO2
  go_wp2_with (at_builtin; refine wpList_append_rows _ rfl (.tmp 11) (.tmp 14) _ rfl w.heap.size w1.heap.size 3 ia _ 1 8 Tryz.underlying58 ib ic id ie rfl (by decide) v1 v2 l1.length l2.length (l1.flatMap intC) (l2.flatMap intC) rfl HV1b.out rfl HV2.out ?c1 ?c2 ?c3 ?c4 ?_)
  case c1 => rw [intC_map]; intro u hu; obtain ⟨s, _, rfl⟩ := List.mem_map.1 hu; rfl
  case c2 => unfold maxLen; omega
  case c3 => omega
  case c4 => exact HW2.out.size
  intro v3 w3 hown3 hg3
  have HO3 : Hid (OwnR 3 1 intC w.heap.size w3 v3 (l1 ++ l2)) := by
    show OwnR _ _ _ _ _ _ _
    unfold OwnR
    rw [List.length_append, List.flatMap_append]
    exact hown3
  have HW3 : Hid (Below w.heap.size w w3) := Below.grown HW2.out hg3 HW2.out.size (fun q hq => (OwnR.lt HV1b.out q hq).1)
  clear hown3 hg3 HV1 HV2 HV1b
  have HS := Lib.hid (sortInts_any HO3.out (by rw [List.length_append]; omega))
  go_wp2_with fail
  refine HS.out.mono ?_
  rintro e w4 ⟨rfl, hv4, hT4⟩
  rw [HM.out] at hv4
  have HW4 : Hid (Below w.heap.size w w4) := HW3.out.trans (hT4.below (fun k hk => (OwnR.lt HO3.out k hk).1) HW3.out.size)
  have HP := Lib.hid (HPA.out w4 v3 HW4.out (OwnR.row (f := intC) (size := 1) (fun _ _ => rfl) hv4))
  clear hv4 hT4 HS
  go_wp2_with fail
  refine HP.out.mono ?_
  rintro e w5 ⟨rfl, hw5⟩
  have HW5 := Lib.hid (blN HW4.out hw5)
  clear hw5
  go_wp2
  go_ret2
  exact ⟨rfl, HW5.out⟩
end
end
end Go.Proofs.YtgofmnhfajmbfaaGreatDoor

namespace Go.Proofs.YtgofmnhfajmbfaaGreatDoor
open Go Go.RowKit Txt Sp

section
set_option maxHeartbeats 2000000
set_option maxRecDepth 20000 in
theorem foverlap_any (w : World) (o1 o2 : Int) (b1 b2 : ByteArray) (h1 : inside o1 b1.size) (h2 : inside o2 b2.size) :
    Calls Tryz.prog 277 #[.agg #[.int .i64 o1, .string b1], .agg #[.int .i64 o2, .string b2]] w fun e w' => e = .returned (.tuple #[.bool (decide (max o1 o2 < min (o1 + b1.size) (o2 + b2.size))), .int .i64 0]) ∧ Below w.heap.size w w' := by
  have hc1 := fun W : World => fcheck_any W o1 b1
  have hc2 := fun W : World => fcheck_any W o2 b2
  rw [if_pos h1] at hc1
  rw [if_pos h2] at hc2
  have e1 : IntKind.i64.wrap (o1 + (b1.size : Int)) = o1 + (b1.size : Int) := IntWalk.i64_in _ (by unfold inside at h1; omega)
  have e2 : IntKind.i64.wrap (o2 + (b2.size : Int)) = o2 + (b2.size : Int) := IntWalk.i64_in _ (by unfold inside at h2; omega)
  obtain ⟨W1, hW1⟩ : ∃ W, (w.alloc (.cells #[.int .i64 o1, .string b1] 167)).alloc (.cells #[.int .i64 o2, .string b2] 167) = W := ⟨_, rfl⟩
  have hs1 : W1.heap.size = w.heap.size + 2 := by rw [← hW1]; simp
  have HB1 : Hid (Below w.heap.size w W1) := by rw [← hW1]; exact bl1 (bl2 _) _
  have HZ0 : Hid (W1.heap[w.heap.size]? = some (.cells #[.int .i64 o1, .string b1] 167 (0, 0))) := by rw [← hW1]; exact heapOld (bl2 _) (heapNew w _)
  have HZ1 : Hid (W1.heap[w.heap.size + 1]? = some (.cells #[.int .i64 o2, .string b2] 167 (0, 0))) := by
    rw [← hW1]
    have := heapNew (w.alloc (.cells #[.int .i64 o1, .string b1] 167)) (.cells #[.int .i64 o2, .string b2] 167)
    rw [show (w.alloc (.cells #[.int .i64 o1, .string b1] 167)).heap.size = w.heap.size + 1 by simp] at this
    exact this
  have HC0 : Hid (∀ W, Below W1.heap.size W1 W → W.cell? ⟨w.heap.size, 0, none⟩ = some (.int .i64 o1) ∧ W.cell? ⟨w.heap.size, 1, none⟩ = some (.string b1) ∧ W.cell? ⟨w.heap.size + 1, 0, none⟩ = some (.int .i64 o2) ∧ W.cell? ⟨w.heap.size + 1, 1, none⟩ = some (.string b2)) := fun W hW =>
    ⟨cellOf (k := 0) (heapOld hW HZ0.out) rfl, cellOf (k := 1) (heapOld hW HZ0.out) rfl, cellOf (k := 0) (heapOld hW HZ1.out) rfl, cellOf (k := 1) (heapOld hW HZ1.out) rfl⟩
  obtain ⟨x0, x1, x2, x3⟩ := HC0.out W1 (Below.refl _ _)
  have HS1 := Lib.hid hs1
  have HC1 := Lib.hid hc1
  have HC2' := Lib.hid hc2
  clear hc1 hc2
  clear h1 h2 hs1
  obtain ⟨W2, hW2⟩ : ∃ W, W1.alloc (.cells #[.int .i64 o1, .string b1, .int .i64 o2, .string b2] 167) = W := ⟨_, rfl⟩
  have HB2 : Hid (Below W1.heap.size W1 W2) := by rw [← hW2]; exact bl2 _
  have HZ2 : Hid (W2.heap[W1.heap.size]? = some (.cells #[.int .i64 o1, .string b1, .int .i64 o2, .string b2] 167 (0, 0))) := by rw [← hW2]; exact heapNew W1 _
  have HC2 : Hid (∀ W, Below W2.heap.size W2 W → W.cell? ⟨W1.heap.size, 0, none⟩ = some (.int .i64 o1) ∧ W.cell? ⟨W1.heap.size, 1, none⟩ = some (.string b1) ∧ W.cell? ⟨W1.heap.size, 2, none⟩ = some (.int .i64 o2) ∧ W.cell? ⟨W1.heap.size, 3, none⟩ = some (.string b2)) := fun W hW =>
    ⟨cellOf (k := 0) (heapOld hW HZ2.out) rfl, cellOf (k := 1) (heapOld hW HZ2.out) rfl, cellOf (k := 2) (heapOld hW HZ2.out) rfl, cellOf (k := 3) (heapOld hW HZ2.out) rfl⟩
  go_enter Tryz.func277, Tryz.ntmps277
  go_wp2_with fail
  clear hW1 hW2 x0 x1 x2 x3
  go_loopw [13] (fun i wr => ∃ k : Nat, k ≤ 2 ∧ i = .int .i64 (k : Int) ∧ Hid (Below W2.heap.size W2 wr)) (fun i _ => 2 - (intOf i).toNat)
  case atStart => exact ⟨0, by omega, rfl, Below.refl _ _⟩
  case round =>
    obtain ⟨k, hk, rfl, HB⟩ := hrel
    obtain ⟨y0, y1, y2, y3⟩ := HC2.out wr HB.out
    have hcase : k = 0 ∨ k = 1 ∨ k = 2 := by omega
    rcases hcase with rfl | rfl | rfl
    · go_wp2_with fail
      refine (HC1.out _).mono ?_
      rintro e w3 ⟨rfl, hb3⟩
      have HB3 := Lib.hid (blN (bl1 HB.out _) hb3)
      clear hb3 y0 y1 y2 y3
      go_wp2
      go_roundw
      case rel => exact ⟨1, by omega, rfl, HB3⟩
      case measure => simp [intOf]
    · go_wp2_with fail
      refine (HC2'.out _).mono ?_
      rintro e w3 ⟨rfl, hb3⟩
      have HB3 := Lib.hid (blN (bl1 HB.out _) hb3)
      clear hb3 y0 y1 y2 y3
      go_wp2
      go_roundw
      case rel => exact ⟨2, by omega, rfl, HB3⟩
      case measure => simp [intOf]
    · clear y0 y1 y2 y3
      obtain ⟨y0, y1, y2, y3⟩ := HC0.out wr (blN HB2.out HB.out)
      go_wp2
      go_ret2
      exact ⟨rfl, blN HB1.out (blN HB2.out HB.out)⟩
end
end Go.Proofs.YtgofmnhfajmbfaaGreatDoor

namespace Go.Proofs.YtgofmnhfajmbfaaGreatDoor
open Go Go.RowKit Txt Sp

/-- The place of the first number that is none; below 0: there is none. -/
def badNo (last : Int) : List Int → Int
  | [] => -1
  | x :: r => if x < 1 ∨ last < x then 0 else if badNo last r < 0 then -1 else badNo last r + 1
theorem badNo_first {last : Int} : ∀ (l : List Int) (k : Nat) (x : Int), (∀ t ∈ l.take k, 1 ≤ t ∧ t ≤ last) → l[k]? = some x → (x < 1 ∨ last < x) → badNo last l = (k : Int)
  | [], k, x, _, h, _ => by cases h
  | y :: r, 0, x, _, h, hx => by
    cases h
    exact if_pos hx
  | y :: r, k + 1, x, ha, h, hx => by
    have ih := badNo_first r k x (fun t ht => ha t (by rw [List.take_succ_cons]; exact List.mem_cons_of_mem _ ht)) h hx
    have hy := ha y (by rw [List.take_succ_cons]; exact List.mem_cons_self ..)
    show (if y < 1 ∨ last < y then (0 : Int) else if badNo last r < 0 then -1 else badNo last r + 1) = _
    rw [if_neg (by omega), ih, if_neg (by omega)]
    omega
theorem badNo_none {last : Int} : ∀ {l : List Int}, (∀ t ∈ l, 1 ≤ t ∧ t ≤ last) → badNo last l = -1
  | [], _ => rfl
  | y :: r, h => by
    have hy := h y (List.mem_cons_self ..)
    show (if y < 1 ∨ last < y then (0 : Int) else if badNo last r < 0 then -1 else badNo last r + 1) = _
    rw [if_neg (by omega), badNo_none (fun t ht => h t (List.mem_cons_of_mem _ ht)), if_pos (by decide)]
theorem badNo_iff {last : Int} (l : List Int) : 0 ≤ badNo last l ↔ ∃ n ∈ l, n < 1 ∨ last < n := by
  constructor
  · intro h
    apply Classical.byContradiction
    intro hn
    rw [badNo_none (fun t ht => ⟨Int.not_lt.1 fun h => hn ⟨t, ht, Or.inl h⟩, Int.not_lt.1 fun h => hn ⟨t, ht, Or.inr h⟩⟩)] at h
    exact absurd h (by decide)
  · rintro ⟨n, hn, h⟩
    induction l with
    | nil => cases hn
    | cons y r ih =>
      show 0 ≤ (if y < 1 ∨ last < y then (0 : Int) else if badNo last r < 0 then -1 else badNo last r + 1)
      by_cases hy : y < 1 ∨ last < y
      · rw [if_pos hy]; exact Int.le_refl _
      · rw [if_neg hy]
        rcases List.mem_cons.1 hn with rfl | hn
        · exact absurd h hy
        · have := ih hn
          rw [if_neg (by omega)]
          omega
section
set_option maxHeartbeats 4000000
theorem addOne_any (w : World) (x : Int) (B Bx : Nat) (last : Int) (hx : w.cell? ⟨Bx, 0, none⟩ = some (.pointer (some ⟨B, 0, none⟩))) (hl : w.cell? ⟨B, 1, none⟩ = some (.int .i64 last)) :
    Calls Tryz.prog 276 #[.int .i64 x, .pointer (some ⟨Bx, 0, none⟩)] w fun e w' => e = .returned (.bool (decide (x < 1 ∨ last < x))) ∧ w = w' := by
  by_cases h1 : x < 1
  · have q1 : decide (x < 1) = true := decide_eq_true h1
    rw [decide_eq_true (Or.inl h1)]
    clear h1
    go_enter Tryz.func276, Tryz.ntmps276
    go_wp2
    go_ret
    exact ⟨rfl, rfl⟩
  · have q1 : decide (x < 1) = false := decide_eq_false h1
    by_cases h2 : last < x
    · have q2 : decide (x > last) = true := decide_eq_true h2
      rw [decide_eq_true (Or.inr h2)]
      clear h1
      go_enter Tryz.func276, Tryz.ntmps276
      go_wp2
      go_ret
      exact ⟨rfl, rfl⟩
    · have q2 : decide (x > last) = false := decide_eq_false h2
      rw [decide_eq_false (by omega)]
      clear h1
      go_enter Tryz.func276, Tryz.ntmps276
      go_wp2
      go_ret
      exact ⟨rfl, rfl⟩
set_option maxRecDepth 20000 in
theorem addIndex_any (w : World) (v : Value) (l : List Int) (B Bx : Nat) (last : Int) (hv : Ints w v l) (hx : w.cell? ⟨Bx, 0, none⟩ = some (.pointer (some ⟨B, 0, none⟩))) (hl : w.cell? ⟨B, 1, none⟩ = some (.int .i64 last)) :
    Calls Tryz.prog 199 #[v, .func (.func 276) #[] #[.pointer (some ⟨Bx, 0, none⟩)]] w fun e w' => e = .returned (.int .i64 (badNo last l)) ∧ w = w' := by
  obtain ⟨ad, n, cap, rfl, HN, hn2, HF⟩ := RowAt.facts (f := fun n : Int => [Value.int .i64 n]) hv
  have HS := Lib.hid (fun x : Int => addOne_any w x B Bx last hx hl)
  clear hv hx hl
  go_enter Tryz.func199, Tryz.ntmps199
  go_wp2
  go_loop [8] (fun i => ∃ k : Nat, k ≤ n ∧ i = .int .i64 k ∧ Hid (∀ t ∈ l.take k, 1 ≤ t ∧ t ≤ last)) (fun i => n - (intOf i).toNat)
  case atStart => exact ⟨0, Nat.zero_le _, rfl, Lib.hid (by simp)⟩
  case round =>
    obtain ⟨k, hk, rfl, HA⟩ := hrel
    by_cases hlt : k < n
    · obtain ⟨b, o, x, rfl, hb, hxx, hc⟩ := HF.out k hlt
      have hk0 : (k : Int) < (n : Int) := by omega
      have c0 := hc 0 _ rfl
      simp only [Nat.mul_one, Nat.add_zero] at c0
      have hcall := HS.out x
      by_cases h64 : x < 1 ∨ last < x
      · have HE := Lib.hid (badNo_first l k x HA.out hxx h64)
        rw [decide_eq_true h64] at hcall
        have HC := Lib.hid hcall
        clear hxx h64 hcall hc
        go_wp2_with fail
        refine HC.out.mono ?_
        rintro e w2 ⟨rfl, rfl⟩
        go_wp2
        go_ret
        exact ⟨ret_i HE.out.symm, rfl⟩
      · have HA2 : Hid (∀ t ∈ l.take (k + 1), 1 ≤ t ∧ t ≤ last) := by
          show ∀ t ∈ l.take (k + 1), 1 ≤ t ∧ t ≤ last
          rw [take_step hxx]
          intro t ht
          rcases List.mem_append.1 ht with ht | ht
          · exact HA.out t ht
          · rw [List.mem_singleton.1 ht]; omega
        rw [decide_eq_false h64] at hcall
        have HC := Lib.hid hcall
        clear hxx h64 hcall hc
        go_wp2_with fail
        refine HC.out.mono ?_
        rintro e w2 ⟨rfl, rfl⟩
        go_wp2
        go_round
        case rel => exact ⟨k + 1, by omega, by go_num, HA2⟩
        case measure => simp [intOf]; omega
    · have htk : l.take k = l := List.take_of_length_le (by have := HN.out; omega)
      have ha := HA.out
      rw [htk] at ha
      have HE := Lib.hid (badNo_none ha)
      clear ha htk
      go_wp2
      go_ret
      exact ⟨ret_i HE.out.symm, rfl⟩
theorem addContains_any (w : World) (v : Value) (l : List Int) (B Bx : Nat) (last : Int) (hv : Ints w v l) (hx : w.cell? ⟨Bx, 0, none⟩ = some (.pointer (some ⟨B, 0, none⟩))) (hl : w.cell? ⟨B, 1, none⟩ = some (.int .i64 last)) :
    Calls Tryz.prog 200 #[v, .func (.func 276) #[] #[.pointer (some ⟨Bx, 0, none⟩)]] w fun e w' => e = .returned (.bool (decide (∃ n ∈ l, n < 1 ∨ last < n))) ∧ w = w' := by
  have hi := addIndex_any w v l B Bx last hv hx hl
  have hb : decide (∃ n ∈ l, n < 1 ∨ last < n) = decide (0 ≤ badNo last l) := decide_eq_decide.2 (badNo_iff l).symm
  rw [hb]
  obtain ⟨c, hc⟩ : ∃ c, badNo last l = c := ⟨_, rfl⟩
  rw [hc] at hi ⊢
  have HI := Lib.hid hi
  clear hi hc hv hx hl hb
  go_enter Tryz.func200, Tryz.ntmps200
  go_wp2_with fail
  refine HI.out.mono ?_
  rintro e w1 ⟨rfl, rfl⟩
  go_wp2
  go_ret
  exact ⟨rfl, rfl⟩
end
end Go.Proofs.YtgofmnhfajmbfaaGreatDoor
