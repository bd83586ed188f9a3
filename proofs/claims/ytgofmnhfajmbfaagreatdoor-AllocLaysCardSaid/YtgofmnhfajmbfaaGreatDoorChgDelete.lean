/-
  Walks of slices.DeleteFunc at changes.
-/
import Derived.Test.YtgofmnhfajmbfaaGreatDoorDepsReady
import Derived.Test.YtgofmnhfajmbfaaGreatDoorDepsLost
import Derived.Test.YtgofmnhfajmbfaaGreatDoorRowSet
namespace Go.Proofs.YtgofmnhfajmbfaaGreatDoor
open Go Go.RowKit Txt Sp

/-- Was it sent, and is it of this sector? -/
def sentB (i : Int) (c : Chg) : Bool := decide (c.at_ = i) && decide (c.state = 2)
def chgV (x : Chg × Value) : Value := .agg #[.int .i64 x.1.num, .int .i64 x.1.at_, .int .i64 x.1.off, .string x.1.bytes, x.2, .int .i64 x.1.state]
set_option maxRecDepth 20000 in
theorem chgDone_any {w : World} (x : Chg × Value) (i : Int) (bx : Nat) (c1 : w.cell? ⟨bx, 0, none⟩ = some (.int .i64 i)) (hb : bx < w.heap.size) :
    Calls Tryz.prog 240 #[chgV x, .pointer (some ⟨bx, 0, none⟩)] w fun e w' => e = .returned (.bool (sentB i x.1)) ∧ Below w.heap.size w w' := by
  obtain ⟨⟨cn, ca, co, cb, cah, cs⟩, u⟩ := x
  unfold chgV sentB
  dsimp only
  obtain ⟨W, hW⟩ : ∃ W, w.alloc (.cells #[.int .i64 cn, .int .i64 ca, .int .i64 co, .string cb, u, .int .i64 cs] 209) = W := ⟨_, rfl⟩
  have hz := heapNew w (.cells #[.int .i64 cn, .int .i64 ca, .int .i64 co, .string cb, u, .int .i64 cs] 209)
  rw [hW] at hz
  have y1 : W.cell? ⟨w.heap.size, 1, none⟩ = some (.int .i64 ca) := cellOf (k := 1) hz rfl
  have y5 : W.cell? ⟨w.heap.size, 5, none⟩ = some (.int .i64 cs) := cellOf (k := 5) hz rfl
  have HB : Hid (Below w.heap.size w W) := by rw [← hW]; exact bl2 _
  have c2 : W.cell? ⟨bx, 0, none⟩ = some (.int .i64 i) := (HB.out.cell (p := ⟨bx, 0, none⟩) hb).trans c1
  clear hz c1
  go_enter Tryz.func240, Tryz.ntmps240
  by_cases h1 : ca = i
  · subst h1
    rw [decide_eq_true rfl, Bool.true_and]
    have q : (cs == 2) = decide (cs = 2) := rfl
    obtain ⟨b, hb2⟩ : ∃ b, decide (cs = 2) = b := ⟨_, rfl⟩
    rw [hb2] at q ⊢
    clear hb2 hb
    go_wp2
    go_ret
    exact ⟨rfl, HB.out⟩
  · rw [decide_eq_false h1, Bool.false_and]
    have q : (ca == i) = false := beq_eq_false_iff_ne.2 h1
    clear hb h1
    go_wp2
    go_ret
    exact ⟨rfl, HB.out⟩
/-- What the search tells. -/
def IndPost (i : Int) (ps : List (Chg × Value)) (w : World) (e : Ending) (w' : World) : Prop :=
  Below w.heap.size w w' ∧ ((e = .returned (.int .i64 (-1)) ∧ ∀ x ∈ ps, sentB i x.1 = false) ∨ ∃ (k : Nat) (x : Chg × Value), e = .returned (.int .i64 (k : Int)) ∧ ps[k]? = some x ∧ sentB i x.1 = true ∧ ∀ t ∈ ps.take k, sentB i t.1 = false)
set_option maxRecDepth 20000 in
theorem chgIndex_any {w : World} {base bx : Nat} {v : Value} {ps : List (Chg × Value)} (i : Int) (hv : OwnR 209 6 chgC base w v ps) (c1 : w.cell? ⟨bx, 0, none⟩ = some (.int .i64 i)) (hb : bx < w.heap.size) :
    Calls Tryz.prog 275 #[v, .func (.func 240) #[] #[.pointer (some ⟨bx, 0, none⟩)]] w (IndPost i ps w) := by
  obtain ⟨ad, n, cap, rfl, HN, hn2, HF⟩ := RowAt.facts (OwnR.row (f := chgC) (size := 6) (fun _ _ => rfl) hv)
  have hs := fun (W : World) (hW : Below w.heap.size w W) (x : Chg × Value) => chgDone_any x i bx ((hW.cell (p := ⟨bx, 0, none⟩) hb).trans c1) (Nat.lt_of_lt_of_le hb hW.size)
  unfold chgV at hs
  have HS := Lib.hid hs
  clear hv hs c1 hb
  go_enter Tryz.func275, Tryz.ntmps275
  go_wp2
  go_loopw [8] (fun q wr => ∃ k : Nat, k ≤ n ∧ q = .int .i64 k ∧ Hid (∀ t ∈ ps.take k, sentB i t.1 = false) ∧ Hid (Below w.heap.size w wr)) (fun q _ => n - (intOf q).toNat)
  case atStart => exact ⟨0, Nat.zero_le _, rfl, Lib.hid (by simp), Below.refl _ _⟩
  case round =>
    obtain ⟨k, hk, rfl, HA, HB⟩ := hrel
    by_cases hlt : k < n
    · obtain ⟨b, o, x, rfl, hb, hxx, hc⟩ := HF.out k hlt
      have hk0 : (k : Int) < (n : Int) := by omega
      obtain ⟨⟨cn, ca, co, cb, cah, cs⟩, u⟩ := x
      have cc := fun (m : Nat) (y : Value) (hy : (chgC (⟨cn, ca, co, cb, cah, cs⟩, u))[m]? = some y) => (HB.out.cell (p := ⟨b, o + k * 6 + m, none⟩) hb).trans (hc m y hy)
      have c0 := cc 0 _ rfl
      have c1 := cc 1 _ rfl
      have c2 := cc 2 _ rfl
      have c3 := cc 3 _ rfl
      have c4 := cc 4 _ rfl
      have c5 := cc 5 _ rfl
      simp only [Nat.add_zero] at c0
      have hcall := HS.out wr HB.out (⟨cn, ca, co, cb, cah, cs⟩, u)
      dsimp only at hcall
      clear cc
      cases h64 : sentB i ⟨cn, ca, co, cb, cah, cs⟩ with
      | true =>
        have HE : Hid (∀ w', Below w.heap.size w w' → IndPost i ps w (.returned (.int .i64 (k : Int))) w') := fun w' hw => ⟨hw, Or.inr ⟨k, _, rfl, hxx, h64, HA.out⟩⟩
        rw [h64] at hcall
        have HC := Lib.hid hcall
        clear hxx h64 hcall hc hb
        go_wp2_with fail
        refine HC.out.mono ?_
        rintro e w2 ⟨rfl, hb2⟩
        have HB2 := Lib.hid (blN HB.out hb2)
        clear hb2
        go_wp2
        refine bodyPost_ret (v := .int .i64 (k : Int)) (by simp [results, Tryz.results275, go_sem]) rfl ?_
        exact HE.out _ HB2.out
      | false =>
        have HA2 : Hid (∀ t ∈ ps.take (k + 1), sentB i t.1 = false) := by
          show ∀ t ∈ ps.take (k + 1), sentB i t.1 = false
          rw [take_step hxx]
          intro t ht
          rcases List.mem_append.1 ht with ht | ht
          · exact HA.out t ht
          · rw [List.mem_singleton.1 ht]; exact h64
        rw [h64] at hcall
        have HC := Lib.hid hcall
        clear hxx h64 hcall hc hb
        go_wp2_with fail
        refine HC.out.mono ?_
        rintro e w2 ⟨rfl, hb2⟩
        have HB2 := Lib.hid (blN HB.out hb2)
        clear hb2
        go_wp2
        go_roundw
        case rel => exact ⟨k + 1, by omega, by go_num, HA2, HB2⟩
        case measure => simp [intOf]; omega
    · have htk : ps.take k = ps := List.take_of_length_le (by have := HN.out; omega)
      have ha := HA.out
      rw [htk] at ha
      have HE : Hid (∀ w', Below w.heap.size w w' → IndPost i ps w (.returned (.int .i64 (-1))) w') := fun w' hw => ⟨hw, Or.inl ⟨rfl, ha⟩⟩
      clear ha htk
      go_wp2
      refine bodyPost_ret (v := .int .i64 (-1)) (by simp [results, Tryz.results275, go_sem]) rfl ?_
      exact HE.out _ HB.out
theorem clear_chgs {w : World} {g cap n : Nat} {R : List (Chg × Value)} (h : RowG w g cap R) {i : Nat} (hn : n + i = R.length) (h0 : 0 < n) (ty : TypeId) (c : Nat) : ∃ Z : List Value, Z.length = (R.length - i) * 6 ∧
    (Builtin.clear_ #[205] ty #[.slice (some ⟨g, i * 6, none⟩) n c]).run Tryz.prog w = .ok (.tuple #[]) (sets w g (i * 6) Z) := by
  obtain ⟨cur, h1, h2, h3, h4⟩ := h
  obtain ⟨Z, hZ⟩ : ∃ Z, (Builtin.zeroCells (Value.agg #[.int .i64 0, .int .i64 0, .int .i64 0, .string ⟨#[]⟩, .slice none 0 0, .int .i64 0]).cells n).toList = Z := ⟨_, rfl⟩
  have hl : Z.length = n * 6 := by
    rw [← hZ]
    simp [Builtin.zeroCells, Value.cells]
  have h1c : ∀ v ∈ Z, v.oneCell' = true := by
    rw [← hZ]
    intro v hv
    simp only [Builtin.zeroCells, Value.cells, Array.toList_map, List.mem_map] at hv
    obtain ⟨q, -, rfl⟩ := hv
    have : ∀ r, r < 6 → ((#[.int .i64 0, .int .i64 0, .int .i64 0, .string ⟨#[]⟩, .slice none 0 0, .int .i64 0] : Array Value)[r]!).oneCell' = true := by
      intro r hr
      match r, hr with
      | 0, _ => rfl
      | 1, _ => rfl
      | 2, _ => rfl
      | 3, _ => rfl
      | 4, _ => rfl
      | 5, _ => rfl
    exact this _ (Nat.mod_lt _ (by decide))
  refine ⟨Z, by rw [hl]; congr 1; omega, ?_⟩
  have hst := run_storeCells_cells (P := Tryz.prog) g (i * 6) Z 0 w (fun j hj => by
    have : i * 6 + 0 + j < cur.size := by omega
    rw [cellOf (k := i * 6 + 0 + j) h1 (Array.getElem?_eq_getElem this)]
    rfl) (fun j _ => freeOf h1) h1c
  simp only [Nat.add_zero] at hst
  rw [setCells_sets] at hst
  obtain ⟨m, rfl⟩ : ∃ m, n = m + 1 := ⟨n - 1, by omega⟩
  simp [Builtin.clear_, run_underlying Tryz.underlying205, hZ, hst]
/-- What is left. -/
def leftP (i : Int) (ps : List (Chg × Value)) : List (Chg × Value) := ps.filter fun x => !sentB i x.1
def DelRel (i : Int) (ps : List (Chg × Value)) (w : World) (g cap : Nat) (a j : Nat) (wr : World) : Prop :=
  a < j ∧ ∃ R : List (Chg × Value), R.length = ps.length ∧ R.take a = leftP i (ps.take j) ∧ R.drop j = ps.drop j ∧ RowG wr g cap R ∧ Turn (fun k => k = g) w wr
def DelPost (i : Int) (base : Nat) (v : Value) (ps : List (Chg × Value)) (w : World) (e : Ending) (w' : World) : Prop :=
  ∃ v', e = .returned v' ∧ OwnR 209 6 chgC base w' v' (leftP i ps) ∧ (∀ k, v'.ownBlock = some k → v.ownBlock = some k) ∧ ∃ K, (∀ k, K k → v.ownBlock = some k) ∧ OfType 209 w K ∧ Turn K w w'
theorem leftP_none {i : Int} {ps : List (Chg × Value)} (h : ∀ x ∈ ps, sentB i x.1 = false) : leftP i ps = ps :=
  List.filter_eq_self.2 fun x hx => by rw [h x hx]; rfl
theorem leftP_snoc {i : Int} {ps : List (Chg × Value)} {j : Nat} {x : Chg × Value} (hx : ps[j]? = some x) : leftP i (ps.take (j + 1)) = leftP i (ps.take j) ++ (if sentB i x.1 = true then [] else [x]) := by
  unfold leftP
  rw [List.take_add_one, hx, Option.toList_some, List.filter_append]
  congr 1
  cases h : sentB i x.1 with
  | true => simp [h]
  | false => simp [h]
theorem DelRel.skip {i : Int} {ps : List (Chg × Value)} {w wr : World} {g cap a j : Nat} (h : DelRel i ps w g cap a j wr) {x : Chg × Value} (hx : ps[j]? = some x) (hs : sentB i x.1 = true) : DelRel i ps w g cap a (j + 1) wr := by
  obtain ⟨h1, R, r1, r2, r3, r4⟩ := h
  refine ⟨by omega, R, r1, ?_, ?_, r4⟩
  · rw [r2, leftP_snoc hx, if_pos hs, List.append_nil]
  · rw [← List.tail_drop, r3, List.tail_drop]
theorem DelRel.keep {i : Int} {ps : List (Chg × Value)} {w wr : World} {g cap a j : Nat} (h : DelRel i ps w g cap a j wr) {x : Chg × Value} (hx : ps[j]? = some x) (hs : sentB i x.1 = false) : DelRel i ps w g cap (a + 1) (j + 1) (sets wr g (a * 6) (chgC x)) := by
  obtain ⟨h1, R, r1, r2, r3, r4, r5⟩ := h
  have hj := (List.getElem?_eq_some_iff.1 hx).1
  refine ⟨by omega, R.set a x, by rw [List.length_set, r1], ?_, ?_, r4.set (by omega) x, r5.trans (sets_turn _ _ _) (fun _ _ h => h) (fun _ _ h => h)⟩
  · rw [List.take_add_one, List.getElem?_set, if_pos rfl, if_pos (by omega), List.take_set_of_le (Nat.le_refl a), r2, leftP_snoc hx, if_neg (by rw [hs]; decide)]
    rfl
  · rw [List.drop_set_of_lt (by omega), ← List.tail_drop, r3, List.tail_drop]
theorem DelRel.below {i : Int} {ps : List (Chg × Value)} {w wr w2 : World} {g cap a j : Nat} (h : DelRel i ps w g cap a j wr) (hb : Below wr.heap.size wr w2) : DelRel i ps w g cap a j w2 := by
  obtain ⟨h1, R, r1, r2, r3, r4, r5⟩ := h
  exact ⟨h1, R, r1, r2, r3, r4.below hb, r5.trans (Turn.of_below (K := fun _ => False) hb) (fun _ _ h => h) (fun _ _ h => h.elim)⟩
theorem DelRel.cell {i : Int} {ps : List (Chg × Value)} {w wr : World} {g cap a j : Nat} (h : DelRel i ps w g cap a j wr) {x : Chg × Value} (hx : ps[j]? = some x) {m : Nat} {y : Value} (hy : (chgC x)[m]? = some y) : wr.cell? ⟨g, j * 6 + m, none⟩ = some y := by
  obtain ⟨h1, R, r1, r2, r3, r4, r5⟩ := h
  have e : R[j]? = some x := by
    have := congrArg List.head? r3
    rwa [List.head?_drop, List.head?_drop, hx] at this
  exact r4.cell e hy
/-- All are seen: what is behind is cleared. -/
theorem DelRel.done {i : Int} {ps : List (Chg × Value)} {w wr : World} {base g cap a : Nat} {v : Value} (h : DelRel i ps w g cap a ps.length wr) (hv : v.ownBlock = some g) (hg : base ≤ g) (hc : cap ≤ maxLen) (hty : OfType 209 w (fun k => k = g)) {Z : List Value} (hZ : Z.length = (ps.length - a) * 6) :
    DelPost i base v ps w (.returned (.slice (some ⟨g, 0, none⟩) a cap)) (sets wr g (a * 6) Z) := by
  obtain ⟨h1, R, r1, r2, r3, r4, r5⟩ := h
  rw [List.take_length] at r2
  have ht := r4.tail (i := a) (by omega) (Z := Z) (by rw [hZ, r1])
  have ho := ht.own (base := base) hg hc (i := a) (by rw [List.length_take]; omega)
  rw [List.take_take, Nat.min_self, r2] at ho
  refine ⟨_, rfl, ho, fun k hk => ?_, fun k => k = g, fun k hk => by rw [hk]; exact hv, hty, r5.trans (sets_turn _ _ _) (fun _ _ h => h) (fun _ _ h => h)⟩
  rw [hv]
  exact hk
theorem DelRel.row {i : Int} {ps : List (Chg × Value)} {w wr : World} {g cap a j : Nat} (h : DelRel i ps w g cap a j wr) : ∃ R : List (Chg × Value), R.length = ps.length ∧ RowG wr g cap R ∧ a < j := by
  obtain ⟨h1, R, r1, r2, r3, r4, r5⟩ := h
  exact ⟨R, r1, r4, h1⟩
section
set_option maxHeartbeats 4000000
set_option maxRecDepth 20000 in
theorem chgDelete_any {w : World} {base bx : Nat} {v : Value} {ps : List (Chg × Value)} (i : Int) (hv : OwnR 209 6 chgC base w v ps) (hsl : ∀ x ∈ ps, ∃ ad m c, x.2 = .slice ad m c) (hbx : w.heap[bx]? = some (.cells #[.int .i64 i] 3 (0, 0))) :
    Calls Tryz.prog 239 #[v, .func (.func 240) #[] #[.pointer (some ⟨bx, 0, none⟩)]] w (DelPost i base v ps w) := by
  have hi := chgIndex_any i hv (cellOf (k := 0) hbx rfl) (Array.getElem?_eq_some_iff.1 hbx).1
  obtain ⟨pr, hpr⟩ : ∃ z, IndPost i ps w = z := ⟨_, rfl⟩
  rw [hpr] at hi
  have HI := Lib.hid hi
  clear hi
  by_cases hall : ∀ x ∈ ps, sentB i x.1 = false
  · have HF : Hid (∀ e w1, pr e w1 → e = .returned (.int .i64 (-1)) ∧ DelPost i base v ps w (.returned v) w1) := by
      rw [← hpr]
      rintro e w1 ⟨hb1, ⟨rfl, -⟩ | ⟨k, x, rfl, hk, hx, -⟩⟩
      · exact ⟨rfl, v, rfl, by rw [leftP_none hall]; exact hv.below hb1, fun _ h => h, fun _ => False, fun _ h => h.elim, fun _ h => h.elim, Turn.of_below hb1⟩
      · exact absurd (hall x (List.mem_of_getElem? hk)) (by rw [hx]; decide)
    clear hv hbx hpr hall hsl
    go_enter Tryz.func239, Tryz.ntmps239
    go_wp2_with fail
    refine HI.out.mono ?_
    intro e w1 hp
    obtain ⟨rfl, hd⟩ := HF.out e w1 hp
    have HD := Lib.hid hd
    clear hp hd
    go_wp2
    refine bodyPost_ret (v := v) (by simp [results, Tryz.results239, go_sem]) rfl ?_
    exact HD.out
  · have hne : ps ≠ [] := fun e => hall (by rw [e]; intro x hx; cases hx)
    obtain ⟨g, cap, rfl, hg, hc, hr⟩ := hv.rowG hne
    have hty : OfType 209 w (fun k => k = g) := by
      rintro k rfl
      obtain ⟨cur, h1, _⟩ := hr
      exact ⟨_, _, h1⟩
    have hgb : bx ≠ g := fun e => (hty.not hbx (by decide)) e
    have hbw := (Array.getElem?_eq_some_iff.1 hbx).1
    obtain ⟨n, hn⟩ : ∃ n, ps.length = n := ⟨_, rfl⟩
    have hcn : n ≤ cap := by
      obtain ⟨cur, _, _, h3, _⟩ := hr
      omega
    have hc2 : cap ≤ 9223372036854775807 := hc
    have HF : Hid (∀ e w1, pr e w1 → ∃ k : Nat, k < n ∧ e = .returned (.int .i64 (k : Int)) ∧ DelRel i ps w g cap k (k + 1) w1) := by
      rw [← hpr]
      rintro e w1 ⟨hb1, ⟨rfl, hno⟩ | ⟨k, x, rfl, hk, hx, hbe⟩⟩
      · exact absurd hno hall
      · have hkl := (List.getElem?_eq_some_iff.1 hk).1
        refine ⟨k, by omega, rfl, by omega, ps, rfl, ?_, rfl, hr.below hb1, Turn.of_below hb1⟩
        rw [leftP_snoc hk, if_pos hx, List.append_nil, leftP_none hbe]
    have HS : Hid (∀ (a j : Nat) (wr W : World), DelRel i ps w g cap a j wr → Below wr.heap.size wr W → ∀ x : Chg × Value, Calls Tryz.prog 240 #[chgV x, .pointer (some ⟨bx, 0, none⟩)] W fun e w' => e = .returned (.bool (sentB i x.1)) ∧ Below W.heap.size W w') := by
      rintro a j wr W ⟨_, R, _, _, _, _, hT⟩ hW x
      have hx := heapOld hW (hT.heap hbx hgb)
      exact chgDone_any x i bx (cellOf (k := 0) hx rfl) (Array.getElem?_eq_some_iff.1 hx).1
    have HX : Hid (∀ j, j < n → ∃ x, ps[j]? = some x ∧ ∃ ad m c, x.2 = .slice ad m c) := fun j hj => ⟨_, List.getElem?_eq_getElem (by omega), hsl _ (List.getElem_mem (by omega))⟩
    have HDone : Hid (∀ (a : Nat) (wr : World) (Z : List Value), DelRel i ps w g cap a n wr → Z.length = (n - a) * 6 → DelPost i base (.slice (some ⟨g, 0, none⟩) ps.length cap) ps w (.returned (.slice (some ⟨g, 0, none⟩) a cap)) (sets wr g (a * 6) Z)) := by
      intro a wr Z h hZ
      rw [← hn] at h hZ
      exact h.done rfl hg hc hty hZ
    have HClr : Hid (∀ (a : Nat) (wr : World), DelRel i ps w g cap a n wr → ∀ (ty : TypeId) (c : Nat), ∃ Z : List Value, Z.length = (n - a) * 6 ∧ (Builtin.clear_ #[205] ty #[.slice (some ⟨g, a * 6, none⟩) (n - a) c]).run Tryz.prog wr = .ok (.tuple #[]) (sets wr g (a * 6) Z)) := by
      intro a wr h ty c
      obtain ⟨R, r1, r2, r3⟩ := h.row
      obtain ⟨Z, h1, h2⟩ := clear_chgs r2 (i := a) (n := n - a) (by omega) (by omega) ty c
      exact ⟨Z, by rw [h1, r1, hn], h2⟩
    rw [hn] at HI HDone ⊢
    clear hv hbx hpr hall hsl hr hne hty hgb hg hc hn
    go_enter Tryz.func239, Tryz.ntmps239
    go_wp2_with fail
    refine HI.out.mono ?_
    intro e w1 hp
    obtain ⟨k0, hk0, rfl, hd⟩ := HF.out e w1 hp
    have HD := Lib.hid hd
    clear hp hd HF
    have q1 : ((k0 : Int) == -1) = false := beq_eq_false_iff_ne.2 (by omega)
    go_wp2
    go_loopw [5, 6] (fun s5 s6 wr => ∃ a j : Nat, j ≤ n ∧ a < j ∧ s5 = .int .i64 (a : Int) ∧ s6 = .int .i64 (j : Int) ∧ Hid (DelRel i ps w g cap a j wr)) (fun _ s6 _ => n - (intOf s6).toNat)
    case atStart => exact ⟨k0, k0 + 1, by omega, by omega, rfl, by go_num, HD⟩
    case round =>
      clear HD
      obtain ⟨a, j, hj, haj, rfl, rfl, HR⟩ := hrel
      by_cases hlt : j < n
      · obtain ⟨x, hx, ua, un, uc, hu⟩ := HX.out j hlt
        obtain ⟨W, hW⟩ : ∃ W, wr.alloc (.cells (chgC x).toArray 209) = W := ⟨_, rfl⟩
        have hz := heapNew wr (.cells (chgC x).toArray 209)
        rw [hW] at hz
        have hbW : Below wr.heap.size wr W := by rw [← hW]; exact bl2 _
        have hcall := HS.out a j wr W HR.out hbW x
        have HSkip : Hid (∀ w2, Below W.heap.size W w2 → sentB i x.1 = true → DelRel i ps w g cap a (j + 1) w2) := fun w2 h2 hs => (HR.out.below (blN hbW h2)).skip hx hs
        have HKeep : Hid (∀ w2, Below W.heap.size W w2 → sentB i x.1 = false → DelRel i ps w g cap (a + 1) (j + 1) (sets w2 g (a * 6) (chgC x))) := fun w2 h2 hs => (HR.out.below (blN hbW h2)).keep hx hs
        have HPut : Hid (∀ w2, Below W.heap.size W w2 → (∀ m, m < 6 → ∃ y, w2.cell? ⟨g, a * 6 + m, none⟩ = some y) ∧ ∀ k, w2.frozen? ⟨g, k, none⟩ = false) := fun w2 h2 => by
          obtain ⟨R, r1, r2, r3⟩ := (HR.out.below (blN hbW h2)).row
          have ha : a < R.length := by have := (List.getElem?_eq_some_iff.1 hx).1; omega
          exact ⟨fun m hm => ⟨_, r2.cell (List.getElem?_eq_getElem ha) (List.getElem?_eq_getElem (show m < (chgC R[a]).length from hm))⟩, r2.free⟩
        have HNew : Hid (∀ w2, Below W.heap.size W w2 → ∀ m y, (chgC x)[m]? = some y → w2.cell? ⟨wr.heap.size, m, none⟩ = some y) := fun w2 h2 m y hy => cellOf (heapOld h2 hz) (by simpa using hy)
        have cc := fun (m : Nat) (y : Value) (hy : (chgC x)[m]? = some y) => HR.out.cell hx hy
        obtain ⟨⟨cn, ca, co, cb, cah, cs⟩, u⟩ := x
        cases hu
        have c0 := cc 0 _ rfl
        have c1 := cc 1 _ rfl
        have c2 := cc 2 _ rfl
        have c3 := cc 3 _ rfl
        have c4 := cc 4 _ rfl
        have c5 := cc 5 _ rfl
        simp only [Nat.add_zero] at c0
        have y0 := HNew.out W (Below.refl _ _) 0 _ rfl
        have y1 := HNew.out W (Below.refl _ _) 1 _ rfl
        have y2 := HNew.out W (Below.refl _ _) 2 _ rfl
        have y3 := HNew.out W (Below.refl _ _) 3 _ rfl
        have y4 := HNew.out W (Below.refl _ _) 4 _ rfl
        have y5 := HNew.out W (Below.refl _ _) 5 _ rfl
        unfold chgC at hW
        unfold chgV at hcall
        dsimp only at hcall hW
        have k1 : (j : Int) < (n : Int) := by omega
        have k2 : (a : Int) < (n : Int) := by omega
        clear cc hx hz hbW
        cases hs : sentB i ⟨cn, ca, co, cb, cah, cs⟩ with
        | true =>
          rw [hs] at hcall
          have HC := Lib.hid hcall
          have HSk := Lib.hid (fun w2 h2 => HSkip.out w2 h2 hs)
          clear hcall HSkip HKeep HPut hs
          go_wp2_with fail
          clear c0 c1 c2 c3 c4 c5 y0 y1 y2 y3 y4 y5 hW
          refine HC.out.mono ?_
          rintro e w2 ⟨rfl, hb2⟩
          have HR2 := Lib.hid (HSk.out w2 hb2)
          clear hb2
          go_wp2
          go_roundw
          case rel => exact ⟨a, j + 1, by omega, by omega, rfl, by go_num, HR2⟩
          case measure => simp [intOf]; omega
        | false =>
          rw [hs] at hcall
          have HC := Lib.hid hcall
          have HKp := Lib.hid (fun w2 h2 => HKeep.out w2 h2 hs)
          clear hcall HSkip HKeep hs
          go_wp2_with fail
          clear c0 c1 c2 c3 c4 c5 y0 y1 y2 y3 y4 y5 hW
          refine HC.out.mono ?_
          rintro e w2 ⟨rfl, hb2⟩
          have HR2 := Lib.hid (HKp.out w2 hb2)
          have y0 := HNew.out w2 hb2 0 _ rfl
          have y1 := HNew.out w2 hb2 1 _ rfl
          have y2 := HNew.out w2 hb2 2 _ rfl
          have y3 := HNew.out w2 hb2 3 _ rfl
          have y4 := HNew.out w2 hb2 4 _ rfl
          have y5 := HNew.out w2 hb2 5 _ rfl
          obtain ⟨hp, hfz⟩ := HPut.out w2 hb2
          obtain ⟨u0, p0⟩ := hp 0 (by decide)
          obtain ⟨u1, p1⟩ := hp 1 (by decide)
          obtain ⟨u2, p2⟩ := hp 2 (by decide)
          obtain ⟨u3, p3⟩ := hp 3 (by decide)
          obtain ⟨u4, p4⟩ := hp 4 (by decide)
          obtain ⟨u5, p5⟩ := hp 5 (by decide)
          simp only [Nat.add_zero] at p0
          clear hb2 hp
          go_wp2
          go_roundw
          case rel => exact ⟨a + 1, j + 1, by omega, by omega, by go_num, by go_num, HR2⟩
          case measure => simp [intOf]; omega
      · obtain rfl : j = n := by omega
        obtain ⟨Z, hZ, hcl⟩ := HClr.out a wr HR.out 0 (cap - a)
        have HD2 := Lib.hid (HDone.out a wr Z HR.out hZ)
        have k1 : ¬ ((j : Int) < (j : Int)) := by omega
        clear HX HS HDone HClr hZ
        go_wp2
        refine bodyPost_ret (v := .slice (some ⟨g, 0, none⟩) a cap) (by simp [results, Tryz.results239, go_sem]) rfl ?_
        exact HD2.out
end
end Go.Proofs.YtgofmnhfajmbfaaGreatDoor
