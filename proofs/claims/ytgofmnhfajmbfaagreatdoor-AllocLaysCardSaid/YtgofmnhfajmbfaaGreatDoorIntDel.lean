/-
  Rows of numbers that are written over, one by one; slices.DeleteFunc at ints. 
-/
import Derived.Test.YtgofmnhfajmbfaaGreatDoorRowSet
import Derived.Test.YtgofmnhfajmbfaaGreatDoorDepsReady
import Derived.Lib.SliceRun
namespace Go.Proofs.YtgofmnhfajmbfaaGreatDoor
open Go Go.RowKit Txt Sp

theorem intsG_length : ∀ l : List (Int), (l.flatMap intC).length = l.length * 1
  | [] => rfl
  | x :: r => by
    rw [List.flatMap_cons, List.length_append, intsG_length r, List.length_cons]
    show 1 + _ = _
    omega
theorem intsG_take : ∀ (l : List (Int)) (i : Nat), (l.flatMap intC).take (i * 1) = (l.take i).flatMap intC
  | [], i => by simp
  | x :: r, 0 => by simp
  | x :: r, i + 1 => by
    rw [List.flatMap_cons, List.take_succ_cons, List.flatMap_cons, ← intsG_take r i, show (i + 1) * 1 = (intC x).length + i * 1 by show _ = 1 + _; omega, List.take_length_add_append]
theorem intsG_drop : ∀ (l : List (Int)) (i : Nat), (l.flatMap intC).drop (i * 1) = (l.drop i).flatMap intC
  | [], i => by simp
  | x :: r, 0 => by simp
  | x :: r, i + 1 => by
    rw [List.flatMap_cons, List.drop_succ_cons, ← intsG_drop r i, show (i + 1) * 1 = (intC x).length + i * 1 by show _ = 1 + _; omega, List.drop_length_add_append]
/-- The block g holds the numbers R, and what comes behind them. -/
def IntG (w : World) (g cap : Nat) (R : List (Int)) : Prop := ∃ cur : Array Value, w.heap[g]? = some (.cells cur 3 (0, 0)) ∧ cur.size = cap * 1 ∧ R.length ≤ cap ∧ cur.toList.take (R.length * 1) = R.flatMap intC
section
variable {w w' : World} {g cap : Nat} {R : List (Int)}
theorem IntG.lt (h : IntG w g cap R) : g < w.heap.size := by
  obtain ⟨cur, h1, _⟩ := h
  exact (Array.getElem?_eq_some_iff.1 h1).1
theorem IntG.below (h : IntG w g cap R) (hb : Below w.heap.size w w') : IntG w' g cap R := by
  obtain ⟨cur, h1, h2⟩ := h
  exact ⟨cur, heapOld hb h1, h2⟩
theorem IntG.cell (h : IntG w g cap R) {j : Nat} {x : Int} (hx : R[j]? = some x) {m : Nat} {y : Value} (hy : (intC x)[m]? = some y) : w.cell? ⟨g, j * 1 + m, none⟩ = some y := by
  obtain ⟨cur, h1, h2, h3, h4⟩ := h
  have hj := (List.getElem?_eq_some_iff.1 hx).1
  have hm : m < 1 := (List.getElem?_eq_some_iff.1 hy).1
  refine cellOf h1 ?_
  have e1 : cur.toList[j * 1 + m]? = (R.flatMap intC)[j * 1 + m]? := by rw [← h4, List.getElem?_take_of_lt (by omega)]
  have e2 : (R.flatMap intC)[j * 1 + m]? = ((R.drop j).flatMap intC)[m]? := by rw [← intsG_drop, List.getElem?_drop]
  rw [← Array.getElem?_toList, e1, e2, List.drop_eq_getElem_cons hj, List.flatMap_cons, (List.getElem?_eq_some_iff.1 hx).2, List.getElem?_append_left hm]
  exact hy
theorem IntG.free (h : IntG w g cap R) (k : Nat) : w.frozen? ⟨g, k, none⟩ = false := by
  obtain ⟨cur, h1, _⟩ := h
  exact freeOf h1
theorem IntG.set (h : IntG w g cap R) {i : Nat} (hi : i < R.length) (x : Int) : IntG (sets w g (i * 1) (intC x)) g cap (R.set i x) := by
  obtain ⟨cur, h1, h2, h3, h4⟩ := h
  have h6 : (intC x).length = 1 := rfl
  have hcl : cur.toList.length = cap * 1 := by rw [Array.length_toList, h2]
  refine ⟨_, sets_heap (intC x) (i * 1) w cur h1 (by rw [h6]; omega), ?_, by rw [List.length_set]; exact h3, ?_⟩
  · rw [List.size_toArray, List.length_append, List.length_append, List.length_take, List.length_drop, hcl, h6]
    omega
  · rw [List.length_set, List.set_eq_take_append_cons_drop, if_pos hi, List.flatMap_append, List.flatMap_cons, ← intsG_take, ← intsG_drop, ← h4, List.append_assoc, List.take_append, List.take_append, h6]
    have e1 : (cur.toList.take (i * 1)).length = i * 1 := by rw [List.length_take, hcl]; omega
    rw [e1, List.take_take, List.take_take, List.take_of_length_le (l := intC x) (by rw [h6]; omega), List.drop_take, show min (R.length * 1) (i * 1) = i * 1 by omega, show min (i * 1) (R.length * 1) = i * 1 by omega, show (i + 1) * 1 = i * 1 + 1 by omega, show R.length * 1 - i * 1 - 1 = R.length * 1 - (i * 1 + 1) by omega]
theorem IntG.own (h : IntG w g cap R) {base : Nat} (hg : base ≤ g) (hc : cap ≤ maxLen) {i : Nat} (hi : i ≤ R.length) : OwnR 3 1 intC base w (.slice (some ⟨g, 0, none⟩) i cap) (R.take i) := by
  obtain ⟨cur, h1, h2, h3, h4⟩ := h
  have hl : (R.take i).length = i := by rw [List.length_take]; omega
  refine ⟨intsG_length _, Or.inr ⟨g, cap, cur, by rw [hl], hg, h1, by omega, hc, h2, ?_⟩⟩
  rw [hl, ← intsG_take, ← h4, List.take_take, show min (i * 1) (R.length * 1) = i * 1 by omega]
/-- What is behind is written over. -/
theorem IntG.tail (h : IntG w g cap R) {i : Nat} (hi : i ≤ R.length) {Z : List Value} (hZ : Z.length = (R.length - i) * 1) : IntG (sets w g (i * 1) Z) g cap (R.take i) := by
  obtain ⟨cur, h1, h2, h3, h4⟩ := h
  have hcl : cur.toList.length = cap * 1 := by rw [Array.length_toList, h2]
  have hl : (R.take i).length = i := by rw [List.length_take]; omega
  refine ⟨_, sets_heap Z (i * 1) w cur h1 (by rw [hZ]; omega), ?_, by omega, ?_⟩
  · rw [List.size_toArray, List.length_append, List.length_append, List.length_take, List.length_drop, hcl, hZ]
    omega
  · rw [hl, ← intsG_take, ← h4, List.append_assoc, List.take_append_of_le_length (by rw [List.length_take, hcl]; omega), List.take_take, List.take_take, show min (i * 1) (i * 1) = i * 1 by omega, show min (i * 1) (R.length * 1) = i * 1 by omega]
end
theorem OwnR.intG {w : World} {base : Nat} {v : Value} {l : List (Int)} (h : OwnR 3 1 intC base w v l) (h0 : l ≠ []) : ∃ g cap, v = .slice (some ⟨g, 0, none⟩) l.length cap ∧ base ≤ g ∧ cap ≤ maxLen ∧ IntG w g cap l := by
  obtain ⟨_, ⟨rfl, hn⟩ | ⟨g, cap, cur, rfl, hg, hh, h1, h2, h3, h4⟩⟩ := h
  · exact absurd (List.eq_nil_of_length_eq_zero hn) h0
  · exact ⟨g, cap, rfl, hg, h2, cur, hh, h3, h1, h4⟩
theorem clear_ints {w : World} {g cap n : Nat} {R : List Int} (h : IntG w g cap R) {i : Nat} (hn : n + i = R.length) (h0 : 0 < n) (ty : TypeId) (c : Nat) : ∃ Z : List Value, Z.length = (R.length - i) * 1 ∧
    (Builtin.clear_ #[58] ty #[.slice (some ⟨g, i * 1, none⟩) n c]).run Tryz.prog w = .ok (.tuple #[]) (sets w g (i * 1) Z) := by
  obtain ⟨cur, h1, h2, h3, h4⟩ := h
  refine ⟨List.replicate n (.int .i64 0), by rw [List.length_replicate]; omega, ?_⟩
  rw [← setCells_sets]
  exact Lib.run_clear_slice w _ _ ty (.int .i64 0) Tryz.underlying58 (fun w => by kernel_rfl) rfl rfl g (i * 1) n c h0 (fun j hj => by
    have : i * 1 + j < cur.size := by omega
    rw [cellOf (k := i * 1 + j) h1 (Array.getElem?_eq_getElem this)]
    rfl) (fun j _ => freeOf h1)
/-- What is left. -/
def leftI (p : Int → Bool) (ps : List (Int)) : List (Int) := ps.filter fun x => !p x
def DelRelI (p : Int → Bool) (ps : List (Int)) (w : World) (g cap : Nat) (a j : Nat) (wr : World) : Prop :=
  a < j ∧ ∃ R : List (Int), R.length = ps.length ∧ R.take a = leftI p (ps.take j) ∧ R.drop j = ps.drop j ∧ IntG wr g cap R ∧ Turn (fun k => k = g) w wr
def DelPostI (p : Int → Bool) (base : Nat) (v : Value) (ps : List (Int)) (w : World) (e : Ending) (w' : World) : Prop :=
  ∃ v', e = .returned v' ∧ OwnR 3 1 intC base w' v' (leftI p ps) ∧ (∀ k, v'.ownBlock = some k → v.ownBlock = some k) ∧ ∃ K, (∀ k, K k → v.ownBlock = some k) ∧ OfType 3 w K ∧ Turn K w w'
theorem leftI_none {p : Int → Bool} {ps : List (Int)} (h : ∀ x ∈ ps, p x = false) : leftI p ps = ps :=
  List.filter_eq_self.2 fun x hx => by rw [h x hx]; rfl
theorem leftI_snoc {p : Int → Bool} {ps : List (Int)} {j : Nat} {x : Int} (hx : ps[j]? = some x) : leftI p (ps.take (j + 1)) = leftI p (ps.take j) ++ (if p x = true then [] else [x]) := by
  unfold leftI
  rw [List.take_add_one, hx, Option.toList_some, List.filter_append]
  congr 1
  cases h : p x with
  | true => simp [h]
  | false => simp [h]
theorem DelRelI.skip {p : Int → Bool} {ps : List (Int)} {w wr : World} {g cap a j : Nat} (h : DelRelI p ps w g cap a j wr) {x : Int} (hx : ps[j]? = some x) (hs : p x = true) : DelRelI p ps w g cap a (j + 1) wr := by
  obtain ⟨h1, R, r1, r2, r3, r4⟩ := h
  refine ⟨by omega, R, r1, ?_, ?_, r4⟩
  · rw [r2, leftI_snoc hx, if_pos hs, List.append_nil]
  · rw [← List.tail_drop, r3, List.tail_drop]
theorem DelRelI.keep {p : Int → Bool} {ps : List (Int)} {w wr : World} {g cap a j : Nat} (h : DelRelI p ps w g cap a j wr) {x : Int} (hx : ps[j]? = some x) (hs : p x = false) : DelRelI p ps w g cap (a + 1) (j + 1) (sets wr g (a * 1) (intC x)) := by
  obtain ⟨h1, R, r1, r2, r3, r4, r5⟩ := h
  have hj := (List.getElem?_eq_some_iff.1 hx).1
  refine ⟨by omega, R.set a x, by rw [List.length_set, r1], ?_, ?_, r4.set (by omega) x, r5.trans (sets_turn _ _ _) (fun _ _ h => h) (fun _ _ h => h)⟩
  · rw [List.take_add_one, List.getElem?_set, if_pos rfl, if_pos (by omega), List.take_set_of_le (Nat.le_refl a), r2, leftI_snoc hx, if_neg (by rw [hs]; decide)]
    rfl
  · rw [List.drop_set_of_lt (by omega), ← List.tail_drop, r3, List.tail_drop]
theorem DelRelI.below {p : Int → Bool} {ps : List (Int)} {w wr w2 : World} {g cap a j : Nat} (h : DelRelI p ps w g cap a j wr) (hb : Below wr.heap.size wr w2) : DelRelI p ps w g cap a j w2 := by
  obtain ⟨h1, R, r1, r2, r3, r4, r5⟩ := h
  exact ⟨h1, R, r1, r2, r3, r4.below hb, r5.trans (Turn.of_below (K := fun _ => False) hb) (fun _ _ h => h) (fun _ _ h => h.elim)⟩
theorem DelRelI.cell {p : Int → Bool} {ps : List (Int)} {w wr : World} {g cap a j : Nat} (h : DelRelI p ps w g cap a j wr) {x : Int} (hx : ps[j]? = some x) {m : Nat} {y : Value} (hy : (intC x)[m]? = some y) : wr.cell? ⟨g, j * 1 + m, none⟩ = some y := by
  obtain ⟨h1, R, r1, r2, r3, r4, r5⟩ := h
  have e : R[j]? = some x := by
    have := congrArg List.head? r3
    rwa [List.head?_drop, List.head?_drop, hx] at this
  exact r4.cell e hy
/-- All are seen: what is behind is cleared. -/
theorem DelRelI.done {p : Int → Bool} {ps : List (Int)} {w wr : World} {base g cap a : Nat} {v : Value} (h : DelRelI p ps w g cap a ps.length wr) (hv : v.ownBlock = some g) (hg : base ≤ g) (hc : cap ≤ maxLen) (hty : OfType 3 w (fun k => k = g)) {Z : List Value} (hZ : Z.length = (ps.length - a) * 1) :
    DelPostI p base v ps w (.returned (.slice (some ⟨g, 0, none⟩) a cap)) (sets wr g (a * 1) Z) := by
  obtain ⟨h1, R, r1, r2, r3, r4, r5⟩ := h
  rw [List.take_length] at r2
  have ht := r4.tail (i := a) (by omega) (Z := Z) (by rw [hZ, r1])
  have ho := ht.own (base := base) hg hc (i := a) (by rw [List.length_take]; omega)
  rw [List.take_take, Nat.min_self, r2] at ho
  refine ⟨_, rfl, ho, fun k hk => ?_, fun k => k = g, fun k hk => by rw [hk]; exact hv, hty, r5.trans (sets_turn _ _ _) (fun _ _ h => h) (fun _ _ h => h)⟩
  rw [hv]
  exact hk
theorem DelRelI.row {p : Int → Bool} {ps : List (Int)} {w wr : World} {g cap a j : Nat} (h : DelRelI p ps w g cap a j wr) : ∃ R : List (Int), R.length = ps.length ∧ IntG wr g cap R ∧ a < j := by
  obtain ⟨h1, R, r1, r2, r3, r4, r5⟩ := h
  exact ⟨R, r1, r4, h1⟩
section
set_option maxHeartbeats 4000000
set_option maxRecDepth 20000 in
theorem sectIndex_any (w : World) (v : Value) (l : List Int) (bx : Nat) (p : Int → Bool) (hv : Ints w v l)
    (hs : ∀ W, Below w.heap.size w W → ∀ x ∈ l, Calls Tryz.prog 136 #[.int .i64 x, .pointer (some ⟨bx, 0, none⟩)] W fun e w' => e = .returned (.bool (p x)) ∧ Below W.heap.size W w') :
    Calls Tryz.prog 199 #[v, .func (.func 136) #[] #[.pointer (some ⟨bx, 0, none⟩)]] w fun e w' => e = .returned (.int .i64 (firstB p l)) ∧ Below w.heap.size w w' := by
  obtain ⟨ad, n, cap, rfl, HN, hn2, HF⟩ := RowAt.facts (f := fun n : Int => [Value.int .i64 n]) hv
  have HS := Lib.hid hs
  clear hv hs
  go_enter Tryz.func199, Tryz.ntmps199
  go_wp2
  go_loopw [8] (fun i wr => ∃ k : Nat, k ≤ n ∧ i = .int .i64 k ∧ Hid (∀ t ∈ l.take k, p t = false) ∧ Hid (Below w.heap.size w wr)) (fun i _ => n - (intOf i).toNat)
  case atStart => exact ⟨0, Nat.zero_le _, rfl, Lib.hid (by simp), Below.refl _ _⟩
  case round =>
    obtain ⟨k, hk, rfl, HA, HB⟩ := hrel
    by_cases hlt : k < n
    · obtain ⟨b, o, x, rfl, hb, hxx, hc⟩ := HF.out k hlt
      have hk0 : (k : Int) < (n : Int) := by omega
      have c0 := (HB.out.cell (p := ⟨b, o + k * 1 + 0, none⟩) hb).trans (hc 0 _ rfl)
      simp only [Nat.mul_one, Nat.add_zero] at c0
      have hcall := HS.out wr HB.out x (List.mem_of_getElem? hxx)
      cases h64 : p x with
      | true =>
        have HE := Lib.hid (firstB_at l k x HA.out hxx h64)
        rw [h64] at hcall
        have HC := Lib.hid hcall
        clear hxx h64 hcall hc hb
        go_wp2_with fail
        refine HC.out.mono ?_
        rintro e w2 ⟨rfl, hb2⟩
        have HB2 := Lib.hid (blN HB.out hb2)
        clear hb2
        go_wp2
        go_ret
        exact ⟨ret_i HE.out.symm, HB2.out⟩
      | false =>
        have HA2 : Hid (∀ t ∈ l.take (k + 1), p t = false) := by
          show ∀ t ∈ l.take (k + 1), p t = false
          rw [take_step hxx]
          intro t ht
          rcases List.mem_append.1 ht with ht | ht
          · exact HA.out t ht
          · rw [List.mem_singleton.1 ht]; exact h64
        rw [h64] at hcall
        have HC := Lib.hid hcall
        clear hxx h64 hcall hc hb
        go_wp2_with fail
        refine HC.out.mono ?_
        rintro e w2 ⟨rfl, hb2⟩
        have HB2 := Lib.hid (blN HB.out hb2)
        clear hb2
        go_wp2
        go_roundw
        case rel => exact ⟨k + 1, by omega, by go_num, HA2, HB2⟩
        case measure => simp [intOf]; omega
    · have htk : l.take k = l := List.take_of_length_le (by have := HN.out; omega)
      have ha := HA.out
      rw [htk] at ha
      have HE := Lib.hid (firstB_none ha)
      clear ha htk
      go_wp2
      go_ret
      exact ⟨ret_i HE.out.symm, HB.out⟩
set_option maxHeartbeats 4000000
set_option maxRecDepth 20000 in
theorem sectDelete_any {w : World} {base bx : Nat} {v : Value} {ps : List Int} (p : Int → Bool) (hv : OwnR 3 1 intC base w v ps)
    (hs : ∀ W, Turn (fun k => v.ownBlock = some k) w W → ∀ x, Calls Tryz.prog 136 #[.int .i64 x, .pointer (some ⟨bx, 0, none⟩)] W fun e w' => e = .returned (.bool (p x)) ∧ Below W.heap.size W w') :
    Calls Tryz.prog 135 #[v, .func (.func 136) #[] #[.pointer (some ⟨bx, 0, none⟩)]] w (DelPostI p base v ps w) := by
  have hi := sectIndex_any w v ps bx p (OwnR.row (f := intC) (fun _ _ => rfl) hv) (fun W hW x _ => hs W (Turn.of_below hW) x)
  by_cases hall : ∀ x ∈ ps, p x = false
  · rw [firstB_none hall] at hi
    have HI := Lib.hid hi
    have HF : Hid (∀ w1, Below w.heap.size w w1 → DelPostI p base v ps w (.returned v) w1) := fun w1 hb1 =>
      ⟨v, rfl, by rw [leftI_none hall]; exact hv.below hb1, fun _ h => h, fun _ => False, fun _ h => h.elim, fun _ h => h.elim, Turn.of_below hb1⟩
    clear hv hs hall hi
    go_enter Tryz.func135, Tryz.ntmps135
    go_wp2_with fail
    refine HI.out.mono ?_
    rintro e w1 ⟨rfl, hb1⟩
    have HD := Lib.hid (HF.out w1 hb1)
    clear hb1
    go_wp2
    refine bodyPost_ret (v := v) (by simp [results, Tryz.results135, go_sem]) rfl ?_
    exact HD.out
  · have hne : ps ≠ [] := fun e => hall (by rw [e]; intro x hx; cases hx)
    obtain ⟨g, cap, rfl, hg, hc, hr⟩ := hv.intG hne
    have hty : OfType 3 w (fun k => k = g) := by
      rintro k rfl
      obtain ⟨cur, h1, _⟩ := hr
      exact ⟨_, _, h1⟩
    obtain ⟨n, hn⟩ : ∃ n, ps.length = n := ⟨_, rfl⟩
    have hcn : n ≤ cap := by
      obtain ⟨cur, _, _, h3, _⟩ := hr
      omega
    have hc2 : cap ≤ 9223372036854775807 := hc
    obtain ⟨k0, x0, hk0, hx0, hbe⟩ : ∃ (k : Nat) (x : Int), ps[k]? = some x ∧ p x = true ∧ ∀ t ∈ ps.take k, p t = false := by
      have h0 : 0 ≤ firstB p ps := (firstB_iff ps).2 (by
        obtain ⟨x, hx⟩ := Classical.not_forall.1 hall
        obtain ⟨hx, hp⟩ := Classical.not_imp.1 hx
        exact List.any_eq_true.2 ⟨x, hx, by simpa using hp⟩)
      clear hi hs hv hr hn hne hall
      induction ps with
      | nil => exact absurd (show (0 : Int) ≤ -1 from h0) (by decide)
      | cons y r ih =>
        by_cases hy : p y = true
        · exact ⟨0, y, rfl, hy, by simp⟩
        · have h0 : 0 ≤ (if p y = true then (0 : Int) else if firstB p r < 0 then -1 else firstB p r + 1) := h0
          rw [if_neg hy] at h0
          have h1 : 0 ≤ firstB p r := by
            by_cases hh : firstB p r < 0
            · rw [if_pos hh] at h0; omega
            · omega
          obtain ⟨k, x, a1, a2, a3⟩ := ih h1
          refine ⟨k + 1, x, a1, a2, fun t ht => ?_⟩
          rw [List.take_succ_cons] at ht
          rcases List.mem_cons.1 ht with rfl | ht
          · simpa using hy
          · exact a3 t ht
    rw [firstB_at ps k0 x0 hbe hk0 hx0] at hi
    have hkn : k0 < n := by have := (List.getElem?_eq_some_iff.1 hk0).1; omega
    have HI := Lib.hid hi
    have HF : Hid (∀ w1, Below w.heap.size w w1 → DelRelI p ps w g cap k0 (k0 + 1) w1) := fun w1 hb1 => by
      refine ⟨by omega, ps, rfl, ?_, rfl, hr.below hb1, Turn.of_below hb1⟩
      rw [leftI_snoc hk0, if_pos hx0, List.append_nil, leftI_none hbe]
    have HS : Hid (∀ (a j : Nat) (wr : World), DelRelI p ps w g cap a j wr → ∀ x, Calls Tryz.prog 136 #[.int .i64 x, .pointer (some ⟨bx, 0, none⟩)] wr fun e w' => e = .returned (.bool (p x)) ∧ Below wr.heap.size wr w') := by
      rintro a j wr ⟨_, R, _, _, _, _, hT⟩ x
      exact hs wr (hT.mono (fun k _ h => by rw [h]; rfl)) x
    have HX : Hid (∀ j, j < n → ∃ x, ps[j]? = some x) := fun j hj => ⟨_, List.getElem?_eq_getElem (by omega)⟩
    have HDone : Hid (∀ (a : Nat) (wr : World) (Z : List Value), DelRelI p ps w g cap a n wr → Z.length = (n - a) * 1 → DelPostI p base (.slice (some ⟨g, 0, none⟩) ps.length cap) ps w (.returned (.slice (some ⟨g, 0, none⟩) a cap)) (sets wr g (a * 1) Z)) := by
      intro a wr Z h hZ
      rw [← hn] at h hZ
      exact h.done rfl hg hc hty hZ
    have HClr : Hid (∀ (a : Nat) (wr : World), DelRelI p ps w g cap a n wr → ∀ (ty : TypeId) (c : Nat), ∃ Z : List Value, Z.length = (n - a) * 1 ∧ (Builtin.clear_ #[58] ty #[.slice (some ⟨g, a, none⟩) (n - a) c]).run Tryz.prog wr = .ok (.tuple #[]) (sets wr g (a * 1) Z)) := by
      intro a wr h ty c
      obtain ⟨R, r1, r2, r3⟩ := h.row
      obtain ⟨Z, h1, h2⟩ := clear_ints r2 (i := a) (n := n - a) (by omega) (by omega) ty c
      rw [Nat.mul_one] at h2
      exact ⟨Z, by rw [h1, r1, hn], by rw [Nat.mul_one]; exact h2⟩
    rw [hn] at HI HDone ⊢
    clear hv hs hall hr hne hty hg hc hn hi hbe hk0 hx0
    go_enter Tryz.func135, Tryz.ntmps135
    go_wp2_with fail
    refine HI.out.mono ?_
    rintro e w1 ⟨rfl, hb1⟩
    have HD := Lib.hid (HF.out w1 hb1)
    clear hb1 HF
    have q1 : ((k0 : Int) == -1) = false := beq_eq_false_iff_ne.2 (by omega)
    go_wp2
    go_loopw [5, 6] (fun s5 s6 wr => ∃ a j : Nat, j ≤ n ∧ a < j ∧ s5 = .int .i64 (a : Int) ∧ s6 = .int .i64 (j : Int) ∧ Hid (DelRelI p ps w g cap a j wr)) (fun _ s6 _ => n - (intOf s6).toNat)
    case atStart => exact ⟨k0, k0 + 1, by omega, by omega, rfl, by go_num, HD⟩
    case round =>
      clear HD
      obtain ⟨a, j, hj, haj, rfl, rfl, HR⟩ := hrel
      by_cases hlt : j < n
      · obtain ⟨x, hx⟩ := HX.out j hlt
        have hcall := HS.out a j wr HR.out x
        have HSkip : Hid (∀ w2, Below wr.heap.size wr w2 → p x = true → DelRelI p ps w g cap a (j + 1) w2) := fun w2 h2 hs => (HR.out.below h2).skip hx hs
        have HKeep : Hid (∀ w2, Below wr.heap.size wr w2 → p x = false → DelRelI p ps w g cap (a + 1) (j + 1) (sets w2 g (a * 1) (intC x))) := fun w2 h2 hs => (HR.out.below h2).keep hx hs
        have HPut : Hid (∀ w2, Below wr.heap.size wr w2 → (∃ y, w2.cell? ⟨g, a, none⟩ = some y) ∧ ∀ k, w2.frozen? ⟨g, k, none⟩ = false) := fun w2 h2 => by
          obtain ⟨R, r1, r2, r3⟩ := (HR.out.below h2).row
          have ha : a < R.length := by have := (List.getElem?_eq_some_iff.1 hx).1; omega
          have := r2.cell (m := 0) (List.getElem?_eq_getElem ha) rfl
          rw [Nat.mul_one] at this
          exact ⟨⟨_, this⟩, r2.free⟩
        have c0 := HR.out.cell (m := 0) hx rfl
        simp only [Nat.add_zero, Nat.mul_one] at c0
        have k1 : (j : Int) < (n : Int) := by omega
        have k2 : (a : Int) < (n : Int) := by omega
        clear hx
        cases hs : p x with
        | true =>
          rw [hs] at hcall
          have HC := Lib.hid hcall
          have HSk := Lib.hid (fun w2 h2 => HSkip.out w2 h2 hs)
          clear hcall HSkip HKeep HPut hs
          go_wp2_with fail
          clear c0
          refine HC.out.mono ?_
          rintro e w2 ⟨rfl, hb2⟩
          have HR2 := Lib.hid (HSk.out w2 hb2)
          clear hb2
          go_wp2
          go_roundw
          case rel => exact ⟨a, j + 1, by omega, by omega, rfl, by go_num, HR2⟩
          case measure => simp [intOf]; omega
        | false =>
          rw [hs] at hcall
          have HC := Lib.hid hcall
          have HKp := Lib.hid (fun w2 h2 => HKeep.out w2 h2 hs)
          clear hcall HSkip HKeep hs
          go_wp2_with fail
          clear c0
          refine HC.out.mono ?_
          rintro e w2 ⟨rfl, hb2⟩
          have hk2 := HKp.out w2 hb2
          rw [Nat.mul_one] at hk2
          have HR2 := Lib.hid hk2
          obtain ⟨⟨u0, p0⟩, hfz⟩ := HPut.out w2 hb2
          clear hb2 hk2
          go_wp2
          go_roundw
          case rel => exact ⟨a + 1, j + 1, by omega, by omega, by go_num, by go_num, HR2⟩
          case measure => simp [intOf]; omega
      · obtain rfl : j = n := by omega
        obtain ⟨Z, hZ, hcl⟩ := HClr.out a wr HR.out 0 (cap - a)
        have HD2 := Lib.hid (HDone.out a wr Z HR.out hZ)
        have k1 : ¬ ((j : Int) < (j : Int)) := by omega
        clear HX HS HDone HClr hZ
        go_wp2
        refine bodyPost_ret (v := .slice (some ⟨g, 0, none⟩) a cap) (by simp [results, Tryz.results135, go_sem]) rfl ?_
        have := HD2.out
        rwa [Nat.mul_one] at this
end
end Go.Proofs.YtgofmnhfajmbfaaGreatDoor
