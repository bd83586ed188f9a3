/-
  Walks of layer 12: ready.
-/
import Derived.Test.YtgofmnhfajmbfaaGreatDoorDepC
import Derived.Test.YtgofmnhfajmbfaaGreatDoorRefNode
import Derived.Test.YtgofmnhfajmbfaaGreatDoorSpJ
namespace Go.Proofs.YtgofmnhfajmbfaaGreatDoor
open Go Go.RowKit Txt Sp

def waitsB (d : Sp.Deps) (acc : List Int) (x : Int) : Bool := decide (stateOf d x ≠ 0 ∧ x ∉ acc)
section
set_option maxHeartbeats 4000000
set_option maxRecDepth 20000 in
theorem readyOne_any {w : World} {base B : Nat} {d : Sp.Deps} {D : Nat → Prop} (h : DepsAt w base B d D) (hok : d.Ok) {b1 b2 m : Nat} (c1 : w.cell? ⟨b1, 0, none⟩ = some (.pointer (some ⟨B, 0, none⟩))) (c2 : w.heap[b2]? = some (.cells #[.map (some m)] 138 (0, 0))) {acc : List Int} (hm : IM.MapAt truV w m (truE acc)) (x : Int) (hx : 0 ≤ x ∧ x ≤ 4611686018427387904) :
    Calls Tryz.prog 201 #[.int .i64 x, .pointer (some ⟨b1, 0, none⟩), .pointer (some ⟨b2, 0, none⟩)] w fun e w' => e = .returned (.bool (waitsB d acc x)) ∧ Below w.heap.size w w' := by
  have his := depsIs_any h hok x hx
  have hlk := fun (W : World) (hW : Below w.heap.size w W) => And.intro (cellOf (k := 0) (heapOld hW c2) rfl) (tru_lookup (hm.old (hW.block m hm.lt)) x)
  unfold pt at his
  unfold waitsB
  obtain ⟨st, hst⟩ : ∃ z, stateOf d x = z := ⟨_, rfl⟩
  rw [hst] at his ⊢
  have HIS := Lib.hid his
  have HLK := Lib.hid hlk
  clear his hlk
  clear hm h hok hx hst
  by_cases h0 : st = 0
  · subst h0
    rw [decide_eq_false (fun hh => hh.1 rfl)]
    go_enter Tryz.func201, Tryz.ntmps201
    go_wp2_with fail
    refine HIS.out.mono ?_
    rintro e w2 ⟨rfl, hb2⟩
    have HB2 := Lib.hid hb2
    clear hb2
    go_wp2
    go_ret
    exact ⟨rfl, HB2.out⟩
  · have q0 : (st != 0) = true := by simp [h0]
    have HQ : Hid ((!decide (x ∈ acc)) = decide (st ≠ 0 ∧ x ∉ acc)) := by
      by_cases hx : x ∈ acc
      · rw [decide_eq_true hx, decide_eq_false (fun hh => hh.2 hx)]; rfl
      · rw [decide_eq_false hx, decide_eq_true ⟨h0, hx⟩]; rfl
    rw [← HQ.out]
    obtain ⟨q, hq⟩ : ∃ q, decide (x ∈ acc) = q := ⟨_, rfl⟩
    have HLQ := Lib.hid (fun (W : World) (hW : Below w.heap.size w W) => (by have h := HLK.out W hW; rw [hq] at h; exact h : W.cell? ⟨b2, 0, none⟩ = some (.map (some m)) ∧ (Instr.lookup 138 (.map (some m)) (.int .i64 x) false).run Tryz.prog W = .ok (.bool q) W))
    rw [hq]
    clear HLK HQ h0 hq
    go_enter Tryz.func201, Tryz.ntmps201
    go_wp2_with fail
    refine HIS.out.mono ?_
    rintro e w2 ⟨rfl, hb2⟩
    obtain ⟨y0, y1⟩ := HLQ.out w2 hb2
    have HB2 := Lib.hid hb2
    clear hb2
    cases q with
    | true =>
      go_wp2
      go_ret
      exact ⟨rfl, HB2.out⟩
    | false =>
      go_wp2
      go_ret
      exact ⟨rfl, HB2.out⟩
/-- The place of the first number of which p holds; below 0: there is none. -/
def firstB (p : Int → Bool) : List Int → Int
  | [] => -1
  | x :: r => if p x = true then 0 else if firstB p r < 0 then -1 else firstB p r + 1
theorem firstB_at {p : Int → Bool} : ∀ (l : List Int) (k : Nat) (x : Int), (∀ t ∈ l.take k, p t = false) → l[k]? = some x → p x = true → firstB p l = (k : Int)
  | [], k, x, _, h, _ => by cases h
  | y :: r, 0, x, _, h, hx => by
    cases h
    exact if_pos hx
  | y :: r, k + 1, x, ha, h, hx => by
    have ih := firstB_at r k x (fun t ht => ha t (by rw [List.take_succ_cons]; exact List.mem_cons_of_mem _ ht)) h hx
    have hy := ha y (by rw [List.take_succ_cons]; exact List.mem_cons_self ..)
    show (if p y = true then (0 : Int) else if firstB p r < 0 then -1 else firstB p r + 1) = _
    rw [if_neg (by rw [hy]; decide), ih, if_neg (by omega)]
    omega
theorem firstB_none {p : Int → Bool} : ∀ {l : List Int}, (∀ t ∈ l, p t = false) → firstB p l = -1
  | [], _ => rfl
  | y :: r, h => by
    have hy := h y (List.mem_cons_self ..)
    show (if p y = true then (0 : Int) else if firstB p r < 0 then -1 else firstB p r + 1) = _
    rw [if_neg (by rw [hy]; decide), firstB_none (fun t ht => h t (List.mem_cons_of_mem _ ht)), if_pos (by decide)]
theorem firstB_iff {p : Int → Bool} (l : List Int) : 0 ≤ firstB p l ↔ l.any p = true := by
  constructor
  · intro h
    apply Classical.byContradiction
    intro hn
    rw [firstB_none (fun t ht => Bool.eq_false_iff.2 (fun he => hn (List.any_eq_true.2 ⟨t, ht, he⟩)))] at h
    exact absurd h (by decide)
  · intro h
    obtain ⟨x, hx, hp⟩ := List.any_eq_true.1 h
    clear h
    induction l with
    | nil => cases hx
    | cons y r ih =>
      show 0 ≤ (if p y = true then (0 : Int) else if firstB p r < 0 then -1 else firstB p r + 1)
      by_cases hy : p y = true
      · rw [if_pos hy]; exact Int.le_refl _
      · rw [if_neg hy]
        rcases List.mem_cons.1 hx with rfl | hx
        · exact absurd hp hy
        · have := ih hx
          rw [if_neg (by omega)]
          omega
set_option maxRecDepth 20000 in
theorem readyIndex_any (w : World) (v : Value) (l : List Int) (b1 b2 : Nat) (p : Int → Bool) (hv : Ints w v l)
    (hs : ∀ W, Below w.heap.size w W → ∀ x ∈ l, Calls Tryz.prog 201 #[.int .i64 x, .pointer (some ⟨b1, 0, none⟩), .pointer (some ⟨b2, 0, none⟩)] W fun e w' => e = .returned (.bool (p x)) ∧ Below W.heap.size W w') :
    Calls Tryz.prog 199 #[v, .func (.func 201) #[] #[.pointer (some ⟨b1, 0, none⟩), .pointer (some ⟨b2, 0, none⟩)]] w fun e w' => e = .returned (.int .i64 (firstB p l)) ∧ Below w.heap.size w w' := by
  obtain ⟨ad, n, cap, rfl, HN, hn2, HF⟩ := RowAt.facts (f := fun n : Int => [Value.int .i64 n]) hv
  have HS := Lib.hid hs
  clear hv hs
  go_enter Tryz.func199, Tryz.ntmps199
  go_wp2
  go_loopw [8] (fun i wr => ∃ k : Nat, k ≤ n ∧ i = .int .i64 k ∧ Hid (∀ t ∈ l.take k, p t = false) ∧ Hid (Below w.heap.size w wr)) (fun i _ => n - (intOf i).toNat)
  case atStart => exact ⟨0, Nat.zero_le _, rfl, Lib.hid (by simp), Below.refl _ _⟩
  case round =>
    obtain ⟨k, hk, rfl, HA, HB⟩ := hrel
    by_cases hlt : k < n
    · obtain ⟨b, o, x, rfl, hb, hxx, hc⟩ := HF.out k hlt
      have hk0 : (k : Int) < (n : Int) := by omega
      have c0 := (HB.out.cell (p := ⟨b, o + k * 1 + 0, none⟩) hb).trans (hc 0 _ rfl)
      simp only [Nat.mul_one, Nat.add_zero] at c0
      have hcall := HS.out wr HB.out x (List.mem_of_getElem? hxx)
      cases h64 : p x with
      | true =>
        have HE := Lib.hid (firstB_at l k x HA.out hxx h64)
        rw [h64] at hcall
        have HC := Lib.hid hcall
        clear hxx h64 hcall hc hb
        go_wp2_with fail
        refine HC.out.mono ?_
        rintro e w2 ⟨rfl, hb2⟩
        have HB2 := Lib.hid (blN HB.out hb2)
        clear hb2
        go_wp2
        go_ret
        exact ⟨ret_i HE.out.symm, HB2.out⟩
      | false =>
        have HA2 : Hid (∀ t ∈ l.take (k + 1), p t = false) := by
          show ∀ t ∈ l.take (k + 1), p t = false
          rw [take_step hxx]
          intro t ht
          rcases List.mem_append.1 ht with ht | ht
          · exact HA.out t ht
          · rw [List.mem_singleton.1 ht]; exact h64
        rw [h64] at hcall
        have HC := Lib.hid hcall
        clear hxx h64 hcall hc hb
        go_wp2_with fail
        refine HC.out.mono ?_
        rintro e w2 ⟨rfl, hb2⟩
        have HB2 := Lib.hid (blN HB.out hb2)
        clear hb2
        go_wp2
        go_roundw
        case rel => exact ⟨k + 1, by omega, by go_num, HA2, HB2⟩
        case measure => simp [intOf]; omega
    · have htk : l.take k = l := List.take_of_length_le (by have := HN.out; omega)
      have ha := HA.out
      rw [htk] at ha
      have HE := Lib.hid (firstB_none ha)
      clear ha htk
      go_wp2
      go_ret
      exact ⟨ret_i HE.out.symm, HB.out⟩
theorem readyContains_any (w : World) (v : Value) (l : List Int) (b1 b2 : Nat) (p : Int → Bool) (hv : Ints w v l)
    (hs : ∀ W, Below w.heap.size w W → ∀ x ∈ l, Calls Tryz.prog 201 #[.int .i64 x, .pointer (some ⟨b1, 0, none⟩), .pointer (some ⟨b2, 0, none⟩)] W fun e w' => e = .returned (.bool (p x)) ∧ Below W.heap.size W w') :
    Calls Tryz.prog 200 #[v, .func (.func 201) #[] #[.pointer (some ⟨b1, 0, none⟩), .pointer (some ⟨b2, 0, none⟩)]] w fun e w' => e = .returned (.bool (l.any p)) ∧ Below w.heap.size w w' := by
  have hi := readyIndex_any w v l b1 b2 p hv hs
  have hb : l.any p = decide (0 ≤ firstB p l) := by
    by_cases h : l.any p = true
    · rw [h, decide_eq_true ((firstB_iff l).2 h)]
    · rw [Bool.eq_false_iff.2 h, decide_eq_false (fun hh => h ((firstB_iff l).1 hh))]
  rw [hb]
  obtain ⟨c, hc⟩ : ∃ c, firstB p l = c := ⟨_, rfl⟩
  rw [hc] at hi ⊢
  have HI := Lib.hid hi
  clear hi hc hv hs hb
  go_enter Tryz.func200, Tryz.ntmps200
  go_wp2_with fail
  refine HI.out.mono ?_
  rintro e w1 ⟨rfl, hb1⟩
  have HB1 := Lib.hid hb1
  clear hb1
  go_wp2
  go_ret
  exact ⟨rfl, HB1.out⟩
theorem DepsAt.open2 {w : World} {base B : Nat} {d : Sp.Deps} {D : Nat → Prop} (h : DepsAt w base B d D) : ∃ (ad : Option Addr) (n cap : Nat), w.cell? ⟨B, 0, none⟩ = some (.slice ad n cap) ∧ B < w.heap.size ∧ Hid (n = d.l.length) ∧ n ≤ 9223372036854775807 ∧
    Hid (∀ j, j < n → ∃ b off c va vn vc, ad = some ⟨b, off, none⟩ ∧ b < w.heap.size ∧ d.l[j]? = some c ∧ Ints w (.slice va vn vc) c.ahead ∧ (∀ (i : Nat) (y : Value), (chgC (c, .slice va vn vc))[i]? = some y → w.cell? ⟨b, off + j * 6 + i, none⟩ = some y)) := by
  obtain ⟨⟨v, ps, h1, h2, h3, _, h5⟩, _, _⟩ := h
  obtain ⟨ad, n, cap, rfl, a1, a2, a3⟩ := RowAt.facts (OwnR.row (f := chgC) (size := 6) (fun _ _ => rfl) h3)
  have hl : n = d.l.length := by rw [← h2, List.length_map]; exact a1.out
  refine ⟨ad, n, cap, cellOf (k := 0) h1 rfl, (Array.getElem?_eq_some_iff.1 h1).1, hl, a2, fun j hj => ?_⟩
  obtain ⟨b, off, ⟨c, u⟩, e1, e2, e3, e4⟩ := a3.out j hj
  have hown := (h5 (c, u) (List.mem_of_getElem? e3)).1
  obtain ⟨va, vc, hu⟩ := OwnR.form hown
  dsimp only at hu hown
  subst hu
  exact ⟨b, off, c, va, _, vc, e1, e2, by rw [← h2, List.getElem?_map, e3]; rfl, OwnR.row (f := intC) (fun _ _ => rfl) hown, e4⟩
/-- The numbers that are ready among the first k changes; their places. -/
def readyTo (d : Sp.Deps) (i : Int) (k : Nat) : List Int := (d.l.take k).foldl (readyStep d i) []
def readyPl (d : Sp.Deps) (i : Int) : Nat → List Int
  | 0 => []
  | k + 1 => readyPl d i k ++ (if ∃ c, d.l[k]? = some c ∧ goes d i (readyTo d i k) c then [(k : Int)] else [])
theorem readyTo_step {d : Sp.Deps} {i : Int} {k : Nat} {c : Chg} (hc : d.l[k]? = some c) : readyTo d i (k + 1) = readyStep d i (readyTo d i k) c := by
  unfold readyTo
  rw [take_step hc, List.foldl_append]
  rfl
theorem readyTo_all (d : Sp.Deps) (i : Int) : readyTo d i d.l.length = d.ready i := by
  unfold readyTo Sp.Deps.ready
  rw [List.take_length]
theorem readyPl_step {d : Sp.Deps} {i : Int} {k : Nat} {c : Chg} (hc : d.l[k]? = some c) : readyPl d i (k + 1) = readyPl d i k ++ (if goes d i (readyTo d i k) c then [(k : Int)] else []) := by
  show readyPl d i k ++ _ = _
  congr 1
  by_cases h : goes d i (readyTo d i k) c
  · rw [if_pos h, if_pos ⟨c, hc, h⟩]
  · rw [if_neg h, if_neg]
    rintro ⟨c', hc', h'⟩
    rw [hc] at hc'
    cases hc'
    exact h h'
theorem readyTo_new {d : Sp.Deps} (hok : d.Ok) {i : Int} {k : Nat} {c : Chg} (hc : d.l[k]? = some c) : (c.num : Int) ∉ readyTo d i k := fun h => by
  rcases Sp.ready_of (d := d) (i := i) (d.l.take k) [] _ h with h | ⟨c', hc', h1, _⟩
  · exact absurd h (by simp)
  · obtain ⟨q, hq, rfl⟩ := List.mem_take_iff_getElem.1 hc'
    have hk := List.getElem?_eq_some_iff.1 hc
    have := List.pairwise_iff_getElem.1 hok.rise q k (by omega) hk.1 (by omega)
    rw [hk.2] at this
    omega
theorem readyPl_len (d : Sp.Deps) (i : Int) : ∀ k, (readyPl d i k).length ≤ k
  | 0 => Nat.le_refl _
  | k + 1 => by
    have := readyPl_len d i k
    show (readyPl d i k ++ _).length ≤ _
    rw [List.length_append]
    split <;> simp <;> omega
theorem waits_any (d : Sp.Deps) (i : Int) (acc : List Int) (c : Chg) : goes d i acc c ↔ c.at_ = i ∧ c.state = 1 ∧ c.ahead.any (waitsB d acc) = false := by
  unfold goes
  constructor
  · rintro ⟨h1, h2, h3⟩
    refine ⟨h1, h2, ?_⟩
    rw [List.any_eq_false]
    intro n hn hw
    unfold waitsB at hw
    rw [decide_eq_true_iff] at hw
    exact (h3 n hn).elim hw.1 hw.2
  · rintro ⟨h1, h2, h3⟩
    rw [List.any_eq_false] at h3
    refine ⟨h1, h2, fun n hn => ?_⟩
    have := h3 n hn
    unfold waitsB at this
    rw [decide_eq_true_iff] at this
    by_cases hs : stateOf d n = 0
    · exact Or.inl hs
    · exact Or.inr (Classical.byContradiction fun hm => this ⟨hs, hm⟩)
/-- What the loop of ready finds in memory. -/
structure ReadyM (w : World) (B m : Nat) (d : Sp.Deps) (i : Int) (k : Nat) (out : Value) (wr : World) : Prop where
  bel : Below w.heap.size w wr
  box1 : wr.heap[w.heap.size]? = some (.cells #[.pointer (some ⟨B, 0, none⟩)] 114 (0, 0))
  box2 : wr.heap[w.heap.size + 2]? = some (.cells #[.map (some (w.heap.size + 1))] 138 (0, 0))
  map : IM.MapAt truV wr (w.heap.size + 1) (truE (readyTo d i k))
  row : OwnR 3 1 intC (w.heap.size + 3) wr out (readyPl d i k)
theorem ReadyM.below {w wr wr' : World} {B m : Nat} {d : Sp.Deps} {i : Int} {k : Nat} {out : Value} (h : ReadyM w B m d i k out wr) (hb : Below wr.heap.size wr wr') : ReadyM w B m d i k out wr' :=
  ⟨blN h.bel hb, heapOld hb h.box1, heapOld hb h.box2, h.map.old (hb.block _ h.map.lt), OwnR.below h.row hb⟩
set_option maxRecDepth 20000 in
theorem depsReady_any {w : World} {base B : Nat} {d : Sp.Deps} {D : Nat → Prop} (h : DepsAt w base B d D) (ht : d.Tied) (i : Int) :
    Calls Tryz.prog 138 #[pt B, .int .i64 i] w fun e w' => ∃ v, e = .returned v ∧ OwnR 3 1 intC (w.heap.size + 3) w' v (readyPl d i d.l.length) ∧ Below w.heap.size w w' := by
  obtain ⟨ad, n, cap, c0, hBl, HN, hn2, HF⟩ := h.open2
  have hmm := @run_makeMap Tryz.prog
  have hcont := fun (W : World) (hb1 : Below w.heap.size w W) (x1 : W.heap[w.heap.size]? = some (.cells #[.pointer (some ⟨B, 0, none⟩)] 114 (0, 0))) (x2 : W.heap[w.heap.size + 2]? = some (.cells #[.map (some (w.heap.size + 1))] 138 (0, 0))) (acc : List Int) (hm : IM.MapAt truV W (w.heap.size + 1) (truE acc)) (c : Sp.Chg) (hc : c ∈ d.l) (va : Option Addr) (vn vc : Nat) (hv : Ints W (.slice va vn vc) c.ahead) =>
    readyContains_any W (.slice va vn vc) c.ahead w.heap.size (w.heap.size + 2) (waitsB d acc) hv (fun W' hW' x hx => readyOne_any (h.below (hb1.trans (hW'.mono hb1.size))) ht.ok (cellOf (k := 0) (heapOld hW' x1) rfl) (heapOld hW' x2) (hm.old (hW'.block _ hm.lt)) x (by
      have h1 := ht.older c hc x hx
      have h2 := (ht.ok.num c hc).2
      have h3 := ht.ok.last
      omega))
  have hlen : d.l.length ≤ 1024 := ht.ok.few
  have HNew : Hid (∀ k c, d.l[k]? = some c → (c.num : Int) ∉ readyTo d i k) := fun k c hc => readyTo_new ht.ok hc
  have HCont := Lib.hid hcont
  have HLe := Lib.hid hlen
  clear hcont hlen h ht
  unfold pt
  go_enter Tryz.func138, Tryz.ntmps138
  obtain ⟨W1, hW1⟩ : ∃ W, ((w.alloc (.cells #[.pointer (some ⟨B, 0, none⟩)] 114)).alloc (.map #[] 0)).alloc (.cells #[.map (some (w.heap.size + 1))] 138) = W := ⟨_, rfl⟩
  have hb1 : Below w.heap.size w W1 := by rw [← hW1]; exact bl1 (bl1 (bl2 _) _) _
  have hx1 : W1.heap[w.heap.size]? = some (.cells #[.pointer (some ⟨B, 0, none⟩)] 114 (0, 0)) := by
    rw [← hW1]
    exact heapOld (bl2 _) (heapOld (bl2 _) (heapNew w _))
  have hx2 : W1.heap[w.heap.size + 2]? = some (.cells #[.map (some (w.heap.size + 1))] 138 (0, 0)) := by
    have := heapNew ((w.alloc (.cells #[.pointer (some ⟨B, 0, none⟩)] 114)).alloc (.map #[] 0)) (.cells #[.map (some (w.heap.size + 1))] 138)
    rw [hW1] at this
    simpa using this
  have hm1 : IM.MapAt truV W1 (w.heap.size + 1) (truE []) := by
    have := heapNew (w.alloc (.cells #[.pointer (some ⟨B, 0, none⟩)] 114)) (.map #[] 0)
    rw [← hW1]
    refine ⟨_, heapOld (bl2 _) ?_, IM.IsMap.new⟩
    simpa using this
  have HM1 : Hid (ReadyM w B 0 d i 0 (.slice none 0 0) W1) := ⟨hb1, hx1, hx2, hm1, OwnR.void _ _⟩
  have x0 := cellOf (k := 0) hx1 rfl
  have y0 := (hb1.cell (p := ⟨B, 0, none⟩) hBl).trans c0
  clear hb1 hx1 hx2 hm1
  go_wp2
  clear x0 y0 hW1
  go_loopw [5, 16] (fun out q wr => ∃ k : Nat, k ≤ n ∧ q = .int .i64 (k : Int) ∧ Hid (ReadyM w B 0 d i k out wr)) (fun _ q _ => n - (intOf q).toNat)
  case atStart => exact ⟨0, Nat.zero_le _, rfl, HM1⟩
  case round =>
    clear HM1
    obtain ⟨k, hk, rfl, HM⟩ := hrel
    by_cases hlt : k < n
    · obtain ⟨b, o, c, ua, un, uc, rfl, hb, hx, hv, hc⟩ := HF.out k hlt
      have hmem := List.mem_of_getElem? hx
      have hst := readyPl_step (i := i) hx
      have hto := readyTo_step (i := i) hx
      have hgo := waits_any d i (readyTo d i k) c
      have hct := fun (W : World) (hM : ReadyM w B 0 d i k u5 W) => HCont.out W hM.bel hM.box1 hM.box2 _ hM.map c hmem ua un uc (hv.below hM.bel)
      have hlp := readyPl_len d i k
      have hnew := HNew.out k c hx
      obtain ⟨cn, ca, co, cb, ch, cs⟩ := c
      dsimp only at hgo hct
      have c0 := (HM.out.bel.cell (p := ⟨b, o + k * 6 + 0, none⟩) hb).trans (hc 0 _ rfl)
      have c1 := (HM.out.bel.cell (p := ⟨b, o + k * 6 + 1, none⟩) hb).trans (hc 1 _ rfl)
      have c2 := (HM.out.bel.cell (p := ⟨b, o + k * 6 + 2, none⟩) hb).trans (hc 2 _ rfl)
      have c3 := (HM.out.bel.cell (p := ⟨b, o + k * 6 + 3, none⟩) hb).trans (hc 3 _ rfl)
      have c4 := (HM.out.bel.cell (p := ⟨b, o + k * 6 + 4, none⟩) hb).trans (hc 4 _ rfl)
      have c5 := (HM.out.bel.cell (p := ⟨b, o + k * 6 + 5, none⟩) hb).trans (hc 5 _ rfl)
      simp only [Nat.add_zero] at c0
      obtain ⟨W5, hW5⟩ : ∃ W, wr.alloc (.cells #[.int .i64 (cn : Int), .int .i64 ca, .int .i64 co, .string cb, .slice ua un uc, .int .i64 cs] 209) = W := ⟨_, rfl⟩
      have hb5 : Below wr.heap.size wr W5 := by rw [← hW5]; exact bl2 _
      have hz5 : W5.heap[wr.heap.size]? = some (.cells #[.int .i64 (cn : Int), .int .i64 ca, .int .i64 co, .string cb, .slice ua un uc, .int .i64 cs] 209 (0, 0)) := by rw [← hW5]; exact heapNew wr _
      have HM5 := Lib.hid (HM.out.below hb5)
      have z0 := cellOf (k := 0) hz5 rfl
      have z1 := cellOf (k := 1) hz5 rfl
      have z4 := cellOf (k := 4) hz5 rfl
      have z5 := cellOf (k := 5) hz5 rfl
      have HZ5 := Lib.hid hz5
      clear hb5 hz5 hmem hv hb hx hc
      by_cases h1 : ca = i
      · have q1 : (ca != i) = false := by simp [h1]
        by_cases h2 : cs = 1
        · have q2 : (cs != 1) = false := by simp [h2]
          have hc5 := hct W5 HM5.out
          cases hw : ch.any (waitsB d (readyTo d i k)) with
          | true =>
            rw [if_neg (fun h => by have := (hgo.1 h).2.2; rw [hw] at this; cases this), List.append_nil] at hst
            have hto2 : readyTo d i (k + 1) = readyTo d i k := hto.trans (if_neg (fun h => by have := (hgo.1 h).2.2; rw [hw] at this; cases this))
            rw [hw] at hc5
            have HC5 := Lib.hid hc5
            have HN5 : Hid (ReadyM w B 0 d i (k + 1) u5 W5) := ⟨HM5.out.bel, HM5.out.box1, HM5.out.box2, by rw [hto2]; exact HM5.out.map, by rw [hst]; exact HM5.out.row⟩
            clear hst hto hto2 hgo hct hlp h1 h2 hw hc5
            go_wp2_with fail
            refine HC5.out.mono ?_
            rintro e w6 ⟨rfl, hb6⟩
            have HN6 := Lib.hid (HN5.out.below hb6)
            clear hb6
            go_wp2
            go_roundw
            case rel => exact ⟨k + 1, by omega, by go_num, HN6⟩
            case measure => simp [intOf]; omega
          | false =>
            have hg : goes d i (readyTo d i k) ⟨cn, ca, co, cb, ch, cs⟩ := hgo.2 ⟨h1, h2, hw⟩
            rw [if_pos hg] at hst
            have hto2 : readyTo d i (k + 1) = readyTo d i k ++ [(cn : Int)] := hto.trans (if_pos hg)
            rw [hw] at hc5
            have HC5 := Lib.hid hc5
            have HSt := Lib.hid hst
            have HTo := Lib.hid hto2
            have HLp := Lib.hid hlp
            clear hst hto hto2 hgo hct hlp h1 h2 hw hc5 hg
            go_wp2_with fail
            refine HC5.out.mono ?_
            rintro e w6 ⟨rfl, hb6⟩
            have HM6 := Lib.hid (HM5.out.below hb6)
            have HZ6 := Lib.hid (heapOld hb6 HZ5.out)
            clear hb6
            have y0 := cellOf (k := 0) HZ6.out rfl
            have y1 := cellOf (k := 0) HM6.out.box2 rfl
            obtain ⟨o', hup, ho'⟩ := tru_update HM6.out.map (cn : Int)
            rw [if_neg hnew, ← HTo.out] at ho'
            obtain ⟨W7, hW7⟩ : ∃ W, ChangeMaps.setBlock w6 (w.heap.size + 1) o' = W := ⟨_, rfl⟩
            rw [hW7] at hup
            have hT7 : Turn (fun j => j = w.heap.size + 1) w6 W7 := by rw [← hW7]; exact block_turn
            have hb7 : Below w.heap.size w W7 := HM6.out.bel.trans (hT7.below (fun j e => by omega) (by have := HM6.out.bel.size; omega))
            have HP7 : Hid (W7.heap[w.heap.size]? = some (.cells #[.pointer (some ⟨B, 0, none⟩)] 114 (0, 0)) ∧ W7.heap[w.heap.size + 2]? = some (.cells #[.map (some (w.heap.size + 1))] 138 (0, 0)) ∧ IM.MapAt truV W7 (w.heap.size + 1) (truE (readyTo d i (k + 1)))) :=
              ⟨hT7.heap HM6.out.box1 (by omega), hT7.heap HM6.out.box2 (by omega), ⟨o', by rw [← hW7]; exact IM.heap_setBlock_at HM6.out.map.lt, ho'⟩⟩
            have HO7 : Hid (OwnR 3 1 intC (w.heap.size + 3) W7 u5 (readyPl d i k)) := HM6.out.row.turn hT7 (fun q hq e => by have := (HM6.out.row.lt q hq).1; omega)
            have HZ7 : Hid (w.heap.size + 3 ≤ W7.heap.size) := by have := (Array.getElem?_eq_some_iff.1 HP7.out.2.1).1; show _ ≤ _; omega
            have HBw := Lib.hid hb7
            have hll : (readyPl d i k).length ≤ 1024 := by have := HLp.out; have := HLe.out; have := HN.out; omega
            clear ho' hT7 hb7 hnew
            go_upto_region 10 with fail
            clear y0 y1 hup hW7
            obtain ⟨ia8, ib8, ic8, id8, ie8⟩ := info_parts infoInt
            have hrow8 := HO7.out
            unfold OwnR at hrow8
            have HRow8 := Lib.hid hrow8
            clear hrow8
            have HIb8 := Lib.hid ib8
            have HIc8 := Lib.hid ic8
            have HId8 := Lib.hid id8
            have HIe8 := Lib.hid ie8
            clear ib8 ic8 id8 ie8
            go_wp2_with (at_builtin; refine wpList_append_lies _ rfl _ _ _ rfl (w.heap.size + 3) 3 ia8 _ 1 8 Tryz.underlying58 HIb8.out HIc8.out HId8.out HIe8.out rfl (by decide) _ _ _ rfl (HRow8.out.alloc _) ⟨W7.heap.size, 0, none⟩ 1 1 [.int .i64 (k : Int)] rfl rfl (World.news_of_block (cs := #[.int .i64 (k : Int)]) (t := 3) (fr := (0, 0)) (heapNew W7 _)) (by simp [Value.oneCell']) (by omega) ?c1 ?c2 ?c3 (W7.heap.size + 1) (by simp) ?_)
            case c1 => unfold maxLen; omega
            case c2 => omega
            case c3 => have := HZ7.out; simp; omega
            intro g8 cap8 w8 hown8 hgrow8 hat8 hlt8
            have hOF := OwnR.snoc (f := intC) (x := (k : Int)) hown8 rfl rfl
            have hB8 : Below w.heap.size w w8 := Below.grown (bl1 HBw.out _) hgrow8 (bl1 HBw.out _).size (fun q hq => by have := (HRow8.out.lt q hq).1; omega)
            have hold : ∀ q, q < w.heap.size + 3 → w8.heap[q]? = W7.heap[q]? := fun q hq => by
              have hz := HZ7.out
              rw [hgrow8.block q (by simp; omega) (fun e => by have := (HRow8.out.lt q e.symm).1; omega)]
              exact (bl2 (w := W7) (.cells #[.int .i64 (k : Int)] 3)).block q (by omega)
            have HN8 : Hid (ReadyM w B 0 d i (k + 1) (.slice (some ⟨g8, 0, none⟩) ((readyPl d i k).length + 1) cap8) w8) := by
              obtain ⟨p1, p2, o9, p3, p4⟩ := HP7.out
              refine ⟨hB8, (hold _ (by omega)).trans p1, (hold _ (by omega)).trans p2, ⟨o9, (hold _ (by omega)).trans p3, p4⟩, ?_⟩
              rw [HSt.out]
              exact hOF
            clear hown8 hgrow8 hat8 hlt8 HRow8 hOF hB8 hold
            go_wp2
            go_roundw
            case rel => exact ⟨k + 1, by omega, by go_num, HN8⟩
            case measure => simp [intOf]; omega
        · have q2 : (cs != 1) = true := by simp [h2]
          rw [if_neg (fun h => h2 (hgo.1 h).2.1), List.append_nil] at hst
          have hto2 : readyTo d i (k + 1) = readyTo d i k := hto.trans (if_neg (fun h => h2 (hgo.1 h).2.1))
          have HN5 : Hid (ReadyM w B 0 d i (k + 1) u5 W5) := ⟨HM5.out.bel, HM5.out.box1, HM5.out.box2, by rw [hto2]; exact HM5.out.map, by rw [hst]; exact HM5.out.row⟩
          clear hst hto hto2 hgo hct hlp h1 h2
          go_wp2
          go_roundw
          case rel => exact ⟨k + 1, by omega, by go_num, HN5⟩
          case measure => simp [intOf]; omega
      · have q1 : (ca != i) = true := by simp [h1]
        rw [if_neg (fun h => h1 (hgo.1 h).1), List.append_nil] at hst
        have hto2 : readyTo d i (k + 1) = readyTo d i k := hto.trans (if_neg (fun h => h1 (hgo.1 h).1))
        have HN5 : Hid (ReadyM w B 0 d i (k + 1) u5 W5) := ⟨HM5.out.bel, HM5.out.box1, HM5.out.box2, by rw [hto2]; exact HM5.out.map, by rw [hst]; exact HM5.out.row⟩
        clear hst hto hto2 hgo hct hlp h1
        go_wp2
        go_roundw
        case rel => exact ⟨k + 1, by omega, by go_num, HN5⟩
        case measure => simp [intOf]; omega
    · obtain rfl : k = n := by omega
      have HE : Hid (OwnR 3 1 intC (w.heap.size + 3) wr u5 (readyPl d i d.l.length) ∧ Below w.heap.size w wr) := ⟨by have := HM.out.row; rw [HN.out] at this; exact this, HM.out.bel⟩
      go_wp2
      go_ret
      exact ⟨_, rfl, HE.out.1, HE.out.2⟩
end
end Go.Proofs.YtgofmnhfajmbfaaGreatDoor
