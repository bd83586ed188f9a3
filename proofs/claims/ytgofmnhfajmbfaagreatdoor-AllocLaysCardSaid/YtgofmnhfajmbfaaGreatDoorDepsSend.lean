/-
  Walks of layer 12: Image, Send.
-/
import Derived.Test.YtgofmnhfajmbfaaGreatDoorDepsReady
import Derived.Test.YtgofmnhfajmbfaaGreatDoorDepsLost
namespace Go.Proofs.YtgofmnhfajmbfaaGreatDoor
open Go Go.RowKit Txt Sp

/-- The places of those of which p holds. -/
def plOf (p : Chg → Bool) (l : List Chg) (k : Nat) : List Int := ((List.range k).filter (fun j => match l[j]? with | some c => p c | none => false)).map (fun j : Nat => (j : Int))
theorem plOf_mem {p : Chg → Bool} {l : List Chg} {k : Nat} {j : Nat} : (j : Int) ∈ plOf p l k ↔ j < k ∧ ∃ c, l[j]? = some c ∧ p c = true := by
  unfold plOf
  rw [List.mem_map]
  constructor
  · rintro ⟨i, hi, he⟩
    rw [List.mem_filter, List.mem_range] at hi
    obtain rfl : i = j := by omega
    refine ⟨hi.1, ?_⟩
    cases hc : l[i]? with
    | none => rw [hc] at hi; exact absurd hi.2 Bool.false_ne_true
    | some c => rw [hc] at hi; exact ⟨c, rfl, hi.2⟩
  · rintro ⟨h1, c, hc, hp⟩
    exact ⟨j, List.mem_filter.2 ⟨List.mem_range.2 h1, by rw [hc]; exact hp⟩, rfl⟩
theorem plOf_in {p : Chg → Bool} {l : List Chg} {k : Nat} {q : Int} (h : q ∈ plOf p l k) : 0 ≤ q ∧ q < (k : Int) := by
  unfold plOf at h
  obtain ⟨j, hj, rfl⟩ := List.mem_map.1 h
  have := List.mem_range.1 (List.mem_filter.1 hj).1
  omega
theorem plOf_step {p : Chg → Bool} {l : List Chg} {k : Nat} {c : Chg} (hc : l[k]? = some c) : plOf p l (k + 1) = plOf p l k ++ (if p c = true then [(k : Int)] else []) := by
  unfold plOf
  rw [List.range_succ, List.filter_append, List.map_append]
  congr 1
  have e : (match l[k]? with | some c => p c | none => false) = p c := by rw [hc]
  rw [List.filter_cons, e, List.filter_nil]
  by_cases hp : p c = true
  · rw [if_pos hp, if_pos hp]; rfl
  · rw [if_neg hp, if_neg hp]; rfl
theorem plOf_take (p : Chg → Bool) (l : List Chg) (f : Chg → Int × ByteArray) : ∀ k, k ≤ l.length → (plOf p l k).map (fun q => f (l.getD q.toNat ⟨0, 0, 0, ⟨#[]⟩, [], 0⟩)) = ((l.take k).filter p).map f
  | 0, _ => rfl
  | k + 1, h => by
    have hc : l[k]? = some l[k] := List.getElem?_eq_getElem (by omega)
    rw [plOf_step hc, List.map_append, plOf_take p l f k (by omega), take_step hc, List.filter_append, List.map_append]
    congr 1
    rw [List.filter_cons]
    cases hp : p l[k] with
    | true =>
      rw [if_pos rfl, if_pos rfl]
      show [f (l.getD ((k : Int).toNat) _)] = [f l[k]]
      rw [Int.toNat_natCast, List.getD_eq_getElem?_getD, hc]
      rfl
    | false => rfl
theorem setAll_get (s : Int) : ∀ (ps : List Int) (l : List Chg) (j : Nat), (∀ q ∈ ps, 0 ≤ q) → (setAll s l ps)[j]? = (l[j]?).map (fun c => if (j : Int) ∈ ps then setSt c s else c)
  | [], l, j, _ => by
    show l[j]? = _
    cases l[j]? <;> simp
  | q :: r, l, j, h => by
    have hq := h q (List.mem_cons_self ..)
    have e : (setAll s l (q :: r)) = setAll s (setAt s l q) r := rfl
    rw [e, setAll_get s r _ j (fun x hx => h x (List.mem_cons_of_mem _ hx))]
    have hat : (setAt s l q)[j]? = (l[j]?).map (fun c => if (j : Int) = q then setSt c s else c) := by
      unfold setAt
      cases hc : l[q.toNat]? with
      | none =>
        cases hj : l[j]? with
        | none => rfl
        | some c =>
          rw [Option.map_some, if_neg]
          intro e
          rw [← e, Int.toNat_natCast, hj] at hc
          cases hc
      | some c =>
        dsimp only
        rw [List.getElem?_set]
        by_cases e : q.toNat = j
        · have hlt := (List.getElem?_eq_some_iff.1 hc).1
          rw [if_pos e, if_pos (by omega), ← e, hc, Option.map_some, if_pos (by omega)]
        · rw [if_neg e]
          cases hj : l[j]? with
          | none => rfl
          | some c => rw [Option.map_some, if_neg (by omega)]
    rw [hat, Option.map_map]
    congr 1
    funext c
    show (if (j : Int) ∈ r then setSt (if (j : Int) = q then setSt c s else c) s else if (j : Int) = q then setSt c s else c) = if (j : Int) ∈ q :: r then setSt c s else c
    simp only [List.mem_cons]
    by_cases h1 : (j : Int) = q
    · rw [if_pos h1, if_pos (Or.inl h1)]
      split <;> rfl
    · by_cases h2 : (j : Int) ∈ r
      · rw [if_neg h1, if_pos h2, if_pos (Or.inr h2)]
      · rw [if_neg h1, if_neg h2, if_neg (fun h => h.elim h1 h2)]
theorem setAll_pl (s : Int) (p : Chg → Bool) (l : List Chg) : setAll s l (plOf p l l.length) = l.map (fun c => if p c = true then setSt c s else c) := by
  apply List.ext_getElem?
  intro j
  rw [setAll_get s _ l j (fun q hq => (plOf_in hq).1), List.getElem?_map]
  cases hj : l[j]? with
  | none => rfl
  | some c =>
    rw [Option.map_some, Option.map_some]
    congr 1
    by_cases hp : p c = true
    · rw [if_pos hp, if_pos (plOf_mem.2 ⟨(List.getElem?_eq_some_iff.1 hj).1, c, hj, hp⟩)]
    · rw [if_neg hp, if_neg]
      intro h
      obtain ⟨_, c', hc', hp'⟩ := plOf_mem.1 h
      rw [hj] at hc'
      cases hc'
      exact hp hp'
/-- A change goes just if it is ready in the end. -/
theorem goes_ready {d : Sp.Deps} (hok : d.Ok) {i : Int} {k : Nat} {c : Chg} (hc : d.l[k]? = some c) : goes d i (readyTo d i k) c ↔ d.isR i c = true := by
  have hsplit : d.ready i = (d.l.drop (k + 1)).foldl (readyStep d i) (readyStep d i (readyTo d i k) c) := by
    unfold Sp.Deps.ready readyTo
    rw [← List.foldl_cons, ← List.foldl_append]
    congr 1
    obtain ⟨hk, rfl⟩ := List.getElem?_eq_some_iff.1 hc
    rw [← List.drop_eq_getElem_cons hk, List.take_append_drop]
  unfold Sp.Deps.isR
  rw [decide_eq_true_iff, hsplit]
  constructor
  · intro h
    exact Sp.ready_mono _ _ _ (readyStep_mem.2 (Or.inr ⟨rfl, h⟩))
  · intro h
    rcases Sp.ready_of (d := d) (i := i) _ _ _ h with h | ⟨c', hc', h1, _⟩
    · rcases readyStep_mem.1 h with h | ⟨_, h⟩
      · exact absurd h (readyTo_new hok hc)
      · exact h
    · obtain ⟨q, hq, rfl⟩ := List.getElem_of_mem hc'
      have hk := List.getElem?_eq_some_iff.1 hc
      rw [List.length_drop] at hq
      rw [List.getElem_drop] at h1
      have := List.pairwise_iff_getElem.1 hok.rise k (k + 1 + q) hk.1 (by omega) (by omega)
      rw [hk.2] at this
      omega
theorem readyPl_pl {d : Sp.Deps} (hok : d.Ok) (i : Int) : ∀ k, k ≤ d.l.length → readyPl d i k = plOf (d.isR i) d.l k
  | 0, _ => rfl
  | k + 1, h => by
    have hc : d.l[k]? = some d.l[k] := List.getElem?_eq_getElem (by omega)
    rw [readyPl_step hc, plOf_step hc, readyPl_pl hok i k (by omega)]
    congr 1
    by_cases hg : goes d i (readyTo d i k) d.l[k]
    · rw [if_pos hg, if_pos ((goes_ready hok hc).1 hg)]
    · rw [if_neg hg, if_neg (fun hh => hg ((goes_ready hok hc).2 hh))]
theorem places_pl {d : Sp.Deps} (i : Int) : ∀ k, d.places i 2 k = plOf (fun c => c.isU i) d.l k
  | 0 => rfl
  | k + 1 => by
    unfold Sp.Deps.places plOf
    congr 1
    refine List.filter_congr (fun j _ => ?_)
    cases hc : d.l[j]? with
    | none => exact decide_eq_false (fun ⟨c, h, _⟩ => by cases h)
    | some c =>
      show _ = c.isU i
      unfold Chg.isU
      exact decide_eq_decide.2 ⟨fun ⟨c', h, h1, h2⟩ => by cases h; exact ⟨h1, h2⟩, fun ⟨h1, h2⟩ => ⟨c, rfl, h1, h2⟩⟩
theorem lostD_eq (d : Sp.Deps) (i : Int) : lostD d i = d.lost i := by
  unfold lostD Sp.Deps.lost
  rw [places_pl, setAll_pl]
theorem sendD_eq {d : Sp.Deps} (hok : d.Ok) (i : Int) : (⟨setAll 2 d.l (readyPl d i d.l.length), d.last⟩ : Sp.Deps) = d.send i := by
  unfold Sp.Deps.send
  rw [readyPl_pl hok i _ (Nat.le_refl _), setAll_pl]
theorem image_eq {d : Sp.Deps} (hok : d.Ok) (i : Int) : (readyPl d i d.l.length).map d.patchAt = (d.l.filter (d.isR i)).map Chg.pat := by
  rw [readyPl_pl hok i _ (Nat.le_refl _)]
  have := plOf_take (d.isR i) d.l Chg.pat d.l.length (Nat.le_refl _)
  rw [List.take_length] at this
  rw [← this]
  refine List.map_congr_left (fun q _ => ?_)
  unfold Sp.Deps.patchAt
  rw [List.getD_eq_getElem?_getD]
  cases d.l[q.toNat]? <;> rfl
theorem readyPl_nil {d : Sp.Deps} (hok : d.Ok) (i : Int) : readyPl d i d.l.length = [] ↔ d.ready i = [] := by
  rw [readyPl_pl hok i _ (Nat.le_refl _)]
  constructor
  · intro h
    cases hr : d.ready i with
    | nil => rfl
    | cons n r =>
      obtain ⟨c, hc, h1, _⟩ := Sp.Deps.ready_of (d := d) (i := i) (n := n) (by rw [hr]; exact List.mem_cons_self ..)
      obtain ⟨j, hj, rfl⟩ := List.getElem_of_mem hc
      have : (j : Int) ∈ plOf (d.isR i) d.l d.l.length := plOf_mem.2 ⟨hj, _, List.getElem?_eq_getElem hj, by
        unfold Sp.Deps.isR
        rw [decide_eq_true_iff, h1, hr]
        exact List.mem_cons_self ..⟩
      rw [h] at this
      exact absurd this (by simp)
  · intro h
    cases hp : plOf (d.isR i) d.l d.l.length with
    | nil => rfl
    | cons q r =>
      have hq : q ∈ plOf (d.isR i) d.l d.l.length := by rw [hp]; exact List.mem_cons_self ..
      have h0 := (plOf_in hq).1
      obtain ⟨j, rfl⟩ : ∃ j : Nat, q = (j : Int) := ⟨q.toNat, by omega⟩
      obtain ⟨_, c, _, hr⟩ := plOf_mem.1 hq
      unfold Sp.Deps.isR at hr
      rw [decide_eq_true_iff, h] at hr
      exact absurd hr (by simp)
theorem places_under {d : Sp.Deps} {i : Int} : d.places i 2 d.l.length = [] ↔ ¬ d.under i := by
  rw [places_pl]
  constructor
  · rintro h ⟨c, hc, h1, h2⟩
    obtain ⟨j, hj, rfl⟩ := List.getElem_of_mem hc
    have : (j : Int) ∈ plOf (fun c => c.isU i) d.l d.l.length := plOf_mem.2 ⟨hj, _, List.getElem?_eq_getElem hj, by
      unfold Chg.isU
      rw [decide_eq_true_iff]
      exact ⟨h1, h2⟩⟩
    rw [h] at this
    exact absurd this (by simp)
  · intro h
    cases hp : plOf (fun c => c.isU i) d.l d.l.length with
    | nil => rfl
    | cons q r =>
      exfalso
      have hq : q ∈ plOf (fun c => c.isU i) d.l d.l.length := by rw [hp]; exact List.mem_cons_self ..
      have h0 := (plOf_in hq).1
      obtain ⟨j, rfl⟩ : ∃ j : Nat, q = (j : Int) := ⟨q.toNat, by omega⟩
      obtain ⟨_, c, hc, hr⟩ := plOf_mem.1 hq
      unfold Chg.isU at hr
      rw [decide_eq_true_iff] at hr
      exact h ⟨c, List.mem_of_getElem? hc, hr⟩
section
set_option maxHeartbeats 4000000
set_option maxRecDepth 20000 in
theorem depsImage_any {w : World} {base B : Nat} {d : Sp.Deps} {D : Nat → Prop} (h : DepsAt w base B d D) (ht : d.Tied) (i : Int) (s : ByteArray) (hs : s.size = 64) :
    Calls Tryz.prog 233 #[pt B, .int .i64 i, .string s] w fun e w' => e = .returned (.tuple #[.string (d.image i s), .int .i64 0]) ∧ Below w.heap.size w w' := by
  have hre := depsReady_any h ht i
  have hin : ∀ q ∈ readyPl d i d.l.length, 0 ≤ q ∧ q < (d.l.length : Int) := fun q hq => by
    rw [readyPl_pl ht.ok i _ (Nat.le_refl _)] at hq
    exact plOf_in hq
  have hpa := fun (W : World) (hW : Below w.heap.size w W) (v : Value) (hv : Ints W v (readyPl d i d.l.length)) => depsPatched_any (h.below hW) ht.ok s hs v _ hv hin (Nat.le_trans (readyPl_len d i _) ht.ok.few)
  have him : ofL (patchedL s.data.toList ((readyPl d i d.l.length).map d.patchAt)) = d.image i s := by
    rw [image_eq ht.ok]
    rfl
  rw [him] at hpa
  obtain ⟨t, hti⟩ : ∃ t, d.image i s = t := ⟨_, rfl⟩
  rw [hti] at hpa ⊢
  obtain ⟨L, hL⟩ : ∃ L, readyPl d i d.l.length = L := ⟨_, rfl⟩
  rw [hL] at hre hpa
  unfold pt at hre hpa ⊢
  have HRE := Lib.hid hre
  have HPA := Lib.hid hpa
  clear hre hpa
  clear h ht hs hin him hti hL
  go_enter Tryz.func233, Tryz.ntmps233
  go_wp2_with fail
  refine HRE.out.mono ?_
  rintro e w1 ⟨v, rfl, hv1, hb1⟩
  have HB1 := Lib.hid hb1
  have hp1 := HPA.out w1 hb1 v (OwnR.row (f := intC) (fun _ _ => rfl) hv1)
  have HP1 := Lib.hid hp1
  clear hp1
  clear hb1 hv1
  go_wp2_with fail
  refine HP1.out.mono ?_
  rintro e w2 ⟨rfl, hb2⟩
  have HB2 := Lib.hid (blN HB1.out hb2)
  clear hb2
  go_wp2
  go_ret2
  exact ⟨rfl, HB2.out⟩
set_option maxRecDepth 20000 in
theorem depsSend_any {w : World} {base B : Nat} {d : Sp.Deps} {D : Nat → Prop} (h : DepsAt w base B d D) (hD : ∀ j, D j → j < w.heap.size) (ht : d.Tied) (i : Int) (hu : ¬ d.under i) (hr : d.ready i ≠ []) :
    Calls Tryz.prog 234 #[pt B, .int .i64 i] w fun e w' => ∃ a n c, e = .returned (.tuple #[.slice a n c, .int .i64 0]) ∧ DepsAt w' base B (d.send i) D ∧ ChgTurn w D w' := by
  have hok := ht.ok
  have hof := depsOf_any h i 2 hok.few
  rw [places_under.2 hu] at hof
  have hre := fun (W : World) (hW : Below w.heap.size w W) => depsReady_any (h.below hW) ht i
  have hin : ∀ q ∈ readyPl d i d.l.length, 0 ≤ q ∧ q < (d.l.length : Int) := fun q hq => by
    rw [readyPl_pl hok i _ (Nat.le_refl _)] at hq
    exact plOf_in hq
  have hne : readyPl d i d.l.length ≠ [] := fun e => hr ((readyPl_nil hok i).1 e)
  have hll := readyPl_len d i d.l.length
  have hfew := hok.few
  have hse := sendD_eq hok i
  rw [← hse]
  obtain ⟨pl, hpl⟩ : ∃ L, readyPl d i d.l.length = L := ⟨_, rfl⟩
  rw [hpl] at hre hin hne hll ⊢
  have hnum := fun (W : World) (l : List Chg) (hl : l.length = d.l.length) (hd : DepsAt W base B ⟨l, d.last⟩ D) (v : Value) (hv : Ints W v pl) => depsNumbers_any hd v pl hv (by rw [show (⟨l, d.last⟩ : Sp.Deps).l.length = d.l.length from hl]; exact hin) (by omega)
  unfold pt at hof hre hnum ⊢
  have HD0 := Lib.hid h
  have HD := Lib.hid hD
  have HIN := Lib.hid hin
  have HLL : Hid (pl.length ≤ 1024) := Nat.le_trans hll hfew
  have HOF := Lib.hid hof
  have HRE := Lib.hid hre
  have HNUM := Lib.hid hnum
  clear hof hre hnum
  clear h hD ht hu hr hok hin hll hfew hse hpl
  go_enter Tryz.func234, Tryz.ntmps234
  go_wp2_with fail
  refine HOF.out.mono ?_
  rintro e w1 ⟨v, rfl, hv1, hb1⟩
  obtain ⟨ad0, n0, cap0, rfl, h00, -, -⟩ := RowAt.facts (OwnR.row (f := intC) (fun _ _ => rfl) hv1)
  obtain rfl : n0 = 0 := h00.out
  have HB1 := Lib.hid hb1
  clear hv1 hb1 h00
  go_wp2_with fail
  refine (HRE.out _ HB1.out).mono ?_
  rintro e w2 ⟨v, rfl, hr1, hb2⟩
  have HB2 := Lib.hid (blN HB1.out hb2)
  obtain ⟨bd, m, bc, rfl, HM, hm2, HV⟩ := RowAt.facts (OwnR.row (f := intC) (fun _ _ => rfl) hr1)
  have HR1 := Lib.hid hr1
  have hlt1 : ∀ k, (Value.slice bd m bc).ownBlock = some k → w.heap.size ≤ k := fun k hk => by have := (hr1.lt k hk).1; have := HB1.out.size; omega
  have HLT1 := Lib.hid hlt1
  clear hr1 hb2 hlt1
  have h0 : ¬ m = 0 := fun e => hne (List.length_eq_zero_iff.1 (by have := HM.out; omega))
  have q1 : ((m : Int) == 0) = false := beq_eq_false_iff_ne.2 (by omega)
  go_wp2
  go_loopw [22] (fun q wr => ∃ k : Nat, k ≤ m ∧ q = .int .i64 (k : Int) ∧ Hid (DepsAt wr base B ⟨setAll 2 d.l (pl.take k), d.last⟩ D) ∧ Hid (ChgTurn w2 D wr)) (fun q _ => m - (intOf q).toNat)
  case atStart => exact ⟨0, Nat.zero_le _, rfl, HD0.out.below HB2.out, ChgTurn.of_below (Below.refl _ _)⟩
  case round =>
    obtain ⟨k, hk, rfl, HDk, HTk⟩ := hrel
    by_cases hlt : k < m
    · obtain ⟨b, o, q, hbd, hb, hq, hc⟩ := HV.out k hlt
      subst hbd
      have hqi := HIN.out q (List.mem_of_getElem? hq)
      obtain ⟨j, rfl⟩ : ∃ j : Nat, q = (j : Int) := ⟨q.toNat, by omega⟩
      have hbD : ¬ D b := fun hd => by
        have h1 := HD.out b hd
        have h2 := HLT1.out b (by
          have hr := HR1.out.2
          rcases hr with ⟨e, _⟩ | ⟨g, _, _, e, _⟩
          · cases e
          · cases e; rfl)
        omega
      have c0 : wr.cell? ⟨b, o + k, none⟩ = some (.int .i64 (j : Int)) := by
        obtain ⟨K, hK, -, hT⟩ := HTk.out
        have h := hc 0 _ rfl
        have hw : wr.heap[b]? = w2.heap[b]? := hT.block b hb (fun hk => hbD (hK b hk))
        have h2 : wr.cell? ⟨b, o + k * 1 + 0, none⟩ = w2.cell? ⟨b, o + k * 1 + 0, none⟩ := by simp only [World.cell?, hw]
        have h3 := h2.trans h
        simpa using h3
      have hjl : j < (⟨setAll 2 d.l (pl.take k), d.last⟩ : Sp.Deps).l.length := by show j < (setAll 2 d.l (pl.take k)).length; rw [setAll_length]; omega
      obtain ⟨g, cap, cB, hs, hfz, hDg, hgB, hda, hTs, hof⟩ := deps_stored HDk.out hjl 2
      obtain ⟨x, hx⟩ := Option.isSome_iff_exists.1 hs
      dsimp only at cB hjl
      rw [setAll_length] at cB hjl
      have hnext : (setAll 2 d.l (pl.take k)).set j (setSt ((setAll 2 d.l (pl.take k))[j]'(by rw [setAll_length]; exact hjl)) 2) = setAll 2 d.l (pl.take (k + 1)) := by
        rw [take_step hq, setAll_snoc, setAt_at]
      have HD2 : Hid (DepsAt (wr.setCell ⟨g, j * 6 + 5, none⟩ (.int .i64 2)) base B ⟨setAll 2 d.l (pl.take (k + 1)), d.last⟩ D) := by
        rw [← hnext]
        exact hda
      have HT2 : Hid (ChgTurn w2 D (wr.setCell ⟨g, j * 6 + 5, none⟩ (.int .i64 2))) := ChgTurn.trans (fun j hj => Nat.lt_of_lt_of_le (HD.out j hj) HB2.out.size) HTk.out (ChgTurn.one hDg hTs hof)
      obtain ⟨NL, hNL⟩ : ∃ n, d.l.length = n := ⟨_, rfl⟩
      rw [hNL] at cB hjl
      have hji : (j : Int) < (NL : Int) := by omega
      clear hda hTs hof hDg hs hnext hq hc hqi hbD hb hNL
      go_wp2
      go_roundw
      case rel => exact ⟨k + 1, by omega, by go_num, HD2, HT2⟩
      case measure => simp [intOf]; omega
    · obtain rfl : k = m := by omega
      have hda := HDk.out
      rw [List.take_of_length_le (by rw [HM.out]; exact Nat.le_refl _)] at hda
      have hv : Ints wr (.slice bd k bc) pl := by
        obtain ⟨K, hK, -, hT⟩ := HTk.out
        exact OwnR.row (f := intC) (fun _ _ => rfl) (HR1.out.turn hT (fun q hq hk => by have := HD.out q (hK q hk); have := HLT1.out q hq; omega))
      have hn := HNUM.out wr _ (setAll_length 2 pl d.l) hda _ hv
      have HDE := Lib.hid hda
      have HN := Lib.hid hn
      clear hn
      clear hda hv
      go_wp2_with fail
      refine HN.out.mono ?_
      rintro e w4 ⟨v', rfl, hv4, hb4⟩
      obtain ⟨xa, xn, xc, rfl⟩ : ∃ a n c, v' = .slice a n c := by
        obtain ⟨_, ⟨rfl, _⟩ | ⟨g, cap, cur, rfl, _⟩⟩ := hv4 <;> exact ⟨_, _, _, rfl⟩
      have HEnd : Hid (DepsAt w4 base B ⟨setAll 2 d.l pl, d.last⟩ D ∧ ChgTurn w D w4) := ⟨HDE.out.below hb4, ChgTurn.trans HD.out (ChgTurn.of_below HB2.out) (ChgTurn.trans (fun j hj => Nat.lt_of_lt_of_le (HD.out j hj) HB2.out.size) HTk.out (ChgTurn.of_below hb4))⟩
      clear hv4 hb4
      go_wp2
      go_ret2
      exact ⟨_, _, _, rfl, HEnd.out⟩
end
end Go.Proofs.YtgofmnhfajmbfaaGreatDoor
