/-
  DepB: HeldTail, DepsEnd, DepsAdd.
-/
import Derived.Deep.RegionHeld3
import Derived.StillTail
import Derived.Test.YtgofmnhfajmbfaaGreatDoorDepA
import Derived.Test.YtgofmnhfajmbfaaGreatDoorSidA
namespace Go.Proofs.YtgofmnhfajmbfaaGreatDoor
open Go

section
variable {P : Program} {ops : Array Oper} {Q : Exit → Act → World → Prop} {md : Region.Mode} {S : World → Prop} {T : Nat}

/-- Whatever order comes: S holds behind each operation but T. -/
def AnyT (P : Program) (md : Region.Mode) (ops : Array Oper) (Q : Exit → Act → World → Prop) (S : World → Prop) (T : Nat) : Nat → Array Bool → Act → World → Prop
  | 0, listed, a, w => Region.ready md ops listed = [] ∧ Q .normal a w
  | fuel + 1, listed, a, w =>
    (Region.ready md ops listed = [] → Q .normal a w) ∧
    ∀ i ∈ Region.ready md ops listed, wpOp P ops Q i (fun a' w' => (i ≠ T → S w') ∧ AnyT P md ops Q S T fuel (listed.setIfInBounds i true) a' w') a w
theorem AnyT.any : ∀ (fuel : Nat) (listed : Array Bool) (a : Act) (w : World), AnyT P md ops Q S T fuel listed a w → wpAny P md ops Q fuel listed a w
  | 0, _, _, _, h => h
  | fuel + 1, _, _, _, h => ⟨h.1, fun i hi => wpOp_mono (fun a' w' h' => AnyT.any fuel _ a' w' h'.2) (h.2 i hi)⟩
/-- t waits for i, through others or by itself. -/
inductive Reach (md : Region.Mode) (ops : Array Oper) : Nat → Nat → Prop
  | one {t i : Nat} (h : Region.waitsFor md ops t i = true) : Reach md ops t i
  | more {t x i : Nat} (h : Reach md ops t x) (h' : Region.waitsFor md ops x i = true) : Reach md ops t i
def reachL (md : Region.Mode) (ops : Array Oper) : Nat → List Nat → List Nat
  | 0, s => s
  | n + 1, s => reachL md ops n ((List.range ops.size).filter fun x => s.contains x || s.any fun t => Region.waitsFor md ops t x)
theorem reachL_reach {t : Nat} : ∀ (n : Nat) (s : List Nat), (∀ x ∈ s, x = t ∨ Reach md ops t x) → ∀ x ∈ reachL md ops n s, x = t ∨ Reach md ops t x
  | 0, _, h => h
  | n + 1, s, h => reachL_reach n _ (fun x hx => by
    have h1 := (List.mem_filter.1 hx).2
    rcases Bool.or_eq_true _ _ ▸ h1 with h2 | h2
    · exact h x (by simpa using h2)
    · obtain ⟨y, hy, h3⟩ := List.any_eq_true.1 h2
      rcases h y hy with rfl | h4
      · exact Or.inr (.one h3)
      · exact Or.inr (.more h4 h3))
/-- T waits for all ahead of it. -/
def lastB (md : Region.Mode) (ops : Array Oper) (T : Nat) : Bool := (fun r : List Nat => (List.range T).all r.contains) (reachL md ops ops.size [T])
theorem lastB_reach (h : lastB md ops T = true) {i : Nat} (hi : i < T) : Reach md ops T i := by
  have h1 := List.all_eq_true.1 (show (List.range T).all (reachL md ops ops.size [T]).contains = true from h) i (List.mem_range.2 hi)
  rcases reachL_reach (t := T) ops.size [T] (fun x hx => Or.inl (List.mem_singleton.1 hx)) i (by simpa using h1) with e | h
  · omega
  · exact h
/-- What is listed has all listed for which it waits. -/
def Closed (md : Region.Mode) (ops : Array Oper) (listed : Array Bool) : Prop := ∀ j oj, ops[j]? = some oj → listed.getD j false = true → ∀ e ∈ oj.after, Region.binds md e = true → listed.getD e.on false = true
theorem Closed.start (n : Nat) : Closed md ops (Array.replicate n false) := fun j oj _ hl => by rw [getD_replicate_false] at hl; cases hl
theorem Closed.set {listed : Array Bool} (h : Closed md ops listed) {i : Nat} (hi : i ∈ Region.ready md ops listed) : Closed md ops (listed.setIfInBounds i true) := by
  obtain ⟨_, oi, hoi, hall⟩ := mem_ready.1 hi
  have up : ∀ k, listed.getD k false = true → (listed.setIfInBounds i true).getD k false = true := fun k hk => by
    by_cases hik : i = k
    · subst hik
      rcases Nat.lt_or_ge i listed.size with h' | h'
      · simp [h']
      · simp [Array.getElem?_eq_none h'] at hk
    · rw [getD_set_ne false hik]; exact hk
  intro j oj hoj hl e he hb
  by_cases hij : i = j
  · subst hij
    rw [hoi] at hoj
    cases hoj
    exact up _ (hall e he hb)
  · rw [getD_set_ne false hij] at hl
    exact up _ (h j oj hoj hl e he hb)
theorem Closed.reach {listed : Array Bool} (h : Closed md ops listed) {t i : Nat} (hr : Reach md ops t i) (ht : ∀ oj, ops[t]? = some oj → ∀ e ∈ oj.after, Region.binds md e = true → listed.getD e.on false = true) : listed.getD i false = true := by
  induction hr with
  | one hw =>
    obtain ⟨oj, hoj, e, he, hb, hon⟩ := Region.waitsFor_spec hw
    rw [← hon]
    exact ht oj hoj e he hb
  | more _ hw ih =>
    obtain ⟨oj, hoj, e, he, hb, hon⟩ := Region.waitsFor_spec hw
    rw [← hon]
    exact h _ oj hoj ih e he hb
/-- An operation for which T waits may be taken first. -/
theorem AnyT.first {i : Nat} {oi : Oper} {v : Value} (hi : ops[i]? = some oi) (hT : Reach md ops T i) (hsel : ∀ (j : Nat) (o : Oper) cs b, ops[j]? = some o → o.op ≠ .select cs b)
    (hQ : ∀ c a w, Q (.panic c) (a.put oi.dst v) w → Q (.panic c) a w) :
    ∀ (fuel : Nat) (listed : Array Bool) (a : Act) (w : World),
      (∀ j oj, ops[j]? = some oj → j ≠ i → listed.getD j true = false → (∀ e ∈ oj.after, Region.binds md e = true → e.on ≠ i) → oi.apart ops oj = true) →
      i ∈ Region.ready md ops listed → Closed md ops listed → YieldsIf P ops S oi v a → S w →
      AnyT P md ops Q S T fuel (listed.setIfInBounds i true) (a.put oi.dst v) w → AnyT P md ops Q S T (fuel + 1) listed a w := by
  have key : ∀ (listed : Array Bool) (j : Nat) (oj : Oper), ops[j]? = some oj → i ∈ Region.ready md ops listed → (∀ e ∈ oj.after, Region.binds md e = true → listed.getD e.on false = true) → ∀ e ∈ oj.after, Region.binds md e = true → e.on ≠ i := by
    intro listed j oj _ hr hall e he hb heq
    have h1 := hall e he hb
    have h0 := (mem_ready.1 hr).1
    rw [heq] at h1
    rcases Nat.lt_or_ge i listed.size with h' | h'
    · simp [h'] at h0 h1
      rw [h0] at h1
      cases h1
    · simp [Array.getElem?_eq_none h'] at h1
  intro fuel
  induction fuel with
  | zero =>
    intro listed a w _ hr _ hy hS H
    refine ⟨fun h => (by rw [h] at hr; cases hr), fun j hj => ?_⟩
    by_cases hji : j = i
    · subst hji; exact hy.wpOp hi hS ⟨fun _ => hS, H⟩
    · have := ready_mono hj hji
      rw [H.1] at this
      cases this
  | succ fuel ih =>
    intro listed a w hfree hr hcl hy hS H
    refine ⟨fun h => (by rw [h] at hr; cases hr), fun j hj => ?_⟩
    by_cases hji : j = i
    · subst hji; exact hy.wpOp hi hS ⟨fun _ => hS, H⟩
    · have h1 := H.2 j (ready_mono hj hji)
      obtain ⟨hjun, oj, hoj, hall⟩ := mem_ready.1 hj
      have hnot := key listed j oj hoj hr hall
      have hjT : j ≠ T := by
        rintro rfl
        have h1 := hcl.reach hT (fun o' ho' => by rw [hoj] at ho'; cases ho'; exact hall)
        have h0 := (mem_ready.1 hr).1
        rcases Nat.lt_or_ge i listed.size with h' | h'
        · simp [h'] at h0 h1
          rw [h0] at h1
          cases h1
        · simp [Array.getElem?_eq_none h'] at h1
      have h2 := wpOp_putIf hoj (hfree j oj hoj hji hjun hnot) (fun cs b => hsel i oi cs b hi) (fun cs b => hsel j oj cs b hoj) hQ hy h1
      refine wpOp_mono (fun a' w' h3 => ⟨h3.2.1, ih (listed.setIfInBounds j true) a' w' (fun k ok hk hki hun hno => hfree k ok hk hki ?_ hno) (ready_mono hr (Ne.symm hji)) (hcl.set hj) h3.1 (h3.2.1 hjT) ?_⟩) h2
      · by_cases hjk : j = k
        · subst hjk; exact hjun
        · rw [getD_set_ne true hjk] at hun; exact hun
      · rw [Array.setIfInBounds_comm _ _ hji]
        exact h3.2.2
theorem AnyT.take {i : Nat} {oi : Oper} {v : Value} {fuel : Nat} {listed : Array Bool} {a : Act} {w : World} (hL : lastB md ops T = true) (hcl : Closed md ops listed) (hi : ops[i]? = some oi) (hiT : i < T)
    (hs : Region.noSelect ops = true) (hf : Region.free md ops listed i = true) (hr : (Region.ready md ops listed).contains i = true)
    (hQ : ∀ c a w, Q (.panic c) (a.put oi.dst v) w → Q (.panic c) a w) (hy : YieldsIf P ops S oi v a) (hS : S w)
    (h : Closed md ops (listed.setIfInBounds i true) → AnyT P md ops Q S T fuel (listed.setIfInBounds i true) (a.put oi.dst v) w) : AnyT P md ops Q S T (fuel + 1) listed a w :=
  AnyT.first hi (lastB_reach hL hiT) (Region.noSelect_spec hs) hQ fuel listed a w (Region.free_spec hi hf) (by simpa using hr) hcl hy hS (h (hcl.set (by simpa using hr)))
/-- The one operation that is ready. -/
theorem AnyT.one {i : Nat} {o : Oper} {fuel : Nat} {listed : Array Bool} {a : Act} {w : World} (hcl : Closed md ops listed) (hr : Region.ready md ops listed = [i]) (ho : ops[i]? = some o)
    (h : ∀ K' : Act → World → Prop, Shut (∀ a w, (i ≠ T → S w) → ((i ≠ T → S w) → Closed md ops (listed.setIfInBounds i true) → AnyT P md ops Q S T fuel (listed.setIfInBounds i true) a w) → K' a w) → if Region.wanted o (yielded ops a.tmps) = true then Oper.wp P o a w K' Q else K' (a.put o.dst undef) w) :
    AnyT P md ops Q S T (fuel + 1) listed a w :=
  ⟨fun h0 => absurd (hr ▸ h0) (by simp), hr ▸ fun j hj => by
    rw [List.mem_singleton.1 hj]
    exact wpOp_step ho (fun K' hK => h K' (fun a w hS hW => hK a w ⟨hS, hW hS (hcl.set (by rw [hr]; exact List.mem_singleton.2 rfl))⟩))⟩
theorem AnyT.done {listed : Array Bool} {a : Act} {w : World} (hr : Region.ready md ops listed = []) (h : Q .normal a w) : ∀ fuel, AnyT P md ops Q S T fuel listed a w
  | 0 => ⟨hr, h⟩
  | _ + 1 => ⟨fun _ => h, by rw [hr]; simp⟩
theorem wp_region_tail {id : Nat} {a : Act} {w : World} (S : World → Prop) (T : Nat) (hm : P.follows .mixedOrders = true) (hL : lastB .any ops T = true) (hS : S w.drew)
    (h : S w.drew → lastB .any ops T = true → Closed .any ops (Array.replicate ops.size false) → AnyT P .any ops Q S T ops.size (Array.replicate ops.size false) a w.drew) : (Code.region id ops true).wp P Q a w :=
  wp_region_any hm (AnyT.any _ _ _ _ (h hS hL (Closed.start _)))
end
end Go.Proofs.YtgofmnhfajmbfaaGreatDoor

namespace Go.Proofs.YtgofmnhfajmbfaaGreatDoor
open Go Go.RowKit Txt Sp

theorem infoChange : (Tryz.prog.info? 209).map (fun i => (i.zero, i.size, i.bytes)) = some (some (.agg #[.int .i64 0, .int .i64 0, .int .i64 0, .string ByteArray.empty, .slice none 0 0, .int .i64 0]), 6, 72) := by kernel_rfl
/-- A field of the changes is written. -/
theorem DepsAt.field {w : World} {base B : Nat} {d : Sp.Deps} {D : Nat → Prop} (h : DepsAt w base B d D) (last : Nat) : DepsAt (w.setCell ⟨B, 1, none⟩ (.int .i64 (last : Int))) base B ⟨d.l, last⟩ D := by
  obtain ⟨⟨v, ps, h1, h2, h3, h4, h5⟩, ho, hl⟩ := h
  have hT : Turn (fun j => j = B) w (w.setCell ⟨B, 1, none⟩ (.int .i64 (last : Int))) := setCell_turn
  have ne : ∀ {e : TypeId} {sz b0 : Nat} {α : Type} {f : α → List Value} {u : Value} {l : List α}, e ≠ 207 → OwnR e sz f b0 w u l → ∀ k, u.ownBlock = some k → k ≠ B := by
    intro e sz b0 α f u l he hu k hk hkB
    subst hkB
    obtain ⟨_, ⟨rfl, _⟩ | ⟨g, cap, cur, rfl, hg, hh, _⟩⟩ := hu
    · cases hk
    · cases hk
      unfold depsO at h1
      rw [h1] at hh
      cases hh
      exact he rfl
  refine ⟨⟨v, ps, ?_, h2, h3.turn hT (ne (by decide) h3), h4, fun x hx => ⟨(h5 x hx).1.turn hT (ne (by decide) (h5 x hx).1), (h5 x hx).2⟩⟩, ho, hl⟩
  have := setHeap_at (k := 1) h1 (.int .i64 (last : Int))
  exact this
/-- A change more. -/
theorem DepsAt.more {w w8 w9 : World} {base B : Nat} {d : Sp.Deps} {D : Nat → Prop} {v' u : Value} {ps : List (Chg × Value)} (h1 : w.heap[B]? = some (depsO v' d.last)) (h2 : ps.map Prod.fst = d.l) (h3 : OwnR 209 6 chgC base w v' ps) (h4 : ∀ k, v'.ownBlock = some k → D k)
    (h5 : ∀ x ∈ ps, OwnR 3 1 intC 0 w x.2 x.1.ahead ∧ ∀ k, x.2.ownBlock = some k → D k ∨ k < base) (ho : D B) (hl : base ≤ B) (hb : Below w.heap.size w w8) {n g cap : Nat} (hn : n = d.l.length) {c : Chg} (hu : OwnR 3 1 intC 0 w u c.ahead)
    (hg : w8.grownBy w9 v'.ownBlock) (hrow : w9.ownsRow base 209 6 (.slice (some ⟨g, 0, none⟩) (n + 1) cap) (n + 1) (ps.flatMap chgC ++ chgC (c, u))) :
    DepsAt (w9.setCell ⟨B, 0, none⟩ (.slice (some ⟨g, 0, none⟩) (n + 1) cap)) base B ⟨d.l ++ [c], d.last⟩ (fun j => D j ∨ j = g ∨ u.ownBlock = some j) ∧
      w9.cell? ⟨B, 0, none⟩ = some v' ∧ w9.cell? ⟨B, 1, none⟩ = some (.int .i64 (d.last : Int)) ∧ w9.frozen? ⟨B, 0, none⟩ = false ∧
      Turn (fun j => j = B ∨ v'.ownBlock = some j) w (w9.setCell ⟨B, 0, none⟩ (.slice (some ⟨g, 0, none⟩) (n + 1) cap)) ∧
      (∀ j, v'.ownBlock = some j → D j ∧ ∃ cs, w.heap[j]? = some (.cells cs 209 (0, 0))) ∧ g < w9.heap.size := by
  have hBw : B < w.heap.size := (Array.getElem?_eq_some_iff.1 h1).1
  have hown2 : ∀ j, v'.ownBlock = some j → ∃ cs, w.heap[j]? = some (.cells cs 209 (0, 0)) := by
    intro j hj
    obtain ⟨_, ⟨rfl, _⟩ | ⟨g', cap', cur, rfl, hg', hh, _⟩⟩ := h3
    · cases hj
    · cases hj
      exact ⟨cur, hh⟩
  have hBv : v'.ownBlock ≠ some B := fun e => by
    obtain ⟨cs, hcs⟩ := hown2 B e
    rw [h1] at hcs
    unfold depsO at hcs
    cases hcs
  have h18 := heapOld hb h1
  have h19 : w9.heap[B]? = some (depsO v' d.last) := (hg.block B (Nat.lt_of_lt_of_le hBw hb.size) (fun e => hBv e.symm)).trans h18
  have hBg : B ≠ g := fun e => by
    obtain ⟨_, ⟨hh, _⟩ | ⟨g', cap', cur, hh, _, h9, _⟩⟩ := hrow
    · cases hh
    · cases hh
      rw [← e, h19] at h9
      unfold depsO at h9
      cases h9
  have hT1 : Turn (fun j => v'.ownBlock = some j) w w9 :=
    ⟨hg.os.trans hb.os, hg.tape.trans hb.tape, hg.output.trans hb.output, Nat.le_trans hb.size hg.size, fun k hk hne => (hg.block k (Nat.lt_of_lt_of_le hk hb.size) (fun e => hne e.symm)).trans (hb.block k hk)⟩
  have hT2 : Turn (fun j => j = B) w9 (w9.setCell ⟨B, 0, none⟩ (.slice (some ⟨g, 0, none⟩) (n + 1) cap)) := setCell_turn
  have hT : Turn (fun j => j = B ∨ v'.ownBlock = some j) w (w9.setCell ⟨B, 0, none⟩ (.slice (some ⟨g, 0, none⟩) (n + 1) cap)) := hT1.trans hT2 (fun k _ e => Or.inr e) (fun k _ e => Or.inl e)
  have hint : ∀ {u : Value} {l : List Int}, OwnR 3 1 intC 0 w u l → OwnR 3 1 intC 0 (w9.setCell ⟨B, 0, none⟩ (.slice (some ⟨g, 0, none⟩) (n + 1) cap)) u l := by
    intro u l hu
    refine hu.turn hT (fun k hk hK => ?_)
    obtain ⟨_, ⟨rfl, _⟩ | ⟨g', cap', cur, rfl, _, hh, _⟩⟩ := hu
    · cases hk
    · cases hk
      rcases hK with e | e
      · have e : g' = B := e
        rw [e, h1] at hh
        unfold depsO at hh
        cases hh
      · obtain ⟨cs, hcs⟩ := hown2 _ e
        have hcs : w.heap[g']? = _ := hcs
        rw [hcs] at hh
        cases hh
  have hlen : ps.length = n := by rw [hn, ← h2, List.length_map]
  refine ⟨⟨⟨_, ps ++ [(c, u)], setHeap_at (k := 0) h19 _, by rw [List.map_append, h2]; rfl, ?_, fun k hk => ?_, fun x hx => ?_⟩, Or.inl ho, hl⟩, cellOf (k := 0) h19 rfl, cellOf (k := 1) h19 rfl, freeOf h19, hT, fun j hj => ⟨h4 j hj, hown2 j hj⟩, ?_⟩
  · have h10 : OwnR 209 6 chgC base w9 (.slice (some ⟨g, 0, none⟩) (n + 1) cap) (ps ++ [(c, u)]) := OwnR.snoc (f := chgC) hrow rfl (by rw [hlen])
    exact h10.turn hT2 (fun k hk e => by cases hk; exact hBg e.symm)
  · cases hk
    exact Or.inr (Or.inl rfl)
  · rcases List.mem_append.1 hx with hx | hx
    · exact ⟨hint (h5 x hx).1, fun k hk => ((h5 x hx).2 k hk).imp_left Or.inl⟩
    · rw [List.mem_singleton.1 hx]
      exact ⟨hint hu, fun k hk => Or.inl (Or.inr (Or.inr hk))⟩
  · obtain ⟨_, ⟨hh, _⟩ | ⟨g', cap', cur, hh, _, h9, _⟩⟩ := hrow
    · cases hh
    · cases hh
      exact (Array.getElem?_eq_some_iff.1 h9).1
end Go.Proofs.YtgofmnhfajmbfaaGreatDoor

namespace Go.Proofs.YtgofmnhfajmbfaaGreatDoor
open Go Go.RowKit Txt Sp

/-- slices.Clone of numbers. -/
theorem cloneInts_any {w : World} {v : Value} {l : List Int} (hv : Ints w v l) (hl : l.length ≤ 1000000) :
    Calls Tryz.prog 260 #[v] w fun e w' => ∃ v', e = .returned v' ∧ OwnR 3 1 intC w.heap.size w' v' l ∧ Below w.heap.size w w' := by
  obtain ⟨ad, n, cap, rfl, HN, hn, HF⟩ := RowAt.facts (f := fun n : Int => [Value.int .i64 n]) hv
  have hnl := HN.out
  cases hl0 : l with
  | nil =>
    rw [hl0] at hnl
    obtain rfl : n = 0 := hnl
    cases ad with
    | none =>
      refine (Tryz.slices_Clone_int_nil 0 cap w).mono ?_
      rintro e w' ⟨rfl, rfl⟩
      exact ⟨_, rfl, OwnR.void _ _, Below.refl _ _⟩
    | some a =>
      refine (Tryz.slices_Clone_int_zero a cap w).mono ?_
      rintro e w' ⟨v', rfl, h1, _, h2⟩
      exact ⟨_, rfl, h1, h2⟩
  | cons x r =>
    have hpos : 0 < n := by rw [hnl, hl0]; simp
    obtain ⟨b, o, y, rfl, hb, _, _⟩ := HF.out 0 hpos
    refine (Tryz.slices_Clone_int b o n cap l w (by omega) (by omega) (fun j hj => ?_)).mono ?_
    · obtain ⟨b', o', z, e, _, hz, hc⟩ := HF.out j (by omega)
      cases e
      have := hc 0 _ rfl
      simp only [Nat.mul_one, Nat.add_zero] at this
      rw [this, List.getD_eq_getElem?_getD, hz]
      rfl
    · rintro e w' ⟨v', rfl, h1, _, h2⟩
      refine ⟨v', rfl, ?_, h2⟩
      unfold OwnR
      rw [← hl0, intC_map]
      rw [List.take_of_length_le (by omega), hnl] at h1
      exact h1
/-- What Add leaves. -/
def AddPost (w : World) (base B : Nat) (d : Sp.Deps) (D : Nat → Prop) (i off : Int) (b : ByteArray) (ahead : List Int) (e : Ending) (w' : World) : Prop :=
  e = .returned (.tuple #[.int .i64 (if d.addC i off b ahead = 0 then (d.last : Int) + 1 else 0), .int .i64 (d.addC i off b ahead)]) ∧
  DepsAt w' base B (d.add i off b ahead) (fun j => D j ∨ (w.heap.size ≤ j ∧ j < w'.heap.size)) ∧
  ∃ K, (∀ j, K j → D j ∧ ∃ cs fr e, w.heap[j]? = some (.cells cs e fr) ∧ (e = 207 ∨ e = 209)) ∧ Turn K w w'
theorem add_err {w w' : World} {base B : Nat} {d : Sp.Deps} {D : Nat → Prop} {i off : Int} {b : ByteArray} {ahead : List Int} {c : Int} (h : DepsAt w base B d D) (hc : d.addC i off b ahead = c) (hn : c ≠ 0) (hb : Below w.heap.size w w') :
    AddPost w base B d D i off b ahead (.returned (.tuple #[.int .i64 0, .int .i64 c])) w' := by
  have hd : d.add i off b ahead = d := by unfold Sp.Deps.add; rw [if_neg (by rw [hc]; exact hn)]
  refine ⟨by rw [hc, if_neg hn], ?_, fun _ => False, fun _ h => h.elim, Turn.of_below hb⟩
  rw [hd]
  exact (h.below hb).mono (fun k hk => Or.inl hk)
section
set_option maxHeartbeats 4000000
set_option maxRecDepth 20000 in
theorem depsAdd_range {w : World} {base B : Nat} {d : Sp.Deps} {D : Nat → Prop} (h : DepsAt w base B d D) (i off : Int) (b : ByteArray) (v : Value) (ahead : List Int) (hr : ¬ (0 ≤ i ∧ i < 2048 ∧ inside off b.size)) :
    Calls Tryz.prog 242 #[pt B, .int .i64 i, .agg #[.int .i64 off, .string b], v] w (AddPost w base B d D i off b ahead) := by
  have hc : d.addC i off b ahead = 1 := if_neg hr
  have hno := fun (w' : World) (hb : Below w.heap.size w w') => add_err h hc (by decide) hb
  obtain ⟨Q, hQ⟩ : ∃ Q, AddPost w base B d D i off b ahead = Q := ⟨_, rfl⟩
  rw [hQ] at hno ⊢
  have hck := fun W : World => fcheck_any W off b
  unfold pt
  by_cases h1 : i < 0
  · have q1 : decide (i < 0) = true := decide_eq_true h1
    have HNO := Lib.hid hno
    clear hno
    clear hQ hc hr h hck
    go_enter Tryz.func242, Tryz.ntmps242
    go_wp2
    first | exact HNO.out _ (bl1 (bl2 _) _) | (go_ret2; exact HNO.out _ (bl1 (bl2 _) _))
  have q1 : decide (i < 0) = false := decide_eq_false h1
  by_cases h2 : 2048 ≤ i
  · have q2 : decide (i ≥ 2048) = true := decide_eq_true h2
    have HNO := Lib.hid hno
    clear hno
    clear hQ hc hr h hck
    go_enter Tryz.func242, Tryz.ntmps242
    go_wp2
    first | exact HNO.out _ (bl1 (bl2 _) _) | (go_ret2; exact HNO.out _ (bl1 (bl2 _) _))
  have q2 : decide (i ≥ 2048) = false := decide_eq_false h2
  rw [if_neg (fun h => hr ⟨by omega, by omega, h⟩)] at hck
  have HNO := Lib.hid hno
  have HCK := Lib.hid hck
  clear hno hck
  clear hQ hc hr h
  go_enter Tryz.func242, Tryz.ntmps242
  go_wp2_with fail
  refine (HCK.out _).mono ?_
  rintro e w1 ⟨rfl, hb1⟩
  have HB1 := Lib.hid (blN (bl1 (bl2 _) _) hb1)
  clear hb1
  go_wp2
  first | exact HNO.out _ HB1.out | (go_ret2; exact HNO.out _ HB1.out)
theorem overs_step {d : Sp.Deps} {i off : Int} {b : ByteArray} {k : Nat} {c : Chg} (hc : d.l[k]? = some c) :
    (((d.l.take (k + 1)).filter (fun c => decide (c.at_ = i ∧ c.over off b))).map (fun c => (c.num : Int))) = (((d.l.take k).filter (fun c => decide (c.at_ = i ∧ c.over off b))).map (fun c => (c.num : Int))) ++ (if c.at_ = i ∧ c.over off b then [(c.num : Int)] else []) := by
  rw [take_step hc, List.filter_append, List.map_append]
  congr 1
  by_cases h : c.at_ = i ∧ c.over off b
  · rw [if_pos h, List.filter_cons, if_pos (decide_eq_true h)]; rfl
  · rw [if_neg h, List.filter_cons, if_neg (by simpa using h)]; rfl
set_option maxRecDepth 20000 in
theorem depsAdd_in {w : World} {base B : Nat} {d : Sp.Deps} {D : Nat → Prop} (h : DepsAt w base B d D) (hok : d.Ok) (hlast : d.last < 1000000000) (i off : Int) (b : ByteArray) (v : Value) (ahead : List Int) (hv : Ints w v ahead) (hal : ahead.length ≤ 100000) (hr : 0 ≤ i ∧ i < 2048 ∧ inside off b.size) :
    Calls Tryz.prog 242 #[pt B, .int .i64 i, .agg #[.int .i64 off, .string b], v] w (AddPost w base B d D i off b ahead) := by
  have hc : d.addC i off b ahead = if ∃ n ∈ ahead, n < 1 ∨ (d.last : Int) < n then 5 else if 1024 ≤ d.l.length then 2 else 0 := if_pos hr
  have hck := fun W : World => fcheck_any W off b
  rw [if_pos hr.2.2] at hck
  have q1 : decide (i < 0) = false := decide_eq_false (by omega)
  have q2 : decide (i ≥ 2048) = false := decide_eq_false (by omega)
  obtain ⟨ad, n, cap, c0, c1, hBl, HN, hn, HF⟩ := h.open
  have hnl := HN.out
  have HC : Hid (∀ W, Below w.heap.size w W → W.cell? ⟨B, 0, none⟩ = some (.slice ad n cap) ∧ W.cell? ⟨B, 1, none⟩ = some (.int .i64 (d.last : Int))) := fun W hW => ⟨(hW.cell (p := ⟨B, 0, none⟩) hBl).trans c0, (hW.cell (p := ⟨B, 1, none⟩) hBl).trans c1⟩
  obtain ⟨W2, hW2⟩ : ∃ W, (w.alloc (.cells #[.pointer (some ⟨B, 0, none⟩)] 114)).alloc (.cells #[.int .i64 off, .string b] 167) = W := ⟨_, rfl⟩
  have HB2 : Hid (Below w.heap.size w W2) := by rw [← hW2]; exact bl1 (bl2 _) _
  have HZ0 : Hid (W2.heap[w.heap.size]? = some (.cells #[.pointer (some ⟨B, 0, none⟩)] 114 (0, 0))) := by rw [← hW2]; exact heapOld (bl2 _) (heapNew w _)
  have HZ1 : Hid (W2.heap[w.heap.size + 1]? = some (.cells #[.int .i64 off, .string b] 167 (0, 0))) := by
    rw [← hW2]
    have := heapNew (w.alloc (.cells #[.pointer (some ⟨B, 0, none⟩)] 114)) (.cells #[.int .i64 off, .string b] 167)
    rw [show (w.alloc (.cells #[.pointer (some ⟨B, 0, none⟩)] 114)).heap.size = w.heap.size + 1 by simp] at this
    exact this
  have HX : Hid (∀ W, Below W2.heap.size W2 W → W.cell? ⟨w.heap.size, 0, none⟩ = some (.pointer (some ⟨B, 0, none⟩)) ∧ W.cell? ⟨w.heap.size + 1, 0, none⟩ = some (.int .i64 off) ∧ W.cell? ⟨w.heap.size + 1, 1, none⟩ = some (.string b)) := fun W hW =>
    ⟨cellOf (k := 0) (heapOld hW HZ0.out) rfl, cellOf (k := 0) (heapOld hW HZ1.out) rfl, cellOf (k := 1) (heapOld hW HZ1.out) rfl⟩
  have hco := fun (W : World) (hW : Below W2.heap.size W2 W) => addContains_any W v ahead B w.heap.size (d.last : Int) (hv.below (blN HB2.out hW)) (HX.out W hW).1 (HC.out W (blN HB2.out hW)).2
  obtain ⟨x0, x1, x2⟩ := HX.out W2 (Below.refl _ _)
  have hno := fun (c : Int) (hcc : d.addC i off b ahead = c) (hcn : c ≠ 0) (w' : World) (hb : Below w.heap.size w w') => add_err h hcc hcn hb
  obtain ⟨Q, hQ⟩ : ∃ Q, AddPost w base B d D i off b ahead = Q := ⟨_, rfl⟩
  rw [hQ] at hno ⊢
  by_cases h5 : ∃ n ∈ ahead, n < 1 ∨ (d.last : Int) < n
  · rw [if_pos h5] at hc
    have HNo := Lib.hid (hno 5 hc (by decide))
    rw [decide_eq_true h5] at hco
    unfold pt
    have HCK := Lib.hid hck
    have HCO := Lib.hid hco
    clear hck hco
    clear h5 hc hno hQ h hok hv hal hr c0 c1 hnl
    go_enter Tryz.func242, Tryz.ntmps242
    go_wp2_with fail
    refine (HCK.out _).mono ?_
    rintro e w3 ⟨rfl, hb3⟩
    have HB3 : Hid (Below W2.heap.size W2 w3) := hb3
    clear hb3 x0 x1 x2 hW2
    go_wp2_with fail
    refine (HCO.out _ HB3.out).mono ?_
    rintro e w4 ⟨rfl, hw4⟩
    subst hw4
    go_wp2
    first | exact HNo.out _ (blN HB2.out HB3.out) | (go_ret2; exact HNo.out _ (blN HB2.out HB3.out))
  rw [if_neg h5] at hc
  rw [decide_eq_false h5] at hco
  by_cases h2 : 1024 ≤ d.l.length
  · rw [if_pos h2] at hc
    have HNo := Lib.hid (hno 2 hc (by decide))
    have q3 : decide ((n : Int) ≥ 1024) = true := decide_eq_true (by omega)
    unfold pt
    have HCK := Lib.hid hck
    have HCO := Lib.hid hco
    clear hck hco
    clear h5 h2 hc hno hQ h hok hv hal hr c0 c1 hnl
    go_enter Tryz.func242, Tryz.ntmps242
    go_wp2_with fail
    refine (HCK.out _).mono ?_
    rintro e w3 ⟨rfl, hb3⟩
    have HB3 : Hid (Below W2.heap.size W2 w3) := hb3
    clear hb3 x0 x1 x2 hW2
    go_wp2_with fail
    refine (HCO.out _ HB3.out).mono ?_
    rintro e w4 ⟨rfl, hw4⟩
    subst hw4
    obtain ⟨k0, k1⟩ := HC.out w3 (blN HB2.out HB3.out)
    obtain ⟨x0, x1, x2⟩ := HX.out w3 HB3.out
    go_wp2
    first | exact HNo.out _ (blN HB2.out HB3.out) | (go_ret2; exact HNo.out _ (blN HB2.out HB3.out))
  rw [if_neg h2] at hc
  have q3 : decide ((n : Int) ≥ 1024) = false := decide_eq_false (by omega)
  have hcl := fun (W : World) (hW : Below w.heap.size w W) => cloneInts_any (hv.below hW) (by omega)
  obtain ⟨OV, hOV⟩ : ∃ OV : Nat → List Int, (fun k => ahead ++ (((d.l.take k).filter (fun c => decide (c.at_ = i ∧ c.over off b))).map (fun c => (c.num : Int)))) = OV := ⟨_, rfl⟩
  have hOe : ∀ k, ahead ++ (((d.l.take k).filter (fun c => decide (c.at_ = i ∧ c.over off b))).map (fun c => (c.num : Int))) = OV k := fun k => by rw [← hOV]
  have hO0 : OV 0 = ahead := by rw [← hOe]; simp
  have hOs : ∀ k c, d.l[k]? = some c → OV (k + 1) = OV k ++ (if c.at_ = i ∧ c.over off b then [(c.num : Int)] else []) := fun k c hk => by rw [← hOe, ← hOe, overs_step hk, List.append_assoc]
  have hOl : ∀ k, (OV k).length ≤ 200000 := fun k => by
    rw [← hOe, List.length_append, List.length_map]
    have := List.length_filter_le (fun c : Chg => decide (c.at_ = i ∧ c.over off b)) (d.l.take k)
    rw [List.length_take] at this
    omega
  have hOn : OV n = ahead ++ d.overs i off b := by rw [← hOe, hnl, List.take_length]; rfl
  have hov := fun (k : Nat) (c : Chg) (hk : d.l[k]? = some c) (W : World) => foverlap_any W c.off off c.bytes b (hok.fit c (List.mem_of_getElem? hk)) hr.2.2
  have HDep := Lib.hid h
  unfold pt
  have HCK := Lib.hid hck
  have HCO := Lib.hid hco
  have HCL := Lib.hid hcl
  have HOS := Lib.hid hOs
  have HOL := Lib.hid hOl
  have HOV := Lib.hid hov
  clear hck hco hcl hOs hOl hov
  have HO0 := Lib.hid hO0
  have HOn := Lib.hid hOn
  have HCode := Lib.hid hc
  have HQ := Lib.hid hQ
  have HIn := Lib.hid hr
  have HOk := Lib.hid hok
  have HLen := Lib.hid h2
  clear h5 h2 hno hQ h hok hv hal hr c0 c1 hnl hO0 hOn hOV hOe hc
  go_enter Tryz.func242, Tryz.ntmps242
  go_wp2_with fail
  refine (HCK.out _).mono ?_
  rintro e w3 ⟨rfl, hb3⟩
  have HB3 : Hid (Below W2.heap.size W2 w3) := hb3
  clear hb3 x0 x1 x2 hW2
  go_wp2_with fail
  refine (HCO.out _ HB3.out).mono ?_
  rintro e w4 ⟨rfl, hw4⟩
  subst hw4
  obtain ⟨k0, k1⟩ := HC.out w3 (blN HB2.out HB3.out)
  obtain ⟨x0, x1, x2⟩ := HX.out w3 HB3.out
  go_wp2_with fail
  refine (HCL.out _ (blN HB2.out HB3.out)).mono ?_
  rintro e w5 ⟨v5, rfl, hv5, hb5⟩
  have HB5 := Lib.hid (blN HB3.out hb5)
  have HV5 : Hid (OwnR 3 1 intC W2.heap.size w5 v5 (OV 0)) := by rw [HO0.out]; exact hv5.mono HB3.out.size
  clear hv5 hb5 k0 k1 x0 x1 x2
  obtain ⟨k0, k1⟩ := HC.out w5 (blN HB2.out HB5.out)
  obtain ⟨x0, x1, x2⟩ := HX.out w5 HB5.out
  go_wp2_with fail
  clear k0 k1 x0 x1 x2
  go_loopw [10, 42] (fun out q wr => ∃ k : Nat, k ≤ n ∧ q = .int .i64 (k : Int) ∧ Hid (OwnR 3 1 intC W2.heap.size wr out (OV k)) ∧ Hid (Below W2.heap.size W2 wr)) (fun _ q _ => n - (intOf q).toNat)
  case atStart => exact ⟨0, Nat.zero_le _, rfl, HV5, HB5⟩
  case round =>
    obtain ⟨k, hk, rfl, HO, HB⟩ := hrel
    by_cases hlt : k < n
    · --[
      obtain ⟨bb, o, c, ua, un, uc, rfl, hb, hx, hc⟩ := HF.out k hlt
      have hst := HOS.out k c hx
      have hovk := HOV.out k c hx
      have hover : decide (max c.off off < min (c.off + c.bytes.size) (off + b.size)) = decide (c.over off b) := rfl
      obtain ⟨bo, hbo⟩ : ∃ q, decide (c.over off b) = q := ⟨_, rfl⟩
      rw [hover, hbo] at hovk
      have hon : (if c.at_ = i ∧ c.over off b then [(c.num : Int)] else []) = if bo = true ∧ c.at_ = i then [(c.num : Int)] else [] := by
        rw [← hbo]
        by_cases h1 : c.at_ = i <;> by_cases h2 : c.over off b <;> simp [h1, h2]
      rw [hon] at hst
      clear hon hbo hover
      obtain ⟨cn, ca, co, cb, ch, cs⟩ := c
      have hbw := blN HB2.out HB.out
      have c0 := (hbw.cell (p := ⟨bb, o + k * 6 + 0, none⟩) hb).trans (hc 0 _ rfl)
      have c1 := (hbw.cell (p := ⟨bb, o + k * 6 + 1, none⟩) hb).trans (hc 1 _ rfl)
      have c2 := (hbw.cell (p := ⟨bb, o + k * 6 + 2, none⟩) hb).trans (hc 2 _ rfl)
      have c3 := (hbw.cell (p := ⟨bb, o + k * 6 + 3, none⟩) hb).trans (hc 3 _ rfl)
      have c4 := (hbw.cell (p := ⟨bb, o + k * 6 + 4, none⟩) hb).trans (hc 4 _ rfl)
      have c5 := (hbw.cell (p := ⟨bb, o + k * 6 + 5, none⟩) hb).trans (hc 5 _ rfl)
      simp only [Nat.add_zero] at c0
      dsimp only at hst hovk
      obtain ⟨W6, hW6⟩ : ∃ W, wr.alloc (.cells #[.int .i64 (cn : Int), .int .i64 ca, .int .i64 co, .string cb, .slice ua un uc, .int .i64 cs] 209) = W := ⟨_, rfl⟩
      have HB6 : Hid (Below W2.heap.size W2 W6) := by rw [← hW6]; exact bl1 HB.out _
      have HR6 : Hid (Below wr.heap.size wr W6) := by rw [← hW6]; exact bl2 _
      have HZ6 : Hid (W6.heap[wr.heap.size]? = some (.cells #[.int .i64 (cn : Int), .int .i64 ca, .int .i64 co, .string cb, .slice ua un uc, .int .i64 cs] 209 (0, 0))) := by rw [← hW6]; exact heapNew wr _
      have z2 := cellOf (k := 2) HZ6.out rfl
      have z3 := cellOf (k := 3) HZ6.out rfl
      obtain ⟨x0, x1, x2⟩ := HX.out W6 HB6.out
      have HSt := Lib.hid hst
      have HOk := Lib.hid hovk
      clear hst hovk hx hc hb hbw
      go_wp2_with fail
      clear hW6 c0 c1 c2 c3 c4 c5 z2 z3 x0 x1 x2
      refine (HOk.out _).mono ?_
      rintro e w7 ⟨rfl, hb7⟩
      have HB7 := Lib.hid (blN HB6.out hb7)
      have HO7 := Lib.hid (OwnR.below HO.out (blN HR6.out hb7))
      have hz7 := heapOld hb7 HZ6.out
      have z0 := cellOf (k := 0) hz7 rfl
      have z1 := cellOf (k := 1) hz7 rfl
      clear hb7 hz7
      cases bo with
      | false =>
        rw [if_neg (by simp), List.append_nil] at HSt
        go_wp2
        go_roundw
        case rel => exact ⟨k + 1, by omega, by go_num, by rw [HSt.out]; exact HO7, HB7⟩
        case measure => simp [intOf]; omega
      | true =>
        by_cases h1 : ca = i
        · have q5 : (ca == i) = true := beq_iff_eq.2 h1
          rw [if_pos ⟨rfl, h1⟩] at HSt
          have hll := HOL.out k
          clear h1
          obtain ⟨ia8, ib8, ic8, id8, ie8⟩ := info_parts infoInt
          have hrow8 := HO7.out
          unfold OwnR at hrow8
          have HRow8 := Lib.hid hrow8
          clear hrow8
          have HIb8 := Lib.hid ib8
          have HIc8 := Lib.hid ic8
          have HId8 := Lib.hid id8
          have HIe8 := Lib.hid ie8
          clear ib8 ic8 id8 ie8
          go_wp2_with (at_builtin; refine wpList_append_lies _ rfl _ _ _ rfl W2.heap.size 3 ia8 _ 1 8 Tryz.underlying58 HIb8.out HIc8.out HId8.out HIe8.out rfl (by decide) _ _ _ rfl (HRow8.out.alloc _) ⟨w7.heap.size, 0, none⟩ 1 1 [.int .i64 (cn : Int)] rfl rfl (World.news_of_block (cs := #[.int .i64 (cn : Int)]) (t := 3) (fr := (0, 0)) (heapNew w7 _)) (by simp [Value.oneCell']) (by omega) ?c1 ?c2 ?c3 (w7.heap.size + 1) (by simp) ?_)
          case c1 => unfold maxLen; omega
          case c2 => omega
          case c3 => have := HB7.out.size; first | (simp; done) | (simp; omega)
          intro g8 cap8 w8 hown8 hgrow8 hat8 hlt8
          have HO8 := Lib.hid (OwnR.snoc (f := intC) (x := (cn:Int)) hown8 rfl rfl)
          have HB8 : Hid (Below W2.heap.size _ w8) := Below.grown (bl1 HB7.out _) hgrow8 (bl1 HB7.out _).size (fun q hq => (HRow8.out.lt q hq).1)
          clear hown8 hgrow8 hat8 hlt8 HRow8
          go_wp2
          go_roundw
          case rel => exact ⟨k + 1, by omega, by go_num, by rw [HSt.out]; exact HO8, HB8⟩
          case measure => simp [intOf]; omega
        · have q5 : (ca == i) = false := beq_eq_false_iff_ne.2 h1
          rw [if_neg (fun h => h1 h.2), List.append_nil] at HSt
          clear h1
          go_wp2
          go_roundw
          case rel => exact ⟨k + 1, by omega, by go_num, by rw [HSt.out]; exact HO7, HB7⟩
          case measure => simp [intOf]; omega
      --]
    · obtain rfl : k = n := by omega
      have hwr : Below w.heap.size w wr := blN HB2.out HB.out
      have hdw := HDep.out.below hwr
      have hd7 := hdw.field (d.last + 1)
      obtain ⟨uad, ucap, huf⟩ := HO.out.form
      obtain ⟨ul, hul⟩ : ∃ z, (OV k).length = z := ⟨_, rfl⟩
      rw [hul] at huf
      subst huf
      have hu := HO.out
      rw [HOn.out] at hu
      obtain ⟨LS, hLS⟩ : ∃ z : Int, ((d.last + 1 : Nat) : Int) = z := ⟨_, rfl⟩
      obtain ⟨k0, k1⟩ := HC.out wr hwr
      obtain ⟨x0, x1, x2⟩ := HX.out wr HB.out
      have e1 : IntKind.i64.wrap ((d.last : Int) + 1) = LS := by rw [IntWalk.i64_in _ (by omega)]; omega
      have h1 : wr.heap[B]? = some (depsO (.slice ad k cap) d.last) := by
        obtain ⟨⟨v', ps, h1, _⟩, _, _⟩ := hdw
        rw [cellOf (k := 0) h1 rfl] at k0
        cases k0
        exact h1
      have hdB : wr.frozen? ⟨B, 1, none⟩ = false := freeOf h1
      obtain ⟨W7, hW7⟩ : ∃ W, wr.setCell ⟨B, 1, none⟩ (.int .i64 LS) = W := ⟨_, rfl⟩
      rw [hLS, hW7] at hd7
      have hT7 : Turn (fun j => j = B) wr W7 := by rw [← hW7]; exact setCell_turn
      have hs7 : W7.heap.size = wr.heap.size := by rw [← hW7]; exact World.size_setCell ..
      have h17 : W7.heap[B]? = some (depsO (.slice ad k cap) (d.last + 1)) := by rw [← hW7, ← hLS]; exact setHeap_at (k := 1) h1 (.int .i64 ((d.last + 1 : Nat) : Int))
      have hz0 := hT7.heap (heapOld HB.out HZ0.out) (by omega)
      have hz1 := hT7.heap (heapOld HB.out HZ1.out) (by omega)
      have HX7 : Hid (∀ W, Below W7.heap.size W7 W → W.cell? ⟨w.heap.size, 0, none⟩ = some (.pointer (some ⟨B, 0, none⟩)) ∧ W.cell? ⟨B, 0, none⟩ = some (.slice ad k cap) ∧ W.cell? ⟨B, 1, none⟩ = some (.int .i64 LS) ∧ W.cell? ⟨w.heap.size + 1, 0, none⟩ = some (.int .i64 off) ∧ W.cell? ⟨w.heap.size + 1, 1, none⟩ = some (.string b)) := fun W hW =>
        ⟨cellOf (k := 0) (heapOld hW hz0) rfl, cellOf (k := 0) (heapOld hW h17) rfl, by rw [← hLS]; exact cellOf (k := 1) (heapOld hW h17) rfl, cellOf (k := 0) (heapOld hW hz1) rfl, cellOf (k := 1) (heapOld hW hz1) rfl⟩
      have hu7 : OwnR 3 1 intC base W7 (.slice uad ul ucap) (ahead ++ d.overs i off b) := by
        refine (hu.mono (Nat.le_trans (Nat.le_trans hdw.low (Nat.le_of_lt hBl)) HB2.out.size)).turn hT7 (fun q hq e => ?_)
        have := (OwnR.lt hu q hq).1
        have := HB2.out.size
        omega
      have HZ70 := Lib.hid hz0
      have HZ71 := Lib.hid hz1
      have HD7 := Lib.hid hd7
      have HU7 := Lib.hid hu7
      have HLS := Lib.hid hLS
      have HWR := Lib.hid hwr
      have HT7 := Lib.hid hT7
      have HS7 := Lib.hid hs7
      clear hu hul hLS hd7 hdw h1 h17 hz0 hz1 hu7 hwr hT7 hs7
      go_wp2_with fail
      clear hW7 x0 x1 x2 k0 k1 hdB
      obtain ⟨y0, y1, y2, y3, y4⟩ := HX7.out W7 (Below.refl _ _)
      obtain ⟨⟨v', ps, h1, h2, h3, h4, h5⟩, ho7, hl7⟩ := HD7.out
      have hv' : v' = .slice ad k cap := by
        rw [cellOf (k := 0) h1 rfl] at y1
        exact Option.some.inj y1
      subst hv'
      have hpl : ps.length = k := by have := congrArg List.length h2; rw [List.length_map] at this; rw [this]; exact HN.out.symm
      have HR3 := Lib.hid h3
      unfold OwnR at h3
      rw [hpl] at h3
      obtain ⟨W8, hW8⟩ : ∃ W, W7.drew.alloc (.cells #[.int .i64 LS, .int .i64 i, .int .i64 off, .string b, .slice uad ul ucap, .int .i64 1] 209) = W := ⟨_, rfl⟩
      have HB8 : Hid (Below W7.heap.size W7 W8) := by rw [← hW8]; exact bl1 (blD (Below.refl _ _)) _
      have HM := Lib.hid (fun (w9 : World) (g cap9 : Nat) hg hrow => DepsAt.more (w8 := W8) (w9 := w9) (g := g) (cap := cap9) (n := k) (c := ⟨d.last + 1, i, off, b, ahead ++ d.overs i off b, 1⟩) h1 h2 HR3.out h4 h5 ho7 hl7 HB8.out HN.out (OwnR.mono HU7.out (Nat.zero_le _)) hg hrow)
      have hz8 : W8.heap[W7.heap.size]? = some (.cells #[.int .i64 LS, .int .i64 i, .int .i64 off, .string b, .slice uad ul ucap, .int .i64 1] 209 (0, 0)) := by rw [← hW8]; exact heapNew W7.drew _
      have hs8 : W8.heap.size = W7.heap.size + 1 := by rw [← hW8]; simp
      have h38 : W8.ownsRow base 209 6 (.slice ad k cap) k (ps.flatMap chgC) := by
        have := OwnR.below (show OwnR 209 6 chgC base W7 (.slice ad k cap) ps from by unfold OwnR; rw [hpl]; exact h3) HB8.out
        unfold OwnR at this
        rw [hpl] at this
        exact this
      obtain ⟨ia, ib, ic, id, ie⟩ := info_parts infoChange
      have HH38 := Lib.hid h38
      have hk1024 : k < 1024 := by have := HLen.out; have := HN.out; omega
      have hbase8 : base ≤ W8.heap.size := by have := HDep.out.low; have := HWR.out.size; have := HS7.out; omega
      clear h1 h2 h3 h4 h5 h38
      have hS := HX7.out W7.drew (blD (Below.refl _ _))
      clear y0 y1 y2 y3 y4
      refine wp_region_tail (fun W => W.cell? ⟨w.heap.size, 0, none⟩ = some (.pointer (some ⟨B, 0, none⟩)) ∧ W.cell? ⟨B, 0, none⟩ = some (.slice ad k cap) ∧ W.cell? ⟨B, 1, none⟩ = some (.int .i64 LS) ∧ W.cell? ⟨w.heap.size + 1, 0, none⟩ = some (.int .i64 off) ∧ W.cell? ⟨w.heap.size + 1, 1, none⟩ = some (.string b)) 17 (by kernel_rfl) (by kernel_rfl) (by first | trivial | assumption) (fun hHeld hLast hClosed => ?_)
      refine AnyT.take (i := 0) (v := ?_) hLast hClosed rfl (by decide) (by kernel_rfl) (by kernel_rfl) (by kernel_rfl) (fun _ _ _ h => h) (Or.inl ⟨by rfl, ?_⟩) hHeld (fun hClosed2 => ?_)
      rotate_left
      · (intro w hSw; first | (go_simp; done) | (go_simp; with_reducible rfl))
      clear hClosed; have hClosed := hClosed2; clear hClosed2
      simp only [Act.put, List.setIfInBounds_toArray, List.set_cons_zero, List.set_cons_succ, List.getElem_toArray, List.getElem_cons_zero]
      refine AnyT.take (i := 1) (v := ?_) hLast hClosed rfl (by decide) (by kernel_rfl) (by kernel_rfl) (by kernel_rfl) (fun _ _ _ h => h) (Or.inl ⟨by rfl, ?_⟩) hHeld (fun hClosed2 => ?_)
      rotate_left
      · (intro w hSw; first | (go_simp; done) | (go_simp; with_reducible rfl))
      clear hClosed; have hClosed := hClosed2; clear hClosed2
      simp only [Act.put, List.setIfInBounds_toArray, List.set_cons_zero, List.set_cons_succ, List.getElem_toArray, List.getElem_cons_zero, List.getElem_cons_succ]
      refine AnyT.take (i := 2) (v := ?_) hLast hClosed rfl (by decide) (by kernel_rfl) (by kernel_rfl) (by kernel_rfl) (fun _ _ _ h => h) (Or.inl ⟨by rfl, ?_⟩) hHeld (fun hClosed2 => ?_)
      rotate_left
      · (intro w hSw; first | (go_simp; done) | (go_simp; with_reducible rfl))
      clear hClosed; have hClosed := hClosed2; clear hClosed2
      simp only [Act.put, List.setIfInBounds_toArray, List.set_cons_zero, List.set_cons_succ, List.getElem_toArray, List.getElem_cons_zero, List.getElem_cons_succ]
      refine AnyT.take (i := 3) (v := ?_) hLast hClosed rfl (by decide) (by kernel_rfl) (by kernel_rfl) (by kernel_rfl) (fun _ _ _ h => h) (Or.inl ⟨by rfl, ?_⟩) hHeld (fun hClosed2 => ?_)
      rotate_left
      · (intro w hSw; first | (go_simp; done) | (go_simp; with_reducible rfl))
      clear hClosed; have hClosed := hClosed2; clear hClosed2
      simp only [Act.put, List.setIfInBounds_toArray, List.set_cons_zero, List.set_cons_succ, List.getElem_toArray, List.getElem_cons_zero, List.getElem_cons_succ]
      refine AnyT.take (i := 4) (v := ?_) hLast hClosed rfl (by decide) (by kernel_rfl) (by kernel_rfl) (by kernel_rfl) (fun _ _ _ h => h) (Or.inl ⟨by rfl, ?_⟩) hHeld (fun hClosed2 => ?_)
      rotate_left
      · (intro w hSw; first | (go_simp; done) | (go_simp; with_reducible rfl))
      clear hClosed; have hClosed := hClosed2; clear hClosed2
      simp only [Act.put, List.setIfInBounds_toArray, List.set_cons_zero, List.set_cons_succ, List.getElem_toArray, List.getElem_cons_zero, List.getElem_cons_succ]
      refine AnyT.take (i := 5) (v := ?_) hLast hClosed rfl (by decide) (by kernel_rfl) (by kernel_rfl) (by kernel_rfl) (fun _ _ _ h => h) (Or.inl ⟨by rfl, ?_⟩) hHeld (fun hClosed2 => ?_)
      rotate_left
      · (intro w hSw; first | (go_simp; done) | (go_simp; with_reducible rfl))
      clear hClosed; have hClosed := hClosed2; clear hClosed2
      simp only [Act.put, List.setIfInBounds_toArray, List.set_cons_zero, List.set_cons_succ, List.getElem_toArray, List.getElem_cons_zero, List.getElem_cons_succ]
      refine AnyT.take (i := 6) (v := ?_) hLast hClosed rfl (by decide) (by kernel_rfl) (by kernel_rfl) (by kernel_rfl) (fun _ _ _ h => h) (Or.inl ⟨by rfl, ?_⟩) hHeld (fun hClosed2 => ?_)
      rotate_left
      · (intro w hSw; first | (go_simp; done) | (go_simp; with_reducible rfl))
      clear hClosed; have hClosed := hClosed2; clear hClosed2
      simp only [Act.put, List.setIfInBounds_toArray, List.set_cons_zero, List.set_cons_succ, List.getElem_toArray, List.getElem_cons_zero, List.getElem_cons_succ]
      refine AnyT.take (i := 7) (v := ?_) hLast hClosed rfl (by decide) (by kernel_rfl) (by kernel_rfl) (by kernel_rfl) (fun _ _ _ h => h) (Or.inl ⟨by rfl, ?_⟩) hHeld (fun hClosed2 => ?_)
      rotate_left
      · (intro w hSw; first | (go_simp; done) | (go_simp; with_reducible rfl))
      clear hClosed; have hClosed := hClosed2; clear hClosed2
      simp only [Act.put, List.setIfInBounds_toArray, List.set_cons_zero, List.set_cons_succ, List.getElem_toArray, List.getElem_cons_zero, List.getElem_cons_succ]
      refine AnyT.take (i := 8) (v := ?_) hLast hClosed rfl (by decide) (by kernel_rfl) (by kernel_rfl) (by kernel_rfl) (fun _ _ _ h => h) (Or.inl ⟨by rfl, ?_⟩) hHeld (fun hClosed2 => ?_)
      rotate_left
      · (intro w hSw; first | (go_simp; done) | (go_simp; with_reducible rfl))
      clear hClosed; have hClosed := hClosed2; clear hClosed2
      simp only [Act.put, List.setIfInBounds_toArray, List.set_cons_zero, List.set_cons_succ, List.getElem_toArray, List.getElem_cons_zero, List.getElem_cons_succ]
      refine AnyT.take (i := 9) (v := ?_) hLast hClosed rfl (by decide) (by kernel_rfl) (by kernel_rfl) (by kernel_rfl) (fun _ _ _ h => h) (Or.inl ⟨by rfl, ?_⟩) hHeld (fun hClosed2 => ?_)
      rotate_left
      · (intro w hSw; first | (go_simp; done) | (go_simp; with_reducible rfl))
      clear hClosed; have hClosed := hClosed2; clear hClosed2
      simp only [Act.put, List.setIfInBounds_toArray, List.set_cons_zero, List.set_cons_succ, List.getElem_toArray, List.getElem_cons_zero, List.getElem_cons_succ]
      refine AnyT.take (i := 10) (v := ?_) hLast hClosed rfl (by decide) (by kernel_rfl) (by kernel_rfl) (by kernel_rfl) (fun _ _ _ h => h) (Or.inl ⟨by rfl, ?_⟩) hHeld (fun hClosed2 => ?_)
      rotate_left
      · (intro w hSw; first | (go_simp; done) | (go_simp; with_reducible rfl))
      clear hClosed; have hClosed := hClosed2; clear hClosed2
      simp only [Act.put, List.setIfInBounds_toArray, List.set_cons_zero, List.set_cons_succ, List.getElem_toArray, List.getElem_cons_zero, List.getElem_cons_succ]
      refine AnyT.take (i := 11) (v := ?_) hLast hClosed rfl (by decide) (by kernel_rfl) (by kernel_rfl) (by kernel_rfl) (fun _ _ _ h => h) (Or.inl ⟨by rfl, ?_⟩) hHeld (fun hClosed2 => ?_)
      rotate_left
      · (intro w hSw; first | (go_simp; done) | (go_simp; with_reducible rfl))
      clear hClosed; have hClosed := hClosed2; clear hClosed2
      simp only [Act.put, List.setIfInBounds_toArray, List.set_cons_zero, List.set_cons_succ, List.getElem_toArray, List.getElem_cons_zero, List.getElem_cons_succ]
      refine AnyT.take (i := 12) (v := ?_) hLast hClosed rfl (by decide) (by kernel_rfl) (by kernel_rfl) (by kernel_rfl) (fun _ _ _ h => h) (Or.inl ⟨by rfl, ?_⟩) hHeld (fun hClosed2 => ?_)
      rotate_left
      · (intro w hSw; first | (go_simp; done) | (go_simp; with_reducible rfl))
      clear hClosed; have hClosed := hClosed2; clear hClosed2
      simp only [Act.put, List.setIfInBounds_toArray, List.set_cons_zero, List.set_cons_succ, List.getElem_toArray, List.getElem_cons_zero, List.getElem_cons_succ]
      refine AnyT.one (i := 13) hClosed (by kernel_rfl) rfl (fun K hK => ?_)
      try simp only [List.getElem_toArray, List.getElem_cons_zero, List.getElem_cons_succ]
      go_simp
      try simp only
      refine hK.out _ _ (fun _ => ?hkS) (fun hHeld2 hClosed2 => ?_)
      case hkS =>
        exact HX7.out _ HB8.out
      have hHeld := hHeld2 (by decide)
      clear hK K hHeld2 hClosed; have hClosed := hClosed2; clear hClosed2
      try simp only [Act.put, List.setIfInBounds_toArray, List.set_cons_zero, List.set_cons_succ, List.getElem_toArray, List.getElem_cons_zero, List.getElem_cons_succ]
      refine AnyT.one (i := 14) hClosed (by kernel_rfl) rfl (fun K hK => ?_)
      refine step_append_lies _ (by rfl) _ _ _ (by rfl) base 209 ia _ 6 72 Tryz.underlying205 ib ic id ie rfl (by decide) (.slice ad k cap) k (ps.flatMap chgC) (by rfl) HH38.out ⟨W7.heap.size, 0, none⟩ 1 1 [.int .i64 LS, .int .i64 i, .int .i64 off, .string b, .slice uad ul ucap, .int .i64 1] (by rfl) (by rfl) (World.news_of_block (cs := #[.int .i64 LS, .int .i64 i, .int .i64 off, .string b, .slice uad ul ucap, .int .i64 1]) (t := 209) (fr := (0, 0)) hz8) (by simp [Value.oneCell']) (by omega) ?c1 ?c2 ?c3 (W7.heap.size + 1) hs8 ?_
      case c1 => unfold maxLen; omega
      case c2 => omega
      case c3 => exact hbase8
      intro g9 cap9 w9 hown9 hgrow9 hat9 hlt9
      rw [← HLS.out] at hown9
      obtain ⟨hd10, c0', c1', f0', hT10, hK10, hg9⟩ := HM.out w9 g9 cap9 hgrow9 hown9
      have HD10 := Lib.hid hd10
      have HT10 := Lib.hid hT10
      have HK10 := Lib.hid hK10
      have HG9 := Lib.hid hg9
      dsimp only at c1'
      rw [HLS.out] at c1'
      have hkeep : ∀ (q : Nat) (cs : Array Value) (e : TypeId), e ≠ 209 → W7.heap[q]? = some (Obj.cells cs e (0, 0)) → w9.heap[q]? = some (Obj.cells cs e (0, 0)) := by
        intro q cs e he hq
        refine (hgrow9.block q (Nat.lt_of_lt_of_le (Array.getElem?_eq_some_iff.1 hq).1 HB8.out.size) (fun hh => ?_)).trans (heapOld HB8.out hq)
        obtain ⟨_, cs', hcs'⟩ := hK10 q hh.symm
        rw [hq] at hcs'
        cases hcs'
        exact he rfl
      have hy0 := hkeep _ _ _ (by decide) HZ70.out
      have hy1 := hkeep _ _ _ (by decide) HZ71.out
      have hS9 : (w9.cell? ⟨w.heap.size, 0, none⟩ = some (.pointer (some ⟨B, 0, none⟩)) ∧ w9.cell? ⟨B, 0, none⟩ = some (.slice ad k cap) ∧ w9.cell? ⟨B, 1, none⟩ = some (.int .i64 LS) ∧ w9.cell? ⟨w.heap.size + 1, 0, none⟩ = some (.int .i64 off) ∧ w9.cell? ⟨w.heap.size + 1, 1, none⟩ = some (.string b)) :=
        ⟨cellOf (k := 0) hy0 rfl, c0', c1', cellOf (k := 0) hy1 rfl, cellOf (k := 1) hy1 rfl⟩
      have hT : Turn (fun j => j = B) w9 (w9.setCell ⟨B, 0, none⟩ (.slice (some ⟨g9, 0, none⟩) (k + 1) cap9)) := setCell_turn
      have hyb := hT.heap hy0 (by omega)
      have HYB := Lib.hid hyb
      obtain ⟨_, _, _, _, yb1, _, _, _, _⟩ := hd10.open
      dsimp only at yb1
      rw [HLS.out] at yb1
      have HY1 := Lib.hid yb1
      clear hown9 hd10 hT10 hK10 hg9 hlt9 hkeep hy0 hy1 hT hyb yb1
      try simp only
      refine hK.out _ _ (fun _ => ?hkS) (fun hHeld2 hClosed2 => ?_)
      case hkS =>
        exact hS9
      have hHeld := hHeld2 (by decide)
      clear hK K hHeld2 hClosed; have hClosed := hClosed2; clear hClosed2
      try simp only [Act.put, List.setIfInBounds_toArray, List.set_cons_zero, List.set_cons_succ, List.getElem_toArray, List.getElem_cons_zero, List.getElem_cons_succ]
      refine AnyT.take (i := 15) (v := ?_) hLast hClosed rfl (by decide) (by kernel_rfl) (by kernel_rfl) (by kernel_rfl) (fun _ _ _ h => h) (Or.inl ⟨by rfl, ?_⟩) hHeld (fun hClosed2 => ?_)
      rotate_left
      · (intro w hSw; first | (go_simp; done) | (go_simp; with_reducible rfl))
      clear hClosed; have hClosed := hClosed2; clear hClosed2
      simp only [Act.put, List.setIfInBounds_toArray, List.set_cons_zero, List.set_cons_succ, List.getElem_toArray, List.getElem_cons_zero, List.getElem_cons_succ]
      refine AnyT.take (i := 16) (v := ?_) hLast hClosed rfl (by decide) (by kernel_rfl) (by kernel_rfl) (by kernel_rfl) (fun _ _ _ h => h) (Or.inl ⟨by rfl, ?_⟩) hHeld (fun hClosed2 => ?_)
      rotate_left
      · (intro w hSw; first | (go_simp; done) | (go_simp; with_reducible rfl))
      clear hClosed; have hClosed := hClosed2; clear hClosed2
      simp only [Act.put, List.setIfInBounds_toArray, List.set_cons_zero, List.set_cons_succ, List.getElem_toArray, List.getElem_cons_zero, List.getElem_cons_succ]
      refine AnyT.one (i := 17) hClosed (by kernel_rfl) rfl (fun K hK => ?_)
      try simp only [List.getElem_toArray, List.getElem_cons_zero, List.getElem_cons_succ]
      go_simp
      try simp only
      refine hK.out _ _ (fun h => absurd rfl h) (fun _ _ => ?_)
      clear hK K
      try simp only [Act.put, List.setIfInBounds_toArray, List.set_cons_zero, List.set_cons_succ]
      refine AnyT.done (by kernel_rfl) ?_ _
      clear hHeld hClosed hS9 c0' c1' f0'
      obtain ⟨W10, hW10⟩ : ∃ W, w9.setCell ⟨B, 0, none⟩ (.slice (some ⟨g9, 0, none⟩) (k + 1) cap9) = W := ⟨_, rfl⟩
      rw [hW10] at HD10 HT10 HYB HY1
      have yb0 := cellOf (k := 0) HYB.out rfl
      have yb1 := HY1.out
      go_wp2
      rw [← HQ.out]
      have hcode := HCode.out
      have hadd : d.add i off b ahead = ⟨d.l ++ [⟨d.last + 1, i, off, b, ahead ++ d.overs i off b, 1⟩], d.last + 1⟩ := by unfold Sp.Deps.add; rw [if_pos hcode]
      have hsz10 := HT10.out.size
      have hszr := HWR.out.size
      have hsz7 := HS7.out
      refine ⟨by rw [hcode, if_pos rfl, ← HLS.out]; rfl, ?_, fun j => j = B ∨ (Value.slice ad k cap).ownBlock = some j, fun j hj => ?_, ?_⟩
      · rw [hadd]
        refine HD10.out.mono (fun j hj => ?_)
        rcases hj with hj | rfl | hj
        · exact Or.inl hj
        · rcases hat9 with h | h
          · exact Or.inl (HK10.out _ h).1
          · have hg := HG9.out
            have e10 : W10.heap.size = w9.heap.size := by rw [← hW10]; exact World.size_setCell ..
            exact Or.inr ⟨by omega, by omega⟩
        · have := OwnR.lt HO.out j hj
          have := HB2.out.size
          exact Or.inr ⟨by omega, by omega⟩
      · obtain ⟨⟨v0, ps0, g1, g2, g3, g4, g5⟩, go, gl⟩ := HDep.out
        have e0 : v0 = .slice ad k cap := by
          have := (HC.out w (Below.refl _ _)).1
          rw [cellOf (k := 0) g1 rfl] at this
          exact Option.some.inj this
        subst e0
        rcases hj with rfl | hj
        · exact ⟨go, _, _, _, g1, Or.inl rfl⟩
        · refine ⟨g4 j hj, ?_⟩
          obtain ⟨_, ⟨hh, _⟩ | ⟨g', cap', cur, hh, _, h9, _⟩⟩ := g3
          · cases hh; cases hj
          · cases hh; cases hj
            exact ⟨cur, _, _, h9, Or.inr rfl⟩
      · have t1 : Turn (fun j => j = B ∨ (Value.slice ad k cap).ownBlock = some j) w W7 := (Turn.of_below (K := fun _ => False) HWR.out).trans HT7.out (fun _ _ h => h.elim) (fun k _ e => Or.inl e)
        exact t1.trans HT10.out (fun _ _ h => h) (fun _ _ h => h)
end
end Go.Proofs.YtgofmnhfajmbfaaGreatDoor
