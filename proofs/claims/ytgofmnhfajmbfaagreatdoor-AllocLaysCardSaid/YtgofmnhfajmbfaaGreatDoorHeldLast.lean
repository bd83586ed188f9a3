/-
  A region that draws and whose operation T writes what earlier ones load: a frame of the world that holds up to T alone; behind T nothing is asked. Over any program.
-/
import Derived.Test.YtgofmnhfajmbfaaGreatDoorDepB
namespace Go.Proofs.YtgofmnhfajmbfaaGreatDoor
open Go

section
variable {P : Program} {ops : Array Oper} {Q : Exit → Act → World → Prop} {md : Region.Mode} {S : World → Prop} {T : Nat}
/-- Whatever order comes: S holds until T has come. -/
def AnyU (P : Program) (md : Region.Mode) (ops : Array Oper) (Q : Exit → Act → World → Prop) (S : World → Prop) (T : Nat) : Nat → Array Bool → Act → World → Prop
  | 0, listed, a, w => Region.ready md ops listed = [] ∧ Q .normal a w
  | fuel + 1, listed, a, w =>
    (Region.ready md ops listed = [] → Q .normal a w) ∧
    ∀ i ∈ Region.ready md ops listed, wpOp P ops Q i (fun a' w' => ((listed.setIfInBounds i true).getD T false = false → S w') ∧ AnyU P md ops Q S T fuel (listed.setIfInBounds i true) a' w') a w
theorem AnyU.any : ∀ (fuel : Nat) (listed : Array Bool) (a : Act) (w : World), AnyU P md ops Q S T fuel listed a w → wpAny P md ops Q fuel listed a w
  | 0, _, _, _, h => h
  | fuel + 1, _, _, _, h => ⟨h.1, fun i hi => wpOp_mono (fun a' w' h' => AnyU.any fuel _ a' w' h'.2) (h.2 i hi)⟩
theorem Closed.not_T {listed : Array Bool} (h : Closed md ops listed) {i : Nat} (hr : Reach md ops T i) (hi : i ∈ Region.ready md ops listed) : listed.getD T false = false := by
  cases hT : listed.getD T false with
  | false => rfl
  | true =>
    have h1 := h.reach hr (fun oj hoj e he hb => h T oj hoj hT e he hb)
    have h0 := (mem_ready.1 hi).1
    rcases Nat.lt_or_ge i listed.size with h' | h'
    · simp [h'] at h0 h1
      rw [h0] at h1
      cases h1
    · simp [Array.getElem?_eq_none h'] at h1
theorem getD_set_up {listed : Array Bool} {k : Nat} (h : (listed.setIfInBounds k true).getD T false = false) : listed.getD T false = false := by
  cases h0 : listed.getD T false with
  | false => rfl
  | true =>
    by_cases e : k = T
    · subst e
      rcases Nat.lt_or_ge k listed.size with h' | h'
      · simp [h'] at h
      · simp [Array.getElem?_eq_none h'] at h0
    · rw [getD_set_ne false e, h0] at h; exact h
/-- An operation for which T waits, or whose value hangs on no world, may be taken first. -/
theorem AnyU.first {i : Nat} {oi : Oper} {v : Value} (hi : ops[i]? = some oi) {S' : World → Prop} (hiT : i ≠ T) (hT : Reach md ops T i ∨ ∀ w, S' w) (hSS : ∀ w, S w → S' w) (hsel : ∀ (j : Nat) (o : Oper) cs b, ops[j]? = some o → o.op ≠ .select cs b)
    (hQ : ∀ c a w, Q (.panic c) (a.put oi.dst v) w → Q (.panic c) a w) :
    ∀ (fuel : Nat) (listed : Array Bool) (a : Act) (w : World),
      (∀ j oj, ops[j]? = some oj → j ≠ i → listed.getD j true = false → (∀ e ∈ oj.after, Region.binds md e = true → e.on ≠ i) → oi.apart ops oj = true) →
      i ∈ Region.ready md ops listed → Closed md ops listed → YieldsIf P ops S' oi v a → (listed.getD T false = false → S w) →
      AnyU P md ops Q S T fuel (listed.setIfInBounds i true) (a.put oi.dst v) w → AnyU P md ops Q S T (fuel + 1) listed a w := by
  have key : ∀ (listed : Array Bool) (j : Nat) (oj : Oper), ops[j]? = some oj → i ∈ Region.ready md ops listed → (∀ e ∈ oj.after, Region.binds md e = true → listed.getD e.on false = true) → ∀ e ∈ oj.after, Region.binds md e = true → e.on ≠ i := by
    intro listed j oj _ hr hall e he hb heq
    have h1 := hall e he hb
    have h0 := (mem_ready.1 hr).1
    rw [heq] at h1
    rcases Nat.lt_or_ge i listed.size with h' | h'
    · simp [h'] at h0 h1
      rw [h0] at h1
      cases h1
    · simp [Array.getElem?_eq_none h'] at h1
  have hat : ∀ (listed : Array Bool) (w : World), i ∈ Region.ready md ops listed → Closed md ops listed → (listed.getD T false = false → S w) → S' w := fun listed w hr hcl hS =>
    hT.elim (fun hR => hSS w (hS (hcl.not_T hR hr))) (fun h => h w)
  intro fuel
  induction fuel with
  | zero =>
    intro listed a w _ hr hcl hy hS H
    refine ⟨fun h => (by rw [h] at hr; cases hr), fun j hj => ?_⟩
    by_cases hji : j = i
    · subst hji; exact hy.wpOp hi (hat listed w hr hcl hS) ⟨fun h => hS (getD_set_up h), H⟩
    · have := ready_mono hj hji
      rw [H.1] at this
      cases this
  | succ fuel ih =>
    intro listed a w hfree hr hcl hy hS H
    refine ⟨fun h => (by rw [h] at hr; cases hr), fun j hj => ?_⟩
    by_cases hji : j = i
    · subst hji; exact hy.wpOp hi (hat listed w hr hcl hS) ⟨fun h => hS (getD_set_up h), H⟩
    · have h1 := H.2 j (ready_mono hj hji)
      obtain ⟨hjun, oj, hoj, hall⟩ := mem_ready.1 hj
      have hnot := key listed j oj hoj hr hall
      have h2 := wpOp_putIf hoj (hfree j oj hoj hji hjun hnot) (fun cs b => hsel i oi cs b hi) (fun cs b => hsel j oj cs b hoj) hQ hy h1
      refine wpOp_mono (fun a' w' h3 => ?_) h2
      have hS2 : (listed.setIfInBounds j true).getD T false = false → S w' := fun h => h3.2.1 (by
        rw [Array.setIfInBounds_comm _ _ (Ne.symm hji), getD_set_ne false hiT]
        exact h)
      refine ⟨hS2, ih (listed.setIfInBounds j true) a' w' (fun k ok hk hki hun hno => hfree k ok hk hki ?_ hno) (ready_mono hr (Ne.symm hji)) (hcl.set hj) h3.1 hS2 ?_⟩
      · by_cases hjk : j = k
        · subst hjk; exact hjun
        · rw [getD_set_ne true hjk] at hun; exact hun
      · rw [Array.setIfInBounds_comm _ _ hji]
        exact h3.2.2
def waitB (md : Region.Mode) (ops : Array Oper) (T i : Nat) : Bool := (reachL md ops ops.size [T]).contains i
theorem waitB_reach {i : Nat} (h : waitB md ops T i = true) (hi : i ≠ T) : Reach md ops T i := by
  unfold waitB at h
  rcases reachL_reach (t := T) ops.size [T] (fun x hx => Or.inl (List.mem_singleton.1 hx)) i (by simpa using h) with e | h
  · exact absurd e hi
  · exact h
theorem AnyU.take {i : Nat} {oi : Oper} {v : Value} {fuel : Nat} {listed : Array Bool} {a : Act} {w : World} (hw : waitB md ops T i = true) (hiT : i ≠ T) (hcl : Closed md ops listed) (hi : ops[i]? = some oi)
    (hs : Region.noSelect ops = true) (hf : Region.free md ops listed i = true) (hr : (Region.ready md ops listed).contains i = true)
    (hQ : ∀ c a w, Q (.panic c) (a.put oi.dst v) w → Q (.panic c) a w) (hy : YieldsIf P ops S oi v a) (hS : listed.getD T false = false → S w)
    (h : Closed md ops (listed.setIfInBounds i true) → AnyU P md ops Q S T fuel (listed.setIfInBounds i true) (a.put oi.dst v) w) : AnyU P md ops Q S T (fuel + 1) listed a w :=
  AnyU.first (S' := S) hi hiT (Or.inl (waitB_reach hw hiT)) (fun _ h => h) (Region.noSelect_spec hs) hQ fuel listed a w (Region.free_spec hi hf) (by simpa using hr) hcl hy hS (h (hcl.set (by simpa using hr)))
/-- .. whose value hangs on no world. -/
theorem AnyU.pure {i : Nat} {oi : Oper} {v : Value} {fuel : Nat} {listed : Array Bool} {a : Act} {w : World} (hiT : i ≠ T) (hcl : Closed md ops listed) (hi : ops[i]? = some oi)
    (hs : Region.noSelect ops = true) (hf : Region.free md ops listed i = true) (hr : (Region.ready md ops listed).contains i = true)
    (hQ : ∀ c a w, Q (.panic c) (a.put oi.dst v) w → Q (.panic c) a w) (hy : YieldsIf P ops (fun _ => True) oi v a) (hS : listed.getD T false = false → S w)
    (h : Closed md ops (listed.setIfInBounds i true) → AnyU P md ops Q S T fuel (listed.setIfInBounds i true) (a.put oi.dst v) w) : AnyU P md ops Q S T (fuel + 1) listed a w :=
  AnyU.first (S' := fun _ => True) hi hiT (Or.inr fun _ => trivial) (fun _ _ => trivial) (Region.noSelect_spec hs) hQ fuel listed a w (Region.free_spec hi hf) (by simpa using hr) hcl hy hS (h (hcl.set (by simpa using hr)))
/-- Each of those that are ready. -/
def EachU (P : Program) (md : Region.Mode) (ops : Array Oper) (Q : Exit → Act → World → Prop) (S : World → Prop) (T fuel : Nat) (listed : Array Bool) (a : Act) (w : World) (is : List Nat) : Prop :=
  ∀ i ∈ is, wpOp P ops Q i (fun a' w' => ((listed.setIfInBounds i true).getD T false = false → S w') ∧ AnyU P md ops Q S T fuel (listed.setIfInBounds i true) a' w') a w
theorem EachU.nil {fuel : Nat} {listed : Array Bool} {a : Act} {w : World} : EachU P md ops Q S T fuel listed a w [] := fun _ h => by cases h
theorem EachU.cons {i : Nat} {is : List Nat} {o : Oper} {fuel : Nat} {listed : Array Bool} {a : Act} {w : World} (hcl : Closed md ops listed) (hr : (Region.ready md ops listed).contains i = true) (ho : ops[i]? = some o)
    (h : ∀ K' : Act → World → Prop, Shut (∀ a w, ((listed.setIfInBounds i true).getD T false = false → S w) → (((listed.setIfInBounds i true).getD T false = false → S w) → Closed md ops (listed.setIfInBounds i true) → AnyU P md ops Q S T fuel (listed.setIfInBounds i true) a w) → K' a w) → if Region.wanted o (yielded ops a.tmps) = true then Oper.wp P o a w K' Q else K' (a.put o.dst undef) w)
    (ht : EachU P md ops Q S T fuel listed a w is) : EachU P md ops Q S T fuel listed a w (i :: is) := fun j hj => by
  rcases List.mem_cons.1 hj with rfl | hj
  · exact wpOp_step ho (fun K' hK => h K' (fun a w hS hW => hK a w ⟨hS, hW hS (hcl.set (by simpa using hr))⟩))
  · exact ht j hj
theorem AnyU.each {is : List Nat} {fuel : Nat} {listed : Array Bool} {a : Act} {w : World} (hr : Region.ready md ops listed = is) (hne : is ≠ []) (h : EachU P md ops Q S T fuel listed a w is) : AnyU P md ops Q S T (fuel + 1) listed a w :=
  ⟨fun h0 => absurd (hr.symm.trans h0) hne, hr ▸ h⟩
theorem AnyU.done {listed : Array Bool} {a : Act} {w : World} (hr : Region.ready md ops listed = []) (h : Q .normal a w) : ∀ fuel, AnyU P md ops Q S T fuel listed a w
  | 0 => ⟨hr, h⟩
  | _ + 1 => ⟨fun _ => h, by rw [hr]; simp⟩
theorem wp_region_last {id : Nat} {a : Act} {w : World} (S : World → Prop) (T : Nat) (hm : P.follows .mixedOrders = true) (hS : S w.drew)
    (h : S w.drew → Closed .any ops (Array.replicate ops.size false) → AnyU P .any ops Q S T ops.size (Array.replicate ops.size false) a w.drew) : (Code.region id ops true).wp P Q a w :=
  wp_region_any hm (AnyU.any _ _ _ _ (h hS (Closed.start _)))
end
end Go.Proofs.YtgofmnhfajmbfaaGreatDoor
