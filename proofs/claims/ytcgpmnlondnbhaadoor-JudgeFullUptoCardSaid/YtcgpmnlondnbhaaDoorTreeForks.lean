/-
  The tree's walks: Fork.
-/
import Derived.Test.YtcgpmnlondnbhaaDoorTreeDir
import Derived.Test.YtcgpmnlondnbhaaDoorTreeWorks
namespace Go.Proofs.YtcgpmnlondnbhaaDoor
open Go Go.RowKit Txt Sp

section
set_option maxHeartbeats 1000000
theorem fork_end {w W w2 : World} {B : Nat} {t : Sp.Tree} (hok : t.Ok) {S' : List Nat} {ψ ν : Nat → Nat} (hb : Below w.heap.size w W) (hz : W.heap.size = w.heap.size + 1) (hN : News W.heap.size w2 t [] S' ψ ν (fun q => [] <+: q)) (hT : Turn (fun k => k = w.heap.size) W w2) (hB : B = w2.heap.size) :
    ∃ φ' μ', Rep (w2.alloc (treeO (ψ 0))) B t φ' μ' ∧ Below w.heap.size w (w2.alloc (treeO (ψ 0))) ∧ ∀ k, Rep.dom B t φ' μ' k → w.heap.size ≤ k := by
  subst hB
  have h1 := hT.size
  have hb2 : Below w.heap.size w w2 := hb.trans (hT.below (n := w.heap.size) (fun k hk => by omega) (by omega))
  have hb3 := (Below.refl w2.heap.size w2).alloc (Nat.le_refl _) (treeO (ψ 0))
  have hno : ∀ j : Nat, j ∉ ([] : List Nat) := fun j hj => by cases hj
  have hall : ∀ j, t.has j → j ∈ S' := fun j hj => by
    obtain ⟨p, hp⟩ := idOf_has hok hj
    exact hN.all p j List.nil_prefix hp
  have hN3 : News W.heap.size (w2.alloc (treeO (ψ 0))) t [] S' ψ ν (fun q => [] <+: q) :=
    ⟨hN.has, hN.sub, hN.at', fun j hj hn => (hN.whole j hj hn).kept rfl rfl (fun _ _ _ _ _ _ => rfl) (fun o ho => heap_below hb3 _ _ ho) (fun _ o ho => heap_below hb3 _ _ ho), hN.low, hN.inj, hN.injm, hN.all⟩
  refine ⟨ψ, ν, copied_rep hok hN3 (heap_alloc_new w2 _), hb2.trans (hb3.mono hb2.size), ?_⟩
  rintro k (rfl | ⟨i, hi, rfl | ⟨hd, rfl⟩⟩)
  · omega
  · have := (hN.low i (hall i hi) (hno i)).1
    omega
  · have := (hN.low i (hall i hi) (hno i)).2 hd
    omega

theorem fork_any {w : World} {B : Nat} {t : Sp.Tree} {φ μ : Nat → Nat} (hR : Rep w B t φ μ) (hok : t.Ok) (hfew : t.names.length ≤ 1000000) :
    Calls Tryd.prog 20 #[ptr B] w fun e w' => ∃ B' φ' μ', e = .returned (ptr B') ∧ Rep w' B' t φ' μ' ∧ Below w.heap.size w w' ∧ ∀ k, Rep.dom B' t φ' μ' k → w.heap.size ≤ k := by
  have hmm := @run_makeMap Tryd.prog
  have c0 := hR.rootCell
  have hb := (Below.refl w.heap.size w).alloc (Nat.le_refl _) (.map #[] 0)
  have hcall := copied_any (Dm := w.heap.size) (B := B) (φ := φ) (μ := μ) hok hfew (fun k hk => by have := hR.dom_lt hok hk; omega) ((belowL t []).length + 1) [] 0 (w.alloc (.map #[] 0)) [] φ μ (by omega) (hR.below hb) idOf_nil
    ⟨_, heap_alloc_new w _, #[], 0, rfl, rfl⟩ (fun j hj => by cases hj) (fun _ j _ _ _ hj => by cases hj)
  have HCall := Lib.hid hcall
  have HB := Lib.hid hb
  have HOK := Lib.hid hok
  clear hR hok hcall hb
  unfold ptr at c0 HCall ⊢
  go_enter Tryd.func20, Tryd.ntmps20
  go_wp2_with fail
  refine HCall.out.mono ?_
  rintro e w2 ⟨S', ψ', ν', rfl, -, -, -, hN, hT⟩
  have HE := Lib.hid (fork_end HOK.out HB.out (by simp) hN hT rfl)
  clear hN hT HCall
  unfold ptr
  go_wp2
  go_ret
  obtain ⟨φ', μ', h1, h2, h3⟩ := HE.out
  exact ⟨_, φ', μ', rfl, h1, h2, h3⟩

/-- Fork, of a tree that lives. -/
theorem fork_live {w0 w : World} {B : Nat} {t : Sp.Tree} {k : Nat} {D : Nat → Prop} (h : Live w0 w B t k D) (hk : k ≤ 100000) :
    Calls Tryd.prog 20 #[ptr B] w fun e w' => ∃ B' D', e = .returned (ptr B') ∧ Live w0 w' B' t k D' ∧ Below w.heap.size w w' ∧ ∀ j, D' j → w.heap.size ≤ j := by
  obtain ⟨φ, μ, hR, hD⟩ := h.rep
  refine (fork_any hR h.ok (Nat.le_trans h.few (by omega))).mono ?_
  rintro e w' ⟨B', φ', μ', rfl, hR', hb, hd⟩
  exact ⟨B', Rep.dom B' t φ' μ', rfl, ⟨h.ok, h.few, h.low.trans (hb.mono h.low.size), ⟨φ', μ', hR', fun _ h => h⟩, fun j hj => ⟨Nat.le_trans h.low.size (hd j hj), hR'.dom_lt h.ok hj⟩, h.max0⟩, hb, hd⟩
end
end Go.Proofs.YtcgpmnlondnbhaaDoor
