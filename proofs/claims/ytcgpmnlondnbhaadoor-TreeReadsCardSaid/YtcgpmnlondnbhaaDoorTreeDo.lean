/-
  The tree's walks: Do: what holds behind it; an operation of no kind.
-/
import Derived.Test.YtcgpmnlondnbhaaDoorTreeNew
namespace Go.Proofs.YtcgpmnlondnbhaaDoor
open Go Go.RowKit Txt Sp

section
set_option maxHeartbeats 1000000
/-- Behind an operation: what is told; the tree lies there; nothing but it and new blocks has turned. -/
def DoPost (o : Sp.Op) (w : World) (B : Nat) (t : Sp.Tree) (φ μ : Nat → Nat) (e : Ending) (w' : World) : Prop :=
  ∃ v φ' μ' m, e = .returned v ∧ AnsO m w' v (t.step o).2 ∧ Rep w' B (t.step o).1 φ' μ' ∧ Turn (Rep.dom B t φ μ) w w' ∧ (∀ k, Rep.dom B (t.step o).1 φ' μ' k → Rep.dom B t φ μ k ∨ w.heap.size ≤ k) ∧ w.heap.size ≤ m ∧ ∀ k, Rep.dom B (t.step o).1 φ' μ' k → k < m

/-- Where Do stands once its parameter, its answer and the new thing have blocks. -/
def doW (w : World) (k : Int) (path tt : ByteArray) (off len : Int) (data : ByteArray) (m : Option Nat) : World :=
  ((w.alloc (.cells #[.int .i64 k, .string path, .string tt, .int .i64 off, .int .i64 len, .string data] 32)).alloc (.cells #[.int .i64 0, .int .i64 0, .int .i64 0, .int .i64 0, .string ⟨#[]⟩, .slice none 0 0] 29)).alloc (.cells #[.string ⟨#[]⟩, .int .i64 0, .map m] 66)
theorem doW_below (w : World) (k : Int) (path tt : ByteArray) (off len : Int) (data : ByteArray) (m : Option Nat) : Below w.heap.size w (doW w k path tt off len data m) := by
  have hb0 := (Below.refl w.heap.size w).alloc (Nat.le_refl _) (.cells #[.int .i64 k, .string path, .string tt, .int .i64 off, .int .i64 len, .string data] 32)
  have hb1 := hb0.alloc hb0.size (.cells #[.int .i64 0, .int .i64 0, .int .i64 0, .int .i64 0, .string ⟨#[]⟩, .slice none 0 0] 29)
  exact hb1.alloc hb1.size (.cells #[.string ⟨#[]⟩, .int .i64 0, .map m] 66)

theorem doW_ans (w : World) (k : Int) (path tt : ByteArray) (off len : Int) (data : ByteArray) (m : Option Nat) : (doW w k path tt off len data m).heap[w.heap.size + 1]? = some (.cells #[.int .i64 0, .int .i64 0, .int .i64 0, .int .i64 0, .string ⟨#[]⟩, .slice none 0 0] 29 (0, 0)) :=
  heap_below ((Below.refl _ _).alloc (Nat.le_refl _) _) _ _ (alloc_at (by simp) _)
theorem doW_thing (w : World) (k : Int) (path tt : ByteArray) (off len : Int) (data : ByteArray) (m : Option Nat) : (doW w k path tt off len data m).heap[w.heap.size + 1 + 1]? = some (thingO (ofL []) 0 m) :=
  alloc_at (by simp) _

theorem Rep.dom_lt {w : World} {B : Nat} {t : Sp.Tree} {φ μ : Nat → Nat} (hR : Rep w B t φ μ) (hok : t.Ok) {k : Nat} (h : Rep.dom B t φ μ k) : k < w.heap.size := by
  rcases h with rfl | ⟨i, hi, rfl | ⟨hd, rfl⟩⟩
  · exact (Array.getElem?_eq_some_iff.1 hR.root).1
  · exact hR.lt_thing hok hi
  · exact hR.lt_map hok hi hd

/-- The answer's block: its cells. -/
theorem ans_cells {w : World} {n : Nat} (h : w.heap[n]? = some (.cells #[.int .i64 0, .int .i64 0, .int .i64 0, .int .i64 0, .string ⟨#[]⟩, .slice none 0 0] 29 (0, 0))) :
    (∀ k, w.cell? ⟨n, k, none⟩ = (#[Value.int .i64 0, .int .i64 0, .int .i64 0, .int .i64 0, .string ⟨#[]⟩, .slice none 0 0] : Array Value)[k]?) ∧ ∀ k, w.frozen? ⟨n, k, none⟩ = false :=
  ⟨fun k => by simp [World.cell?, h], fun k => by simp [World.frozen?, h]⟩

theorem six_same (w : World) {n k : Nat} (h : k ≠ n) (a b c d e f : Value) :
    ((((((w.setCell ⟨n, 0, none⟩ a).setCell ⟨n, 1, none⟩ b).setCell ⟨n, 2, none⟩ c).setCell ⟨n, 3, none⟩ d).setCell ⟨n, 4, none⟩ e).setCell ⟨n, 5, none⟩ f).heap[k]? = w.heap[k]? := by
  rw [heap_setCell_ne _ h, heap_setCell_ne _ h, heap_setCell_ne _ h, heap_setCell_ne _ h, heap_setCell_ne _ h, heap_setCell_ne _ h]
theorem Turn.setCell {K : Nat → Prop} {w w' : World} (h : Turn K w w') {n : Nat} (hn : K n) (k : Nat) (v : Value) : Turn K w (w'.setCell ⟨n, k, none⟩ v) :=
  ⟨h.os, h.tape, h.output, by rw [size_setCell]; exact h.size, fun j hj hK => by
    have hne : j ≠ n := fun e => hK (by rw [e]; exact hn)
    rw [heap_setCell_ne _ hne]; exact h.block j hj hK⟩
theorem six_turn (w : World) (n : Nat) (a b c d e f : Value) :
    Turn (fun k => k = n) w ((((((w.setCell ⟨n, 0, none⟩ a).setCell ⟨n, 1, none⟩ b).setCell ⟨n, 2, none⟩ c).setCell ⟨n, 3, none⟩ d).setCell ⟨n, 4, none⟩ e).setCell ⟨n, 5, none⟩ f) :=
  have h0 : Turn (fun k => k = n) w w := Turn.refl _ w
  ((((((h0.setCell rfl 0 a).setCell rfl 1 b).setCell rfl 2 c).setCell rfl 3 d).setCell rfl 4 e).setCell rfl 5 f)

theorem Rep.dom_same {w w' : World} {B : Nat} {t : Sp.Tree} {φ μ : Nat → Nat} (hR : Rep w B t φ μ) (hok : t.Ok) (hs : ∀ k, Rep.dom B t φ μ k → ∀ o, w.heap[k]? = some o → w'.heap[k]? = some o) : Rep w' B t φ μ where
  root := hs _ (Or.inl rfl) _ hR.root
  file i d h := hs _ (dom_thing ⟨_, _, h⟩) _ (hR.file i d h)
  dir i p hp hd := let ⟨h1, l, h2, h3⟩ := hR.dir i p hp hd; ⟨hs _ (dom_thing (has_idOf hok hp)) _ h1, l, h2.same (hs _ (dom_map (has_idOf hok hp) hd)), h3⟩
  inj := hR.inj
  injm := hR.injm

/-- Do's end: the answer is laid into its own block. -/
theorem do_end {w W w1 F : World} {B : Nat} {t t' : Sp.Tree} {φ μ φ' μ' : Nat → Nat} {a : Sp.Ans} (hR : Rep w B t φ μ) (hok : t.Ok) (hok' : t'.Ok) (hW : Below w.heap.size w W) (hR1 : Rep w1 B t' φ' μ')
    (hT : Turn (fun k => Rep.dom B t φ μ k ∨ w.heap.size ≤ k) W w1) (hdom : ∀ k, Rep.dom B t' φ' μ' k → Rep.dom B t φ μ k ∨ w.heap.size + 1 < k) (ha : a.names = []) (v0 v1 v2 v3 v4 v5 : Value)
    (hF : ((((((w1.setCell ⟨w.heap.size + 1, 0, none⟩ v0).setCell ⟨w.heap.size + 1, 1, none⟩ v1).setCell ⟨w.heap.size + 1, 2, none⟩ v2).setCell ⟨w.heap.size + 1, 3, none⟩ v3).setCell ⟨w.heap.size + 1, 4, none⟩ v4).setCell ⟨w.heap.size + 1, 5, none⟩ v5) = F) :
    ∃ v φ2 μ2 m, Ending.returned (.agg #[.int .i64 a.code, .int .i64 a.kind, .int .i64 a.links, .int .i64 a.size, .string a.data, .slice none 0 0]) = .returned v ∧
      AnsO m F v a ∧ Rep F B t' φ2 μ2 ∧ Turn (Rep.dom B t φ μ) w F ∧ (∀ k, Rep.dom B t' φ2 μ2 k → Rep.dom B t φ μ k ∨ w.heap.size ≤ k) ∧ w.heap.size ≤ m ∧ ∀ k, Rep.dom B t' φ2 μ2 k → k < m := by
  have hlt : ∀ k, Rep.dom B t' φ' μ' k → k ≠ w.heap.size + 1 := fun k hk e => by
    rcases hdom k hk with h | h
    · have := hR.dom_lt hok h; omega
    · omega
  have hT2 : Turn (Rep.dom B t φ μ) w F := by
    rw [← hF]
    refine ((Turn.of_below (K := fun _ => False) hW).trans hT (K := Rep.dom B t φ μ) (fun _ _ h => h.elim) (fun k hk h => ?_)).trans (six_turn _ _ _ _ _ _ _ _) (fun _ _ h => h) (fun k hk h => ?_)
    · rcases h with h | h
      · exact h
      · omega
    · omega
  have hRF : Rep F B t' φ' μ' := hR1.dom_same hok' (fun k hk o ho => by rw [← hF, six_same w1 (hlt k hk)]; exact ho)
  exact ⟨_, φ', μ', F.heap.size, rfl, AnsO.bare _ _ _ ha, hRF, hT2, fun k hk => (hdom k hk).imp_right (fun h => by omega), hT2.size, fun k hk => hRF.dom_lt hok' hk⟩

theorem do_form {w : World} {B : Nat} {t : Sp.Tree} {φ μ : Nat → Nat} (hR : Rep w B t φ μ) (hok : t.Ok) (o : Sp.Op) (hk : o.kind < 1 ∨ 12 < o.kind) :
    Calls Tryd.prog 13 #[ptr B, opV o] w (DoPost o w B t φ μ) := by
  obtain ⟨kind, path, tt, off, len, data⟩ := o
  have HR := Lib.hid hR
  have HOK := Lib.hid hok
  clear hR hok
  unfold opV
  simp only at hk ⊢
  unfold ptr
  go_enter Tryd.func13, Tryd.ntmps13
  go_wp2_with fail
  refine bodyPost_ret (v := .agg #[.int .i64 3, .int .i64 0, .int .i64 0, .int .i64 0, .string ⟨#[]⟩, .slice none 0 0]) (by simp [results, Tryd.results13, go_sem]) rfl ?_
  have hS : t.step ⟨kind, path, tt, off, len, data⟩ = (t, { code := 3 }) := by
    unfold Sp.Tree.step
    simp only
    rw [if_neg (by omega), if_neg (by omega), if_neg (by omega), if_neg (by omega), if_neg (by omega), if_neg (by omega), if_neg (by omega), if_neg (by omega)]
  unfold DoPost
  rw [hS]
  have hb0 := (Below.refl w.heap.size w).alloc (Nat.le_refl _) (.cells #[.int .i64 kind, .string path, .string tt, .int .i64 off, .int .i64 len, .string data] 32)
  have hb1 := hb0.alloc hb0.size (.cells #[.int .i64 3, .int .i64 0, .int .i64 0, .int .i64 0, .string ⟨#[]⟩, .slice none 0 0] 29)
  have hb2 := hb1.alloc hb1.size (.cells #[.string ⟨#[]⟩, .int .i64 0, .map none] 66)
  exact ⟨_, φ, μ, w.heap.size, rfl, AnsO.bare _ _ { code := 3 } rfl, HR.out.below hb2, Turn.of_below hb2, fun _ h => Or.inl h, Nat.le_refl _, fun _ h => HR.out.dom_lt HOK.out h⟩
end
end Go.Proofs.YtcgpmnlondnbhaaDoor
