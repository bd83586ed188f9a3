/-
  AskA: TreeAsks, Spoil, PlayRel.
-/
import Derived.Test.YtcgpmnlondnbhaaGreatDoorRefDo
import Derived.Test.YtcgpmnlondnbhaaGreatDoorSpFew
import Derived.Test.YtcgpmnlondnbhaaGreatDoorSameAns
import Derived.Test.YtcgpmnlondnbhaaGreatDoorPathA
import Derived.Test.YtcgpmnlondnbhaaGreatDoorForkA
import Derived.Test.YtcgpmnlondnbhaaGreatDoorOpens
import Derived.Deep.RegionHeld3
import Derived.Deep.DeepCutAuto
import Derived.Deep.CutBlock
namespace Go.Proofs.YtcgpmnlondnbhaaGreatDoor
open Go Go.RowKit Txt Sp

theorem few_of {l : List Sp.Op} (h : l.length ≤ 1000) : Few (Sp.new.steps l) :=
  let ⟨a, b, c⟩ := steps_few l
  ⟨by omega, by omega, by omega⟩
theorem sameAns_yes (w : World) {a : Sp.Ans} {v u : Value} (h1 : AnsV w v a) (h2 : AnsV w u a) : Calls Tryz.prog 11 #[v, u] w fun e w' => e = .returned (.bool true) ∧ Below w.heap.size w w' :=
  (sameAns_any w h1 h2).mono fun _ _ ⟨r, h3, h4, h5⟩ => ⟨by rw [h3, h4.2 rfl], h5⟩
theorem Live.besideL {w0 w w' : World} {B : Nat} {t : Sp.Tree} {k : Nat} {D K : Nat → Prop} (h : Live w0 w B t k D) (hT : Turn K w w') (hK : ∀ j, D j → ¬ K j) (hK0 : ∀ j, K j → w0.heap.size ≤ j) : Live w0 w' B t k D :=
  let ⟨φ, μ, hR, hD⟩ := h.rep
  ⟨h.ok, h.few, h.low.trans (hT.below hK0 h.low.size), ⟨φ, μ, hR.dom_same h.ok (fun j hj _ ho => hT.heap ho (hK j (hD j hj))), hD⟩, fun j hj => ⟨(h.from0 j hj).1, Nat.lt_of_lt_of_le (h.from0 j hj).2 hT.size⟩, h.max0⟩
/-- The tree and the reference's, side by side. -/
def Pair (w0 w : World) (B r : Nat) (t : Sp.Tree) (k : Nat) (D : Nat → Prop) (vT vN : Value) : Prop := Live w0 w B t k D ∧ RefAt w0.heap.size w D r t vT vN
theorem Pair.below {w0 w w' : World} {B r : Nat} {t : Sp.Tree} {k : Nat} {D : Nat → Prop} {vT vN : Value} (h : Pair w0 w B r t k D vT vN) (hb : Below w.heap.size w w') : Pair w0 w' B r t k D vT vN := ⟨h.1.below hb, h.2.below hb⟩
/-- One operation, by the reference, behind that by the tree. -/
theorem Pair.ref {w0 w w' : World} {B r : Nat} {t t' : Sp.Tree} {k : Nat} {D : Nat → Prop} {vT vN : Value} (h1 : Live w0 w B t' k D) (h2 : RefAt w0.heap.size w D r t vT vN) (hto : RefTo w0.heap.size w D r t' w') : ∃ vT' vN', Pair w0 w' B r t' k D vT' vN' := by
  obtain ⟨vT', vN', hR, hT⟩ := hto
  exact ⟨vT', vN', h1.besideL hT (fun j hj e => h2.apart.1 (by rw [← e]; exact hj)) (fun j hj => by rw [hj]; exact h2.low), hR⟩
/-- An operation of the arguments. -/
theorem ops_cells {w : World} {b off k : Nat} {o : Sp.Op} (h : ∀ i x, (opA o)[i]? = some x → w.cell? ⟨b, off + (k * 6 + i), none⟩ = some x) (hbl : b < w.heap.size) {W : World} (hW : Below w.heap.size w W) :
    W.cell? ⟨b, off + k * 6, none⟩ = some (.int .i64 o.kind) ∧ W.cell? ⟨b, off + k * 6 + 1, none⟩ = some (.string o.path) ∧ W.cell? ⟨b, off + k * 6 + 2, none⟩ = some (.string o.to) ∧ W.cell? ⟨b, off + k * 6 + 3, none⟩ = some (.int .i64 o.off) ∧ W.cell? ⟨b, off + k * 6 + 4, none⟩ = some (.int .i64 o.len) ∧ W.cell? ⟨b, off + k * 6 + 5, none⟩ = some (.string o.data) := by
  have g := fun i x (hx : (opA o)[i]? = some x) => ((show W.cell? ⟨b, off + k * 6 + i, none⟩ = w.cell? ⟨b, off + k * 6 + i, none⟩ from hW.cell (p := ⟨b, off + k * 6 + i, none⟩) hbl).trans (by rw [Nat.add_assoc]; exact h i x hx) : W.cell? ⟨b, off + k * 6 + i, none⟩ = some x)
  exact ⟨g 0 _ rfl, g 1 _ rfl, g 2 _ rfl, g 3 _ rfl, g 4 _ rfl, g 5 _ rfl⟩

def AsksRel (w : World) (l : List Sp.Op) (n B r : Nat) (i : Value) (wr : World) : Prop := ∃ (k : Nat) (D : Nat → Prop) (vT vN : Value), k ≤ n ∧ k ≤ 40 ∧ i = .int .i64 (k : Int) ∧ Hid (Pair w wr B r (Sp.new.steps (l.take k)) k D vT vN)
def AskRel2 (w : World) (t : Sp.Tree) (n B r : Nat) (i : Value) (wr : World) : Prop := ∃ (k : Nat) (D : Nat → Prop) (vT vN : Value), k ≤ n ∧ k ≤ 20 ∧ i = .int .i64 (k : Int) ∧ Hid (Pair w wr B r t 40 D vT vN)

/-- Behind the fork's answer, which lies in a block of its own. -/
def AskCut (w : World) (B r : Nat) (t : Sp.Tree) (D : Nat → Prop) (vT vN : Value) (a : Sp.Ans) (s9 : Value) (wx : World) : Prop :=
  ∃ n9 ad cap, s9 = .pointer (some ⟨n9, 0, none⟩) ∧ Pair w wx B r t 40 D vT vN ∧ wx.heap[n9]? = some (.cells #[.int .i64 a.code, .int .i64 a.kind, .int .i64 a.links, .int .i64 a.size, .string a.data, .slice ad a.names.length cap] 32 (0, 0)) ∧ Texts wx (.slice ad a.names.length cap) a.names
theorem not_first {w : World} {z : Obj} {Df : Nat → Prop} (df : ∀ j, Df j → (w.alloc z).drew.heap.size ≤ j) : ¬ Df w.heap.size := fun h => by
  have h9 := df _ h
  have h8 : (w.alloc z).heap.size = w.heap.size + 1 := by simp
  have h7 : (w.alloc z).drew.heap.size = w.heap.size + 1 := h8
  omega
theorem six_at {w : World} {n : Nat} {cs : Array Value} (h : w.heap[n]? = some (.cells cs 32 (0, 0))) (h6 : cs.size = 6) (a b c d e f : Value) :
    ((((((w.setCell ⟨n, 0, none⟩ a).setCell ⟨n, 1, none⟩ b).setCell ⟨n, 2, none⟩ c).setCell ⟨n, 3, none⟩ d).setCell ⟨n, 4, none⟩ e).setCell ⟨n, 5, none⟩ f).heap[n]? = some (.cells #[a, b, c, d, e, f] 32 (0, 0)) := by
  obtain ⟨l⟩ := cs
  match l, h6 with
  | [_, _, _, _, _, _], _ =>
    rw [heap_setCell_at (heap_setCell_at (heap_setCell_at (heap_setCell_at (heap_setCell_at (heap_setCell_at h _) _) _) _) _) _]
    rfl
theorem first_zero {w w5 : World} {z : Obj} (bf : Below (w.alloc z).drew.heap.size (w.alloc z).drew w5) : w5.heap[w.heap.size]? = some z := heap_below bf _ _ (heap_alloc_new w z)
theorem second_zero {w5 w6 : World} {z : Obj} {Df : Nat → Prop} (t6 : Turn Df (w5.alloc z) w6) (h : ¬ Df w5.heap.size) : w6.heap[w5.heap.size]? = some z := t6.heap (heap_alloc_new w5 z) h
theorem second_size {w5 w6 : World} {z : Obj} {Df : Nat → Prop} (_ : Turn Df (w5.alloc z) w6) : w5.heap.size < (w5.alloc z).heap.size := by simp
theorem ask_six {w wr w6 : World} {B r : Nat} {t : Sp.Tree} {D : Nat → Prop} {vT vN : Value} {c c1 c2 c3 : Int} {cd : ByteArray} {cn : List ByteArray} {ad : Option Addr} {cap n9 m : Nat} (hp : Pair w wr B r t 40 D vT vN) (hb : Below wr.heap.size wr w6) (hn : wr.heap.size ≤ n9) (hz : w6.heap[n9]? = some (.cells #[.int .i64 0, .int .i64 0, .int .i64 0, .int .i64 0, .string ⟨#[]⟩, .slice none 0 0] 32 (0, 0))) (hx : OwnTexts m w6 (.slice ad cn.length cap) cn) (hm : n9 < m) :
    AskCut w B r t D vT vN ⟨c, c1, c2, c3, cd, cn⟩ (.pointer (some ⟨n9, 0, none⟩)) ((((((w6.setCell ⟨n9, 0, none⟩ (.int .i64 c)).setCell ⟨n9, 1, none⟩ (.int .i64 c1)).setCell ⟨n9, 2, none⟩ (.int .i64 c2)).setCell ⟨n9, 3, none⟩ (.int .i64 c3)).setCell ⟨n9, 4, none⟩ (.string cd)).setCell ⟨n9, 5, none⟩ (.slice ad cn.length cap)) :=
  ⟨n9, ad, cap, rfl, hp.below (below_six hb hn _ _ _ _ _ _), six_at hz rfl _ _ _ _ _ _, (hx.same (fun k hk o ho => by rw [six_same w6 (by omega)]; exact ho)).texts⟩
theorem ask_new {w wr w6 : World} {B r : Nat} {t : Sp.Tree} {D : Nat → Prop} {vT vN : Value} {c c1 c2 c3 : Int} {cd : ByteArray} {cn : List ByteArray} {ad : Option Addr} {cap m : Nat} (hp : Pair w wr B r t 40 D vT vN) (hb : Below wr.heap.size wr w6) (hx : OwnTexts m w6 (.slice ad cn.length cap) cn) :
    AskCut w B r t D vT vN ⟨c, c1, c2, c3, cd, cn⟩ (.pointer (some ⟨w6.heap.size, 0, none⟩)) (w6.alloc (.cells #[.int .i64 c, .int .i64 c1, .int .i64 c2, .int .i64 c3, .string cd, .slice ad cn.length cap] 32)) :=
  ⟨_, ad, cap, rfl, hp.below (below_al hb _), heap_alloc_new w6 _, hx.texts.below (below_al (Below.refl _ _) _)⟩
theorem do_known2 {w0 w : World} {B : Nat} {t t' : Sp.Tree} {k : Nat} {D : Nat → Prop} {o : Sp.Op} {c c1 c2 c3 : Int} {d : ByteArray} {names : List ByteArray} (hs : t.step o = (t', ⟨c, c1, c2, c3, d, names⟩)) (h : Live w0 w B t k D) (ho : OpOk o) (hk : k ≤ 100000) :
    Calls Tryz.prog 12 #[ptr B, opV o] w fun e w' => ∃ ad cap, e = .returned (.agg #[.int .i64 c, .int .i64 c1, .int .i64 c2, .int .i64 c3, .string d, .slice ad names.length cap]) ∧ OwnTexts w.heap.size w' (.slice ad names.length cap) names ∧ Turn D w w' := by
  refine (do_live h o ho hk).mono ?_
  rintro e w' ⟨v, D', m, rfl, hv, hl, hT, hd, hm, _⟩
  rw [hs] at hv
  obtain ⟨nv, rfl, h2⟩ := hv
  obtain ⟨ad, cap, rfl⟩ := own_shape h2
  exact ⟨ad, cap, rfl, h2.mono hm, hT⟩
theorem rdo_known {base : Nat} {w : World} {D : Nat → Prop} {r : Nat} {t t' : Sp.Tree} {o : Sp.Op} {args : Array Value} {f : FuncId} {c c1 c2 c3 : Int} {d : ByteArray} {names : List ByteArray} (hs : t.step o = (t', ⟨c, c1, c2, c3, d, names⟩)) (h : Calls Tryz.prog f args w (RefDo base w D r (t.step o))) :
    Calls Tryz.prog f args w fun e w' => ∃ ad cap, e = .returned (.agg #[.int .i64 c, .int .i64 c1, .int .i64 c2, .int .i64 c3, .string d, .slice ad names.length cap]) ∧ OwnTexts w.heap.size w' (.slice ad names.length cap) names ∧ RefTo base w D r t' w' := by
  rw [hs] at h
  refine h.mono ?_
  rintro e w' ⟨v, rfl, ⟨nv, rfl, h2⟩, h3⟩
  obtain ⟨ad, cap, rfl⟩ := own_shape h2
  exact ⟨ad, cap, rfl, h2, h3⟩
section
set_option maxHeartbeats 8000000
set_option maxRecDepth 20000 in
theorem treeAsks_walk (w : World) {v u : Value} {l ks : List Sp.Op} (hl : Ops w v l) (hks : Ops w u ks) (hok : ∀ o ∈ l, OpOk o) (hok2 : ∀ o ∈ ks, OpOk o) (hm : MaxOk w) :
    Calls Tryz.prog 4 #[v, u] w fun e w' => e = .returned (.bool true) ∧ Below w.heap.size w w' := by
  have q1 := eql_tree_nil
  have HM := Lib.hid hm
  obtain ⟨ad, cap, rfl, hn1, hn2, hc⟩ := hl
  obtain ⟨ad2, cap2, rfl, hp1, hp2, hc2⟩ := hks
  obtain ⟨n, hn⟩ : ∃ n, l.length = n := ⟨_, rfl⟩
  obtain ⟨np, hnp⟩ : ∃ n, ks.length = n := ⟨_, rfl⟩
  have HN := Lib.hid hn
  have HNp := Lib.hid hnp
  have HC := Lib.hid hc
  have HC2 := Lib.hid hc2
  have HO := Lib.hid hok
  have HO2 := Lib.hid hok2
  rw [hn] at hn1 ⊢
  rw [hnp] at hp1 ⊢
  have hn3 : n ≤ 9223372036854775807 := Nat.le_trans (Nat.le_trans hn1 hn2) (by decide)
  have hp3 : np ≤ 9223372036854775807 := Nat.le_trans (Nat.le_trans hp1 hp2) (by decide)
  clear hm hc hc2 hok hok2 hn hnp hn1 hn2 hp1 hp2
  go_enter Tryz.func4, Tryz.ntmps4
  go_wp2_with fail
  refine (new_live (Below.refl _ w) HM.out).mono ?_
  rintro e w1 ⟨B, D1, rfl, l1, -, -⟩
  have L1 := Lib.hid l1
  clear l1
  unfold ptr
  go_wp2_with fail
  refine (rnew_any (base := w.heap.size) w1 (D := D1) L1.out.low.size (fun j hj => (L1.out.from0 j hj).2)).mono ?_
  rintro e w2 ⟨r, vT, vN, rfl, hr, hb2, -⟩
  have HP2 : Hid (Pair w w2 B r Sp.new 0 D1 vT vN) := ⟨L1.out.below hb2, hr⟩
  clear hr hb2 L1
  unfold ptr
  go_wp2_with fail
  refine (treeWorks_any (w0 := w) _ HP2.out.1.low HM.out).mono ?_
  rintro e w3 ⟨rfl, hb3⟩
  have HP3 := Lib.hid (HP2.out.below hb3)
  clear hb3 HP2
  go_wp2
  go_loopw [7] (fun i wr => AsksRel w l n B r i wr) (fun i _ => 40 - (intOf i).toNat)
  case atStart => exact ⟨0, D1, vT, vN, by omega, by omega, rfl, HP3⟩
  case round =>
    obtain ⟨k, D, vT, vN, hkn, hk40, rfl, HP⟩ := hrel
    clear HP3
    by_cases h1 : k < n
    · by_cases h2 : k < 40
      · obtain ⟨b, off, rfl, hbl, hcell⟩ := HC.out (by have := HN.out; omega)
        obtain ⟨o, ho⟩ : ∃ o, l[k]? = some o := ⟨l[k]'(by have := HN.out; omega), List.getElem?_eq_getElem _⟩
        have HOo := Lib.hid (HO.out _ (List.mem_of_getElem? ho))
        have HTk := Lib.hid (take_snoc l k _ ho)
        have hcl := fun (W : World) (hW : Below w.heap.size w W) => ops_cells (hcell k o ho) hbl hW
        obtain ⟨ok, op, ot, oo, ol, od⟩ := o
        simp only at hcl
        have HCl := Lib.hid hcl
        obtain ⟨g0, g1, g2, g3, g4, g5⟩ := HCl.out wr HP.out.1.low
        have HFew : Hid (Few (Sp.new.steps (l.take k))) := few_of (by rw [List.length_take]; omega)
        clear hcl hcell ho
        go_wp2_with fail
        refine (do_live HP.out.1 ⟨ok, op, ot, oo, ol, od⟩ HOo.out (by omega)).mono ?_
        rintro e w4 ⟨v4, D', m, rfl, -, l4, t4, d4, -, -⟩
        have HL4 := Lib.hid l4
        have HR4 := Lib.hid (HP.out.2.turn t4 d4 (fun j hj => (l4.from0 j hj).2))
        have HOk4 := Lib.hid HP.out.1.ok
        clear l4 t4 d4 g0 g1 g2 g3 g4 g5
        obtain ⟨g0, g1, g2, g3, g4, g5⟩ := HCl.out w4 HL4.out.low
        go_wp2_with fail
        refine (rdo_any HR4.out HOk4.out HFew.out ⟨ok, op, ot, oo, ol, od⟩ HOo.out).mono ?_
        rintro e w5 ⟨v5, rfl, -, hto⟩
        obtain ⟨vT', vN', hpair⟩ := Pair.ref HL4.out HR4.out hto
        have HP5 : Hid (Pair w w5 B r (Sp.new.steps (l.take (k + 1))) (k + 1) D' vT' vN') := by
          show Pair _ _ _ _ _ _ _ _ _
          rw [HTk.out, steps_snoc]
          exact hpair
        clear hto hpair HL4 HR4
        go_wp2
        go_roundw
        case rel => exact ⟨k + 1, D', vT', vN', by omega, by omega, by go_num, HP5⟩
        case measure => simp [intOf]; omega
      · have HFew : Hid (Few (Sp.new.steps (l.take k))) := few_of (by rw [List.length_take]; omega)
        obtain ⟨t, ht⟩ : ∃ t, Sp.new.steps (l.take k) = t := ⟨_, rfl⟩
        have hpt := HP.out
        rw [ht] at hpt HFew
        have HPt : Hid (Pair w wr B r t 40 D vT vN) := ⟨hpt.1.lift (Below.refl _ w) HM.out hk40, hpt.2⟩
        have HOk := Lib.hid hpt.1.ok
        clear ht hpt HP
        go_wp2
        go_loopw [8] (fun i wr2 => AskRel2 w t np B r i wr2) (fun i _ => 20 - (intOf i).toNat)
        case atStart => exact ⟨0, D, vT, vN, by omega, by omega, rfl, HPt⟩
        case round =>
          obtain ⟨k2, D2, vT2, vN2, hk2n, hk20, rfl, HP⟩ := hrel
          clear HPt
          by_cases h3 : k2 < np
          · by_cases h4 : k2 < 20
            · obtain ⟨b, off, rfl, hbl, hcell⟩ := HC2.out (by have := HNp.out; omega)
              obtain ⟨o, ho⟩ : ∃ o, ks[k2]? = some o := ⟨ks[k2]'(by have := HNp.out; omega), List.getElem?_eq_getElem _⟩
              have HOo := Lib.hid (HO2.out _ (List.mem_of_getElem? ho))
              have hcl := fun (W : World) (hW : Below w.heap.size w W) => ops_cells (hcell k2 o ho) hbl hW
              obtain ⟨ok, op, ot, oo, ol, od⟩ := o
              simp only at hcl
              have HCl := Lib.hid hcl
              obtain ⟨t', c, c1, c2, c3, cd, cn, hst⟩ : ∃ t' c c1 c2 ck cd cn, t.step ⟨ok, op, ot, oo, ol, od⟩ = (t', ⟨c, c1, c2, ck, cd, cn⟩) := ⟨_, _, _, _, _, _, _, rfl⟩
              have HSt := Lib.hid hst
              have HLow := Lib.hid HP.out.1.low
              have hdw : Below wr.heap.size wr wr.drew := below_dr (Below.refl _ _)
              have hb2 : (k2 : Int) < (np : Int) := by omega
              have hb3 : (0 : Int) ≤ (k2 : Int) := by omega
              clear hcl hcell ho hst hdw
              go_upto_region 13 with fail
              go_cut [9] (fun s9 wx => AskCut w B r t D2 vT2 vN2 ⟨c, c1, c2, c3, cd, cn⟩ s9 wx)
              case first =>
                go_region_held3 (fun W => W.cell? ⟨b, off + k2 * 6, none⟩ = some (.int .i64 ok) ∧ W.cell? ⟨b, off + k2 * 6 + 1, none⟩ = some (.string op) ∧ W.cell? ⟨b, off + k2 * 6 + 2, none⟩ = some (.string ot) ∧ W.cell? ⟨b, off + k2 * 6 + 3, none⟩ = some (.int .i64 oo) ∧ W.cell? ⟨b, off + k2 * 6 + 4, none⟩ = some (.int .i64 ol) ∧ W.cell? ⟨b, off + k2 * 6 + 5, none⟩ = some (.string od))
                  ((refine HCl.out _ (below_next HLow.out ?_); repeat' first | with_reducible exact Below.refl _ _ | with_reducible exact HB6.out | with_reducible exact HB5.out | with_reducible refine below_al ?_ _ | with_reducible refine below_dr ?_ | with_reducible refine below_six ?_ ?_ _ _ _ _ _ _ | with_reducible exact Nat.le_refl _ | with_reducible exact HB5.out.size))
                  (first
                    | (go_at_call 9
                       refine (fork_live (HP.out.1.below (by repeat' first | with_reducible exact Below.refl _ _ | with_reducible refine below_al ?_ _ | with_reducible refine below_dr ?_)) (by decide)).mono ?_
                       rintro e w5 ⟨Bf, Df, rfl, lf, bf, df⟩
                       have HLf := Lib.hid lf
                       have HB5 : Hid (Below wr.heap.size wr w5) := below_next (by repeat' first | with_reducible exact Below.refl _ _ | with_reducible refine below_al ?_ _ | with_reducible refine below_dr ?_) bf
                       have HDw : Hid (∀ j, Df j → wr.heap.size ≤ j) := fun j hj => Nat.le_trans ((by repeat' first | with_reducible exact Below.refl _ _ | with_reducible refine below_al ?_ _ | with_reducible refine below_dr ?_) : Below wr.heap.size wr _).size (df j hj)
                       try (with_reducible have hz5 := first_zero bf; have HZ5 := Lib.hid hz5; with_reducible have HDn := Lib.hid (not_first df); clear hz5)
                       have HDn5 : Hid (¬ Df w5.heap.size) := fun h => Nat.lt_irrefl _ (lf.from0 _ h).2
                       clear lf bf df
                       simp only [ptr])
                    | (go_at_call 12
                       refine (do_known2 HSt.out (HLf.out.below (by repeat' first | with_reducible exact Below.refl _ _ | with_reducible refine below_al ?_ _ | with_reducible refine below_dr ?_)) HOo.out (by decide)).mono ?_
                       rintro e w6 ⟨ad6, cap6, rfl, x6, t6⟩
                       have HB6 : Hid (Below wr.heap.size wr w6) := Below.trans (below_next HB5.out (by repeat' first | with_reducible exact Below.refl _ _ | with_reducible refine below_al ?_ _ | with_reducible refine below_dr ?_)) (t6.below HDw.out (below_next HB5.out (by repeat' first | with_reducible exact Below.refl _ _ | with_reducible refine below_al ?_ _ | with_reducible refine below_dr ?_)).size)
                       have HX6 := Lib.hid x6
                       try (with_reducible have hzA := t6.heap HZ5.out HDn.out; have HZA := Lib.hid hzA; have HMA := Lib.hid (Array.getElem?_eq_some_iff.1 HZ5.out).1; obtain ⟨z0, z1⟩ := ans_cells hzA; clear hzA)
                       try (with_reducible have hzB := second_zero t6 HDn5.out; have HZB := Lib.hid hzB; with_reducible have HMB := Lib.hid (second_size t6); obtain ⟨z0, z1⟩ := ans_cells hzB; clear hzB)
                       clear x6 t6
                       simp only))
                all_goals
                  go_wp2_with fail
                  go_meet
                  case rel =>
                    first
                      | with_reducible exact ask_new HP.out HB6.out HX6.out
                      | with_reducible exact ask_six HP.out HB6.out (Nat.le_refl _) HZA.out HX6.out HMA.out
                      | with_reducible exact ask_six HP.out HB6.out HB5.out.size HZB.out HX6.out HMB.out
              case rest =>
              obtain ⟨n9, ad9, cap9, rfl, hpc, hn9, htx9⟩ := hcut
              have HPc := Lib.hid hpc
              have HTx9 := Lib.hid htx9
              have hn9l := (Array.getElem?_eq_some_iff.1 hn9).1
              have HSa : Hid (∀ W, Below wc.heap.size wc W → (W.cell? ⟨n9, 0, none⟩ = some (.int .i64 c) ∧ W.cell? ⟨n9, 1, none⟩ = some (.int .i64 c1) ∧ W.cell? ⟨n9, 2, none⟩ = some (.int .i64 c2) ∧ W.cell? ⟨n9, 3, none⟩ = some (.int .i64 c3) ∧ W.cell? ⟨n9, 4, none⟩ = some (.string cd) ∧ W.cell? ⟨n9, 5, none⟩ = some (.slice ad9 cn.length cap9)) ∧ W.cell? ⟨b, off + k2 * 6, none⟩ = some (.int .i64 ok) ∧ W.cell? ⟨b, off + k2 * 6 + 1, none⟩ = some (.string op) ∧ W.cell? ⟨b, off + k2 * 6 + 2, none⟩ = some (.string ot) ∧ W.cell? ⟨b, off + k2 * 6 + 3, none⟩ = some (.int .i64 oo) ∧ W.cell? ⟨b, off + k2 * 6 + 4, none⟩ = some (.int .i64 ol) ∧ W.cell? ⟨b, off + k2 * 6 + 5, none⟩ = some (.string od)) := fun W hW =>
                ⟨⟨cell_of_heap (heap_below hW _ _ hn9) rfl, cell_of_heap (heap_below hW _ _ hn9) rfl, cell_of_heap (heap_below hW _ _ hn9) rfl, cell_of_heap (heap_below hW _ _ hn9) rfl, cell_of_heap (heap_below hW _ _ hn9) rfl, cell_of_heap (heap_below hW _ _ hn9) rfl⟩, HCl.out W (below_next HPc.out.1.low hW)⟩
              clear hpc htx9 hn9 HP
              go_upto_region 14 with fail
              go_region_held3 (fun W => (W.cell? ⟨n9, 0, none⟩ = some (.int .i64 c) ∧ W.cell? ⟨n9, 1, none⟩ = some (.int .i64 c1) ∧ W.cell? ⟨n9, 2, none⟩ = some (.int .i64 c2) ∧ W.cell? ⟨n9, 3, none⟩ = some (.int .i64 c3) ∧ W.cell? ⟨n9, 4, none⟩ = some (.string cd) ∧ W.cell? ⟨n9, 5, none⟩ = some (.slice ad9 cn.length cap9)) ∧ W.cell? ⟨b, off + k2 * 6, none⟩ = some (.int .i64 ok) ∧ W.cell? ⟨b, off + k2 * 6 + 1, none⟩ = some (.string op) ∧ W.cell? ⟨b, off + k2 * 6 + 2, none⟩ = some (.string ot) ∧ W.cell? ⟨b, off + k2 * 6 + 3, none⟩ = some (.int .i64 oo) ∧ W.cell? ⟨b, off + k2 * 6 + 4, none⟩ = some (.int .i64 ol) ∧ W.cell? ⟨b, off + k2 * 6 + 5, none⟩ = some (.string od))
                ((refine HSa.out _ ?_; repeat' first | with_reducible exact Below.refl _ _ | with_reducible exact HB9.out | with_reducible exact HB8.out | with_reducible exact HB7.out | with_reducible refine below_al ?_ _ | with_reducible refine below_dr ?_))
                (first
                  | (go_at_call 10
                     refine (rfork_any (HPc.out.2.below (below_dr (Below.refl _ _)))).mono ?_
                     rintro e w7 ⟨g, vT7, vN7, rfl, hr7, hb7, hg7⟩
                     have HR7 := Lib.hid hr7
                     have HB7 : Hid (Below wc.heap.size wc w7) := below_next (below_dr (Below.refl _ _)) hb7
                     have HG7 : Hid (wc.heap.size ≤ g) := hg7
                     clear hr7 hb7 hg7
                     simp only [ptr])
                  | (go_at_call 13
                     refine (rdo_known HSt.out (rdo_any HR7.out HOk.out HFew.out ⟨ok, op, ot, oo, ol, od⟩ HOo.out)).mono ?_
                     rintro e w8 ⟨ad8, cap8, rfl, x8, vT8, vN8, hr8, ht8⟩
                     have HB8 : Hid (Below wc.heap.size wc w8) := HB7.out.trans (ht8.below (fun k hk => by rw [hk]; exact HG7.out) HB7.out.size)
                     have HX8 := Lib.hid x8
                     clear x8 hr8 ht8
                     simp only)
                  | (go_at_call 11
                     refine (sameAns_yes _ (a := ⟨c, c1, c2, c3, cd, cn⟩) ⟨_, rfl, HTx9.out.below HB8.out⟩ ⟨_, rfl, HX8.out.texts⟩).mono ?_
                     rintro e w9 ⟨rfl, hb9⟩
                     have HB9 : Hid (Below wc.heap.size wc w9) := below_next HB8.out hb9
                     clear hb9
                     simp only))
              all_goals
                have HP9 := Lib.hid (HPc.out.below HB9.out)
                go_wp2
                go_roundw
                case rel => exact ⟨k2 + 1, D2, vT2, vN2, by omega, by omega, by go_num, HP9⟩
                case measure => simp [intOf]; omega
            · have HTk2 := HP.out
              go_wp2_with fail
              refine (paths_live HP.out.1 (by decide)).mono ?_
              rintro e w6 ⟨v6, rfl, ho6, hb6⟩
              have HP6 := Lib.hid (HP.out.below hb6)
              have HO6 := Lib.hid ho6
              clear ho6 hb6 HTk2
              go_wp2_with fail
              refine (rpaths_any HP6.out.2 HOk.out HFew.out).mono ?_
              rintro e w7 ⟨v7, rfl, ho7, hb7⟩
              have HP7 := Lib.hid (HP6.out.below hb7)
              have HO7 := Lib.hid ho7
              have HT6 := Lib.hid (HO6.out.texts.below hb7)
              clear ho7 hb7
              go_wp2_with fail
              refine (sameTexts_yes _ _ _ _ HT6.out HO7.out.texts).mono ?_
              rintro e w8 ⟨rfl, hb8⟩
              have HB8 := Lib.hid (below_next HP7.out.1.low hb8)
              clear hb8
              go_wp2
              go_ret
              exact ⟨rfl, HB8.out⟩
          · have HTk2 := HP.out
            go_wp2_with fail
            refine (paths_live HP.out.1 (by decide)).mono ?_
            rintro e w6 ⟨v6, rfl, ho6, hb6⟩
            have HP6 := Lib.hid (HP.out.below hb6)
            have HO6 := Lib.hid ho6
            clear ho6 hb6 HTk2
            go_wp2_with fail
            refine (rpaths_any HP6.out.2 HOk.out HFew.out).mono ?_
            rintro e w7 ⟨v7, rfl, ho7, hb7⟩
            have HP7 := Lib.hid (HP6.out.below hb7)
            have HO7 := Lib.hid ho7
            have HT6 := Lib.hid (HO6.out.texts.below hb7)
            clear ho7 hb7
            go_wp2_with fail
            refine (sameTexts_yes _ _ _ _ HT6.out HO7.out.texts).mono ?_
            rintro e w8 ⟨rfl, hb8⟩
            have HB8 := Lib.hid (below_next HP7.out.1.low hb8)
            clear hb8
            go_wp2
            go_ret
            exact ⟨rfl, HB8.out⟩
    · have HFew : Hid (Few (Sp.new.steps (l.take k))) := few_of (by rw [List.length_take]; omega)
      obtain ⟨t, ht⟩ : ∃ t, Sp.new.steps (l.take k) = t := ⟨_, rfl⟩
      have hpt := HP.out
      rw [ht] at hpt HFew
      have HPt : Hid (Pair w wr B r t 40 D vT vN) := ⟨hpt.1.lift (Below.refl _ w) HM.out hk40, hpt.2⟩
      have HOk := Lib.hid hpt.1.ok
      clear ht hpt HP
      go_wp2
      go_loopw [8] (fun i wr2 => AskRel2 w t np B r i wr2) (fun i _ => 20 - (intOf i).toNat)
      case atStart => exact ⟨0, D, vT, vN, by omega, by omega, rfl, HPt⟩
      case round =>
        obtain ⟨k2, D2, vT2, vN2, hk2n, hk20, rfl, HP⟩ := hrel
        clear HPt
        by_cases h3 : k2 < np
        · by_cases h4 : k2 < 20
          · obtain ⟨b, off, rfl, hbl, hcell⟩ := HC2.out (by have := HNp.out; omega)
            obtain ⟨o, ho⟩ : ∃ o, ks[k2]? = some o := ⟨ks[k2]'(by have := HNp.out; omega), List.getElem?_eq_getElem _⟩
            have HOo := Lib.hid (HO2.out _ (List.mem_of_getElem? ho))
            have hcl := fun (W : World) (hW : Below w.heap.size w W) => ops_cells (hcell k2 o ho) hbl hW
            obtain ⟨ok, op, ot, oo, ol, od⟩ := o
            simp only at hcl
            have HCl := Lib.hid hcl
            obtain ⟨t', c, c1, c2, c3, cd, cn, hst⟩ : ∃ t' c c1 c2 ck cd cn, t.step ⟨ok, op, ot, oo, ol, od⟩ = (t', ⟨c, c1, c2, ck, cd, cn⟩) := ⟨_, _, _, _, _, _, _, rfl⟩
            have HSt := Lib.hid hst
            have HLow := Lib.hid HP.out.1.low
            have hdw : Below wr.heap.size wr wr.drew := below_dr (Below.refl _ _)
            have hb2 : (k2 : Int) < (np : Int) := by omega
            have hb3 : (0 : Int) ≤ (k2 : Int) := by omega
            clear hcl hcell ho hst hdw
            go_upto_region 13 with fail
            go_cut [9] (fun s9 wx => AskCut w B r t D2 vT2 vN2 ⟨c, c1, c2, c3, cd, cn⟩ s9 wx)
            case first =>
              go_region_held3 (fun W => W.cell? ⟨b, off + k2 * 6, none⟩ = some (.int .i64 ok) ∧ W.cell? ⟨b, off + k2 * 6 + 1, none⟩ = some (.string op) ∧ W.cell? ⟨b, off + k2 * 6 + 2, none⟩ = some (.string ot) ∧ W.cell? ⟨b, off + k2 * 6 + 3, none⟩ = some (.int .i64 oo) ∧ W.cell? ⟨b, off + k2 * 6 + 4, none⟩ = some (.int .i64 ol) ∧ W.cell? ⟨b, off + k2 * 6 + 5, none⟩ = some (.string od))
                ((refine HCl.out _ (below_next HLow.out ?_); repeat' first | with_reducible exact Below.refl _ _ | with_reducible exact HB6.out | with_reducible exact HB5.out | with_reducible refine below_al ?_ _ | with_reducible refine below_dr ?_ | with_reducible refine below_six ?_ ?_ _ _ _ _ _ _ | with_reducible exact Nat.le_refl _ | with_reducible exact HB5.out.size))
                (first
                  | (go_at_call 9
                     refine (fork_live (HP.out.1.below (by repeat' first | with_reducible exact Below.refl _ _ | with_reducible refine below_al ?_ _ | with_reducible refine below_dr ?_)) (by decide)).mono ?_
                     rintro e w5 ⟨Bf, Df, rfl, lf, bf, df⟩
                     have HLf := Lib.hid lf
                     have HB5 : Hid (Below wr.heap.size wr w5) := below_next (by repeat' first | with_reducible exact Below.refl _ _ | with_reducible refine below_al ?_ _ | with_reducible refine below_dr ?_) bf
                     have HDw : Hid (∀ j, Df j → wr.heap.size ≤ j) := fun j hj => Nat.le_trans ((by repeat' first | with_reducible exact Below.refl _ _ | with_reducible refine below_al ?_ _ | with_reducible refine below_dr ?_) : Below wr.heap.size wr _).size (df j hj)
                     try (with_reducible have hz5 := first_zero bf; have HZ5 := Lib.hid hz5; with_reducible have HDn := Lib.hid (not_first df); clear hz5)
                     have HDn5 : Hid (¬ Df w5.heap.size) := fun h => Nat.lt_irrefl _ (lf.from0 _ h).2
                     clear lf bf df
                     simp only [ptr])
                  | (go_at_call 12
                     refine (do_known2 HSt.out (HLf.out.below (by repeat' first | with_reducible exact Below.refl _ _ | with_reducible refine below_al ?_ _ | with_reducible refine below_dr ?_)) HOo.out (by decide)).mono ?_
                     rintro e w6 ⟨ad6, cap6, rfl, x6, t6⟩
                     have HB6 : Hid (Below wr.heap.size wr w6) := Below.trans (below_next HB5.out (by repeat' first | with_reducible exact Below.refl _ _ | with_reducible refine below_al ?_ _ | with_reducible refine below_dr ?_)) (t6.below HDw.out (below_next HB5.out (by repeat' first | with_reducible exact Below.refl _ _ | with_reducible refine below_al ?_ _ | with_reducible refine below_dr ?_)).size)
                     have HX6 := Lib.hid x6
                     try (with_reducible have hzA := t6.heap HZ5.out HDn.out; have HZA := Lib.hid hzA; have HMA := Lib.hid (Array.getElem?_eq_some_iff.1 HZ5.out).1; obtain ⟨z0, z1⟩ := ans_cells hzA; clear hzA)
                     try (with_reducible have hzB := second_zero t6 HDn5.out; have HZB := Lib.hid hzB; with_reducible have HMB := Lib.hid (second_size t6); obtain ⟨z0, z1⟩ := ans_cells hzB; clear hzB)
                     clear x6 t6
                     simp only))
              all_goals
                go_wp2_with fail
                go_meet
                case rel =>
                  first
                    | with_reducible exact ask_new HP.out HB6.out HX6.out
                    | with_reducible exact ask_six HP.out HB6.out (Nat.le_refl _) HZA.out HX6.out HMA.out
                    | with_reducible exact ask_six HP.out HB6.out HB5.out.size HZB.out HX6.out HMB.out
            case rest =>
            obtain ⟨n9, ad9, cap9, rfl, hpc, hn9, htx9⟩ := hcut
            have HPc := Lib.hid hpc
            have HTx9 := Lib.hid htx9
            have hn9l := (Array.getElem?_eq_some_iff.1 hn9).1
            have HSa : Hid (∀ W, Below wc.heap.size wc W → (W.cell? ⟨n9, 0, none⟩ = some (.int .i64 c) ∧ W.cell? ⟨n9, 1, none⟩ = some (.int .i64 c1) ∧ W.cell? ⟨n9, 2, none⟩ = some (.int .i64 c2) ∧ W.cell? ⟨n9, 3, none⟩ = some (.int .i64 c3) ∧ W.cell? ⟨n9, 4, none⟩ = some (.string cd) ∧ W.cell? ⟨n9, 5, none⟩ = some (.slice ad9 cn.length cap9)) ∧ W.cell? ⟨b, off + k2 * 6, none⟩ = some (.int .i64 ok) ∧ W.cell? ⟨b, off + k2 * 6 + 1, none⟩ = some (.string op) ∧ W.cell? ⟨b, off + k2 * 6 + 2, none⟩ = some (.string ot) ∧ W.cell? ⟨b, off + k2 * 6 + 3, none⟩ = some (.int .i64 oo) ∧ W.cell? ⟨b, off + k2 * 6 + 4, none⟩ = some (.int .i64 ol) ∧ W.cell? ⟨b, off + k2 * 6 + 5, none⟩ = some (.string od)) := fun W hW =>
              ⟨⟨cell_of_heap (heap_below hW _ _ hn9) rfl, cell_of_heap (heap_below hW _ _ hn9) rfl, cell_of_heap (heap_below hW _ _ hn9) rfl, cell_of_heap (heap_below hW _ _ hn9) rfl, cell_of_heap (heap_below hW _ _ hn9) rfl, cell_of_heap (heap_below hW _ _ hn9) rfl⟩, HCl.out W (below_next HPc.out.1.low hW)⟩
            clear hpc htx9 hn9 HP
            go_upto_region 14 with fail
            go_region_held3 (fun W => (W.cell? ⟨n9, 0, none⟩ = some (.int .i64 c) ∧ W.cell? ⟨n9, 1, none⟩ = some (.int .i64 c1) ∧ W.cell? ⟨n9, 2, none⟩ = some (.int .i64 c2) ∧ W.cell? ⟨n9, 3, none⟩ = some (.int .i64 c3) ∧ W.cell? ⟨n9, 4, none⟩ = some (.string cd) ∧ W.cell? ⟨n9, 5, none⟩ = some (.slice ad9 cn.length cap9)) ∧ W.cell? ⟨b, off + k2 * 6, none⟩ = some (.int .i64 ok) ∧ W.cell? ⟨b, off + k2 * 6 + 1, none⟩ = some (.string op) ∧ W.cell? ⟨b, off + k2 * 6 + 2, none⟩ = some (.string ot) ∧ W.cell? ⟨b, off + k2 * 6 + 3, none⟩ = some (.int .i64 oo) ∧ W.cell? ⟨b, off + k2 * 6 + 4, none⟩ = some (.int .i64 ol) ∧ W.cell? ⟨b, off + k2 * 6 + 5, none⟩ = some (.string od))
              ((refine HSa.out _ ?_; repeat' first | with_reducible exact Below.refl _ _ | with_reducible exact HB9.out | with_reducible exact HB8.out | with_reducible exact HB7.out | with_reducible refine below_al ?_ _ | with_reducible refine below_dr ?_))
              (first
                | (go_at_call 10
                   refine (rfork_any (HPc.out.2.below (below_dr (Below.refl _ _)))).mono ?_
                   rintro e w7 ⟨g, vT7, vN7, rfl, hr7, hb7, hg7⟩
                   have HR7 := Lib.hid hr7
                   have HB7 : Hid (Below wc.heap.size wc w7) := below_next (below_dr (Below.refl _ _)) hb7
                   have HG7 : Hid (wc.heap.size ≤ g) := hg7
                   clear hr7 hb7 hg7
                   simp only [ptr])
                | (go_at_call 13
                   refine (rdo_known HSt.out (rdo_any HR7.out HOk.out HFew.out ⟨ok, op, ot, oo, ol, od⟩ HOo.out)).mono ?_
                   rintro e w8 ⟨ad8, cap8, rfl, x8, vT8, vN8, hr8, ht8⟩
                   have HB8 : Hid (Below wc.heap.size wc w8) := HB7.out.trans (ht8.below (fun k hk => by rw [hk]; exact HG7.out) HB7.out.size)
                   have HX8 := Lib.hid x8
                   clear x8 hr8 ht8
                   simp only)
                | (go_at_call 11
                   refine (sameAns_yes _ (a := ⟨c, c1, c2, c3, cd, cn⟩) ⟨_, rfl, HTx9.out.below HB8.out⟩ ⟨_, rfl, HX8.out.texts⟩).mono ?_
                   rintro e w9 ⟨rfl, hb9⟩
                   have HB9 : Hid (Below wc.heap.size wc w9) := below_next HB8.out hb9
                   clear hb9
                   simp only))
            all_goals
              have HP9 := Lib.hid (HPc.out.below HB9.out)
              go_wp2
              go_roundw
              case rel => exact ⟨k2 + 1, D2, vT2, vN2, by omega, by omega, by go_num, HP9⟩
              case measure => simp [intOf]; omega
          · have HTk2 := HP.out
            go_wp2_with fail
            refine (paths_live HP.out.1 (by decide)).mono ?_
            rintro e w6 ⟨v6, rfl, ho6, hb6⟩
            have HP6 := Lib.hid (HP.out.below hb6)
            have HO6 := Lib.hid ho6
            clear ho6 hb6 HTk2
            go_wp2_with fail
            refine (rpaths_any HP6.out.2 HOk.out HFew.out).mono ?_
            rintro e w7 ⟨v7, rfl, ho7, hb7⟩
            have HP7 := Lib.hid (HP6.out.below hb7)
            have HO7 := Lib.hid ho7
            have HT6 := Lib.hid (HO6.out.texts.below hb7)
            clear ho7 hb7
            go_wp2_with fail
            refine (sameTexts_yes _ _ _ _ HT6.out HO7.out.texts).mono ?_
            rintro e w8 ⟨rfl, hb8⟩
            have HB8 := Lib.hid (below_next HP7.out.1.low hb8)
            clear hb8
            go_wp2
            go_ret
            exact ⟨rfl, HB8.out⟩
        · have HTk2 := HP.out
          go_wp2_with fail
          refine (paths_live HP.out.1 (by decide)).mono ?_
          rintro e w6 ⟨v6, rfl, ho6, hb6⟩
          have HP6 := Lib.hid (HP.out.below hb6)
          have HO6 := Lib.hid ho6
          clear ho6 hb6 HTk2
          go_wp2_with fail
          refine (rpaths_any HP6.out.2 HOk.out HFew.out).mono ?_
          rintro e w7 ⟨v7, rfl, ho7, hb7⟩
          have HP7 := Lib.hid (HP6.out.below hb7)
          have HO7 := Lib.hid ho7
          have HT6 := Lib.hid (HO6.out.texts.below hb7)
          clear ho7 hb7
          go_wp2_with fail
          refine (sameTexts_yes _ _ _ _ HT6.out HO7.out.texts).mono ?_
          rintro e w8 ⟨rfl, hb8⟩
          have HB8 := Lib.hid (below_next HP7.out.1.low hb8)
          clear hb8
          go_wp2
          go_ret
          exact ⟨rfl, HB8.out⟩
end
end Go.Proofs.YtcgpmnlondnbhaaGreatDoor

namespace Go.Proofs.YtcgpmnlondnbhaaGreatDoor
open Go Go.RowKit Txt Sp

def SpoilPost (v : Value) (w : World) (e : Ending) (w' : World) : Prop := e = .returned (.tuple #[]) ∧ Turn (fun j => v.ownBlock = some j) w w'
def SpoilRel (w : World) (base : Nat) (e : TypeId) (g n cap : Nat) (i : Value) (wr : World) : Prop := ∃ (k : Nat) (xs : List Value), k ≤ n ∧ i = .int .i64 (k : Int) ∧ Hid (wr.ownsRow base e 1 (.slice (some ⟨g, 0, none⟩) n cap) n xs) ∧ Hid (Turn (fun j => (Value.slice (some ⟨g, 0, none⟩) n cap).ownBlock = some j) w wr)
section
set_option maxHeartbeats 4000000
set_option maxRecDepth 20000 in
theorem spoil_any {w : World} {base : Nat} {v : Value} {l : List ByteArray} (hl : OwnTexts base w v l) : Calls Tryz.prog 14 #[v] w (SpoilPost v w) := by
  obtain ⟨e0, hown⟩ := hl
  rcases hown.2 with ⟨rfl, h0⟩ | ⟨g, cap, cur, rfl, hb, hg, h1, h2, h3, h4⟩
  · have HT : Hid (Turn (fun j => (Value.slice none 0 0).ownBlock = some j) w w) := Turn.refl _ _
    clear hown h0
    go_enter Tryz.func14, Tryz.ntmps14
    go_wp2
    go_loop [2] (fun i => i = .int .i64 0) (fun _ => 0)
    case atStart => rfl
    case round =>
      subst hrel
      go_wp2
      go_end0
      exact ⟨rfl, HT.out⟩
  · obtain ⟨n, hn⟩ : ∃ n, l.length = n := ⟨_, rfl⟩
    rw [hn] at hown h1 ⊢
    have hn3 : n ≤ 9223372036854775807 := Nat.le_trans (Nat.le_trans h1 h2) (by decide)
    have HOwn := Lib.hid hown
    clear hown hb hg h3 h4 hn h2
    go_enter Tryz.func14, Tryz.ntmps14
    go_wp2
    go_loopw [2] (fun i wr => SpoilRel w base e0 g n cap i wr) (fun i _ => n - (intOf i).toNat)
    case atStart => exact ⟨0, _, Nat.zero_le _, rfl, HOwn, Turn.refl _ _⟩
    case round =>
      obtain ⟨k, xs, hk, rfl, HO, HT⟩ := hrel
      by_cases hlt : k < n
      · obtain ⟨u, hu⟩ : ∃ u, xs[k]? = some u := ⟨xs[k]'(by have := HO.out.1; omega), List.getElem?_eq_getElem _⟩
        have c0 : wr.cell? ⟨g, k, none⟩ = some u := by rw [HO.out.cellAt k (by omega)]; exact hu
        have f0 : wr.frozen? ⟨g, k, none⟩ = false := HO.out.frozenAt _
        have HS := Lib.hid (HO.out.stored k (.string ⟨#[115, 112, 111, 105, 108, 116]⟩)).1
        have HT2 : Hid (Turn (fun j => (Value.slice (some ⟨g, 0, none⟩) n cap).ownBlock = some j) w (wr.setCell ⟨g, k, none⟩ (.string ⟨#[115, 112, 111, 105, 108, 116]⟩))) := HT.out.setCell rfl k _
        clear hu
        go_wp2
        go_roundw
        case rel => exact ⟨k + 1, _, by omega, by go_num, HS, HT2⟩
        case measure => simp [intOf]; omega
      · go_wp2
        go_end0
        exact ⟨rfl, HT.out⟩
end
end Go.Proofs.YtcgpmnlondnbhaaGreatDoor

namespace Go.Proofs.YtcgpmnlondnbhaaGreatDoor
open Go Go.RowKit Txt Sp

theorem do_known3 {w0 w : World} {B : Nat} {t t' : Sp.Tree} {k : Nat} {D : Nat → Prop} {o : Sp.Op} {c c1 c2 c3 : Int} {d : ByteArray} {names : List ByteArray} (hs : t.step o = (t', ⟨c, c1, c2, c3, d, names⟩)) (h : Live w0 w B t k D) (ho : OpOk o) (hk : k ≤ 100000) :
    Calls Tryz.prog 12 #[ptr B, opV o] w fun e w' => ∃ ad cap m D', e = .returned (.agg #[.int .i64 c, .int .i64 c1, .int .i64 c2, .int .i64 c3, .string d, .slice ad names.length cap]) ∧ OwnTexts m w' (.slice ad names.length cap) names ∧ w.heap.size ≤ m ∧ (∀ j, D' j → j < m) ∧ Live w0 w' B t' (k + 1) D' ∧ Turn D w w' ∧ ∀ j, D' j → D j ∨ w.heap.size ≤ j := by
  refine (do_live h o ho hk).mono ?_
  rintro e w' ⟨v, D', m, rfl, hv, hl, hT, hd, hm, hlt⟩
  rw [hs] at hv hl
  obtain ⟨nv, rfl, h2⟩ := hv
  obtain ⟨ad, cap, rfl⟩ := own_shape h2
  exact ⟨ad, cap, m, D', rfl, h2, hm, hlt, hl, hT, hd⟩
/-- The fork f of the tree and g of the reference, side by side; both above the round's world. -/
def Forks (w wr wx : World) (Bf g : Nat) (t : Sp.Tree) (k : Nat) (Df : Nat → Prop) (vT vN : Value) : Prop :=
  Pair w wx Bf g t k Df vT vN ∧ (∀ j, Df j → wr.heap.size ≤ j) ∧ wr.heap.size ≤ g ∧ Below wr.heap.size wr wx
theorem Forks.below {w wr wx wy : World} {Bf g : Nat} {t : Sp.Tree} {k : Nat} {Df : Nat → Prop} {vT vN : Value} (h : Forks w wr wx Bf g t k Df vT vN) (hb : Below wx.heap.size wx wy) : Forks w wr wy Bf g t k Df vT vN :=
  ⟨h.1.below hb, h.2.1, h.2.2.1, below_next h.2.2.2 hb⟩
def PlayCut (w wr : World) (Bf : Nat) (t : Sp.Tree) (k : Nat) (c : Value) (wx : World) : Prop :=
  c = .bool false ∧ ∃ Df, Live w wx Bf t (k + 1) Df ∧ (∀ j, Df j → wr.heap.size ≤ j) ∧ Below wr.heap.size wr wx
/-- The reference apart from the fork's blocks. -/
theorem RefAt.away {base : Nat} {w w' : World} {D D' : Nat → Prop} {r : Nat} {t : Sp.Tree} {vT vN : Value} (h : RefAt base w D r t vT vN) (hb : Below w.heap.size w w') (hd : ∀ j, D' j → w.heap.size ≤ j ∧ j < w'.heap.size) : RefAt base w' D' r t vT vN :=
  h.keep (fun _ _ _ ho => heap_below hb _ _ ho) (fun j hj => Or.inr (hd j hj).1) (fun j hj => (hd j hj).2)
/-- The answer's names keep behind a turn below them. -/
theorem own_turn {m : Nat} {w w' : World} {K : Nat → Prop} {v : Value} {l : List ByteArray} (h : OwnTexts m w v l) (hT : Turn K w w') (hK : ∀ j, K j → j < m) : OwnTexts m w' v l :=
  h.same (fun k hk o ho => hT.heap ho (fun e => by have := hK k e; omega))
/-- The tree's operation on the fork. -/
theorem Forks.tree {w wr wx wy : World} {Bf g : Nat} {t t' : Sp.Tree} {k : Nat} {Df Df' : Nat → Prop} {vT vN : Value} (h : Forks w wr wx Bf g t k Df vT vN) (hl : Live w wy Bf t' (k + 1) Df') (hT : Turn Df wx wy) (hd : ∀ j, Df' j → Df j ∨ wx.heap.size ≤ j) :
    Live w wy Bf t' (k + 1) Df' ∧ RefAt w.heap.size wy Df' g t vT vN ∧ (∀ j, Df' j → wr.heap.size ≤ j) ∧ wr.heap.size ≤ g ∧ Below wr.heap.size wr wy :=
  ⟨hl, h.1.2.turn hT hd (fun j hj => (hl.from0 j hj).2), fun j hj => (hd j hj).elim (h.2.1 j) (fun e => Nat.le_trans h.2.2.2.size e), h.2.2.1, h.2.2.2.trans (hT.below h.2.1 h.2.2.2.size)⟩
theorem forks_new {w wr w1 w2 : World} {B r Bf g : Nat} {t : Sp.Tree} {k : Nat} {D Df : Nat → Prop} {vT vN vT2 vN2 : Value} (_ : Pair w wr B r t k D vT vN) (hf : Live w w1 Bf t k Df) (b1 : Below wr.heap.size wr w1) (df : ∀ j, Df j → wr.heap.size ≤ j) (hg : RefAt w.heap.size w2 Df g t vT2 vN2) (b2 : Below w1.heap.size w1 w2) (hgl : w1.heap.size ≤ g) : Forks w wr w2 Bf g t k Df vT2 vN2 :=
  ⟨⟨hf.below b2, hg⟩, df, Nat.le_trans b1.size hgl, below_next b1 b2⟩
/-- Behind both operations on the forks. -/
theorem play_cut {w wr wx wy wz : World} {Bf g : Nat} {t t' : Sp.Tree} {k : Nat} {Df : Nat → Prop} {vT vN : Value} (h : Live w wx Bf t' (k + 1) Df ∧ RefAt w.heap.size wx Df g t vT vN ∧ (∀ j, Df j → wr.heap.size ≤ j) ∧ wr.heap.size ≤ g ∧ Below wr.heap.size wr wx) (hto : RefTo w.heap.size wx Df g t' wy) (hz : Below wy.heap.size wy wz) : PlayCut w wr Bf t' k (.bool false) wz := by
  obtain ⟨hl, hr, hd, hg, hb⟩ := h
  obtain ⟨vT', vN', hR, hT⟩ := hto
  have hl2 := hl.besideL hT (fun j hj e => hr.apart.1 (by rw [← e]; exact hj)) (fun j hj => by rw [hj]; exact hr.low)
  exact ⟨rfl, Df, hl2.below hz, hd, below_next (hb.trans (hT.below (fun j hj => by rw [hj]; exact hg) hb.size)) hz⟩
/-- Behind the fork's last operation. -/
theorem play_fork {w wr wx wy : World} {B r Bf : Nat} {t tf tf' : Sp.Tree} {k kf kf' : Nat} {D Df Df' : Nat → Prop} {vT vN : Value} (hp : Pair w wr B r t k D vT vN) (_ : Live w wx Bf tf kf Df) (hd : ∀ j, Df j → wr.heap.size ≤ j) (hb : Below wr.heap.size wr wx) (_ : Live w wy Bf tf' kf' Df') (hT : Turn Df wx wy) : Pair w wy B r t k D vT vN :=
  hp.below (hb.trans (hT.below hd hb.size))
/-- The tree answered into the block n of its own; the names, too, in a block of their own. -/
def PlayAns (w wx : World) (B r : Nat) (t t' : Sp.Tree) (k : Nat) (vT vN : Value) (a : Sp.Ans) (s8 : Value) : Prop :=
  ∃ n ad cap m D K, s8 = .pointer (some ⟨n, 0, none⟩) ∧ Live w wx B t' (k + 1) D ∧ RefAt w.heap.size wx K r t vT vN ∧ (∀ j, D j → K j) ∧ K n ∧ (∀ j, (Value.slice ad a.names.length cap).ownBlock = some j → K j ∧ ¬ D j ∧ w.heap.size ≤ j ∧ j ≠ r ∧ j ≠ n) ∧ wx.heap[n]? = some (.cells #[.int .i64 a.code, .int .i64 a.kind, .int .i64 a.links, .int .i64 a.size, .string a.data, .slice ad a.names.length cap] 32 (0, 0)) ∧ OwnTexts m wx (.slice ad a.names.length cap) a.names ∧ r < m ∧ n ≠ r
theorem own_block {n : Nat} {w : World} {v : Value} {l : List ByteArray} (h : OwnTexts n w v l) {j : Nat} (hj : v.ownBlock = some j) : n ≤ j ∧ j < w.heap.size := by
  obtain ⟨e, h⟩ := h
  exact h.lt j hj
theorem play_ans {w wr w6 : World} {B r : Nat} {t t' : Sp.Tree} {k n m : Nat} {D D' : Nat → Prop} {vT vN : Value} {c c1 c2 c3 : Int} {cd : ByteArray} {cn : List ByteArray} {ad : Option Addr} {cap : Nat}
    (hp : Pair w wr B r t k D vT vN) (hz : wr.heap[n]? = some (.cells #[.int .i64 0, .int .i64 0, .int .i64 0, .int .i64 0, .string ⟨#[]⟩, .slice none 0 0] 32 (0, 0))) (hn : ¬ D n) (hnr : n ≠ r) (hnT : vT.ownBlock ≠ some n) (hnN : vN.ownBlock ≠ some n) (hn0 : w.heap.size ≤ n)
    (hx : OwnTexts m w6 (.slice ad cn.length cap) cn) (hm : wr.heap.size ≤ m) (hlt : ∀ j, D' j → j < m) (hl : Live w w6 B t' (k + 1) D') (hT : Turn D wr w6) (hd : ∀ j, D' j → D j ∨ wr.heap.size ≤ j) :
    PlayAns w ((((((w6.setCell ⟨n, 0, none⟩ (.int .i64 c)).setCell ⟨n, 1, none⟩ (.int .i64 c1)).setCell ⟨n, 2, none⟩ (.int .i64 c2)).setCell ⟨n, 3, none⟩ (.int .i64 c3)).setCell ⟨n, 4, none⟩ (.string cd)).setCell ⟨n, 5, none⟩ (.slice ad cn.length cap)) B r t t' k vT vN ⟨c, c1, c2, c3, cd, cn⟩ (.pointer (some ⟨n, 0, none⟩)) := by
  have hnl := (Array.getElem?_eq_some_iff.1 hz).1
  have hrl := (Array.getElem?_eq_some_iff.1 hp.2.obj).1
  have hz6 := hT.heap hz hn
  have hn6 := (Array.getElem?_eq_some_iff.1 hz6).1
  have hD'n : ¬ D' n := fun h => (hd n h).elim hn (fun e => by omega)
  obtain ⟨W, hW⟩ : ∃ W, ((((((w6.setCell ⟨n, 0, none⟩ (.int .i64 c)).setCell ⟨n, 1, none⟩ (.int .i64 c1)).setCell ⟨n, 2, none⟩ (.int .i64 c2)).setCell ⟨n, 3, none⟩ (.int .i64 c3)).setCell ⟨n, 4, none⟩ (.string cd)).setCell ⟨n, 5, none⟩ (.slice ad cn.length cap)) = W := ⟨_, rfl⟩
  have hTW : Turn (fun j => j = n) w6 W := by rw [← hW]; exact ((((((Turn.refl (fun j => j = n) w6).setCell rfl _ _).setCell rfl _ _).setCell rfl _ _).setCell rfl _ _).setCell rfl _ _).setCell rfl _ _
  have hat : W.heap[n]? = some (.cells #[.int .i64 c, .int .i64 c1, .int .i64 c2, .int .i64 c3, .string cd, .slice ad cn.length cap] 32 (0, 0)) := by rw [← hW]; exact six_at hz6 rfl _ _ _ _ _ _
  rw [hW]
  have hxW : OwnTexts m W (.slice ad cn.length cap) cn := own_turn hx hTW (fun j hj => by rw [hj]; omega)
  have hown := fun j (hj : (Value.slice ad cn.length cap).ownBlock = some j) => own_block hxW hj
  have hlW := hl.besideL hTW (fun j hj e => hD'n (by rw [← e]; exact hj)) (fun j hj => by rw [hj]; exact hn0)
  refine ⟨n, ad, cap, m, D', fun j => D' j ∨ j = n ∨ (Value.slice ad cn.length cap).ownBlock = some j, rfl, hlW, ?_, fun j hj => Or.inl hj, Or.inr (Or.inl rfl), fun j hj => ?_, hat, hxW, by omega, hnr⟩
  · have h2 : RefAt w.heap.size wr (fun j => D j ∨ j = n) r t vT vN :=
      ⟨hp.2.obj, hp.2.things, hp.2.names, hp.2.low, ⟨fun e => e.elim hp.2.apart.1 (fun e => hnr e.symm), fun g hg e => e.elim (hp.2.apart.2.1 g hg) (fun e => hnT (by rw [← e]; exact hg)), fun g hg e => e.elim (hp.2.apart.2.2 g hg) (fun e => hnN (by rw [← e]; exact hg))⟩, fun j e => e.elim (hp.2.lim j) (fun e => by rw [e]; exact hnl)⟩
    refine h2.turn (D' := fun j => D' j ∨ j = n ∨ (Value.slice ad cn.length cap).ownBlock = some j) (hT.trans hTW (fun _ _ e => Or.inl e) (fun _ _ e => Or.inr e)) (fun j hj => ?_) (fun j hj => ?_)
    · rcases hj with e | e | e
      · exact (hd j e).elim (fun e => Or.inl (Or.inl e)) Or.inr
      · exact Or.inl (Or.inr e)
      · exact Or.inr (Nat.le_trans hm (hown j e).1)
    · rcases hj with e | e | e
      · exact (hlW.from0 j e).2
      · rw [e]; exact (Array.getElem?_eq_some_iff.1 hat).1
      · exact (hown j e).2
  · have h1 := hown j hj
    exact ⟨Or.inr (Or.inr hj), fun e => by have := hlt j e; omega, by have := hl.low.size; have := hp.1.low.size; omega, by omega, by omega⟩
/-- Behind the reference's operation, and the spoiling of the names. -/
theorem play_spoil {w wx wy wz : World} {B r : Nat} {t' : Sp.Tree} {k : Nat} {D K : Nat → Prop} {v vT vN : Value} (hl : Live w wx B t' (k + 1) D) (hr : RefAt w.heap.size wx K r t' vT vN) (hDK : ∀ j, D j → K j) (hv : ∀ j, v.ownBlock = some j → K j ∧ ¬ D j ∧ w.heap.size ≤ j) (hb : Below wx.heap.size wx wy) (hT : Turn (fun j => v.ownBlock = some j) wy wz) : Pair w wz B r t' (k + 1) D vT vN :=
  have h1 := hl.below hb
  have h2 := hr.below hb
  have h3 := h1.besideL hT (fun j hj e => (hv j e).2.1 hj) (fun j hj => (hv j hj).2.2)
  ⟨h3, h2.turn (hT.mono (fun j _ e => (hv j e).1)) (fun j hj => Or.inl (hDK j hj)) (fun j hj => (h3.from0 j hj).2)⟩
theorem play_alloc {w w4 w6 : World} {B r : Nat} {t t' : Sp.Tree} {k m : Nat} {D D' : Nat → Prop} {vT vN : Value} {c c1 c2 c3 : Int} {cd : ByteArray} {cn : List ByteArray} {ad : Option Addr} {cap : Nat}
    (hp : Pair w w4 B r t k D vT vN) (hx : OwnTexts m w6 (.slice ad cn.length cap) cn) (hm : (w4.alloc (.cells #[.int .i64 0, .int .i64 0, .int .i64 0, .int .i64 0, .string ⟨#[]⟩, .slice none 0 0] 32)).heap.size ≤ m) (hlt : ∀ j, D' j → j < m) (hl : Live w w6 B t' (k + 1) D') (hT : Turn D (w4.alloc (.cells #[.int .i64 0, .int .i64 0, .int .i64 0, .int .i64 0, .string ⟨#[]⟩, .slice none 0 0] 32)) w6) (hd : ∀ j, D' j → D j ∨ (w4.alloc (.cells #[.int .i64 0, .int .i64 0, .int .i64 0, .int .i64 0, .string ⟨#[]⟩, .slice none 0 0] 32)).heap.size ≤ j) :
    PlayAns w ((((((w6.setCell ⟨w4.heap.size, 0, none⟩ (.int .i64 c)).setCell ⟨w4.heap.size, 1, none⟩ (.int .i64 c1)).setCell ⟨w4.heap.size, 2, none⟩ (.int .i64 c2)).setCell ⟨w4.heap.size, 3, none⟩ (.int .i64 c3)).setCell ⟨w4.heap.size, 4, none⟩ (.string cd)).setCell ⟨w4.heap.size, 5, none⟩ (.slice ad cn.length cap)) B r t t' k vT vN ⟨c, c1, c2, c3, cd, cn⟩ (.pointer (some ⟨w4.heap.size, 0, none⟩)) := by
  have hrl := (Array.getElem?_eq_some_iff.1 hp.2.obj).1
  refine play_ans (hp.below (below_al (Below.refl _ _) _)) (heap_alloc_new w4 _) (fun e => Nat.lt_irrefl _ (hp.1.from0 _ e).2) (by omega) (fun e => Nat.lt_irrefl _ (hp.2.things.lt _ e).2) (fun e => Nat.lt_irrefl _ (hp.2.names.lt _ e).2) hp.1.low.size hx hm hlt hl hT hd
theorem play_alloc_new {w w4 w6 : World} {B r : Nat} {t t' : Sp.Tree} {k m : Nat} {D D' : Nat → Prop} {vT vN : Value} {c c1 c2 c3 : Int} {cd : ByteArray} {cn : List ByteArray} {ad : Option Addr} {cap : Nat}
    (hp : Pair w w4 B r t k D vT vN) (hx : OwnTexts m w6 (.slice ad cn.length cap) cn) (hm : w4.heap.size ≤ m) (hlt : ∀ j, D' j → j < m) (hl : Live w w6 B t' (k + 1) D') (hT : Turn D w4 w6) (hd : ∀ j, D' j → D j ∨ w4.heap.size ≤ j) :
    PlayAns w (w6.alloc (.cells #[.int .i64 c, .int .i64 c1, .int .i64 c2, .int .i64 c3, .string cd, .slice ad cn.length cap] 32)) B r t t' k vT vN ⟨c, c1, c2, c3, cd, cn⟩ (.pointer (some ⟨w6.heap.size, 0, none⟩)) := by
  have hrl := (Array.getElem?_eq_some_iff.1 hp.2.obj).1
  have hrl2 := hT.size
  have hba : Below w6.heap.size w6 (w6.alloc (.cells #[.int .i64 c, .int .i64 c1, .int .i64 c2, .int .i64 c3, .string cd, .slice ad cn.length cap] 32)) := below_al (Below.refl _ _) _
  have hown := fun j (hj : (Value.slice ad cn.length cap).ownBlock = some j) => own_block hx hj
  have hsz : (w6.alloc (.cells #[.int .i64 c, .int .i64 c1, .int .i64 c2, .int .i64 c3, .string cd, .slice ad cn.length cap] 32)).heap.size = w6.heap.size + 1 := by simp
  refine ⟨_, ad, cap, m, D', fun j => D' j ∨ j = w6.heap.size ∨ (Value.slice ad cn.length cap).ownBlock = some j, rfl, hl.below hba, ?_, fun j hj => Or.inl hj, Or.inr (Or.inl rfl), fun j hj => ?_, heap_alloc_new w6 _, hx.below hba, by omega, by omega⟩
  · have h1 : RefAt w.heap.size w6 (fun j => D' j ∨ (Value.slice ad cn.length cap).ownBlock = some j) r t vT vN := hp.2.turn hT (fun j e => e.elim (hd j) (fun e => Or.inr (Nat.le_trans hm (hown j e).1))) (fun j e => e.elim (fun e => (hl.from0 j e).2) (fun e => (hown j e).2))
    refine h1.keep (fun _ _ _ ho => heap_below hba _ _ ho) (fun j e => ?_) (fun j e => ?_)
    · rcases e with e | e | e
      · exact Or.inl (Or.inl e)
      · exact Or.inr (by omega)
      · exact Or.inl (Or.inr e)
    · rcases e with e | e | e
      · have := (hl.from0 j e).2; omega
      · omega
      · have := (hown j e).2; omega
  · have h1 := hown j hj
    exact ⟨Or.inr (Or.inr hj), fun e => by have := hlt j e; omega, by have := hp.1.low.size; omega, by omega, by omega⟩
theorem turn_dr {K : Nat → Prop} {a b : World} (h : Turn K a b) : Turn K a b.drew := ⟨h.os, h.tape, h.output, h.size, h.block⟩
theorem turn_of_dr {K : Nat → Prop} {a b : World} (h : Turn K a.drew b) : Turn K a b := ⟨h.os, h.tape, h.output, h.size, h.block⟩
theorem turn_below {K : Nat → Prop} {a b c : World} (h : Turn K a b) (hb : Below b.heap.size b c) : Turn K a c :=
  ⟨hb.os.trans h.os, hb.tape.trans h.tape, hb.output.trans h.output, Nat.le_trans h.size hb.size, fun k hk hn => (hb.block k (Nat.lt_of_lt_of_le hk h.size)).trans (h.block k hk hn)⟩
theorem step_fst {t t' : Sp.Tree} {o : Sp.Op} {a : Sp.Ans} (h : t.step o = (t', a)) : (t.step o).1 = t' := by rw [h]
theorem few_next {l : List Sp.Op} {k : Nat} {o : Sp.Op} {t t' : Sp.Tree} {a : Sp.Ans} (hk : k ≤ 60) (ht : Sp.new.steps (l.take k) = t) (hs : t.step o = (t', a)) : Few t' := by
  have h := few_of (l := l.take k ++ [o]) (by rw [List.length_append, List.length_take]; simp; omega)
  rw [steps_snoc, ht, hs] at h
  exact h
end Go.Proofs.YtcgpmnlondnbhaaGreatDoor
