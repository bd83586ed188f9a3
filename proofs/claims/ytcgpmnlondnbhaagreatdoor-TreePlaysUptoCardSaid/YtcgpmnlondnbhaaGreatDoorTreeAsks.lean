/-
  The law TreeAsks' walk.
-/
import Derived.Test.YtcgpmnlondnbhaaGreatDoorRefDo
import Derived.Test.YtcgpmnlondnbhaaGreatDoorSpFew
import Derived.Test.YtcgpmnlondnbhaaGreatDoorSameAns
import Derived.Test.YtcgpmnlondnbhaaGreatDoorTreeAll
import Derived.Test.YtcgpmnlondnbhaaGreatDoorTreeForks
import Derived.Test.YtcgpmnlondnbhaaGreatDoorOpens
import Derived.Deep.RegionHeld3
import Derived.Deep.DeepCutAuto
import Derived.Deep.CutBlock
namespace Go.Proofs.YtcgpmnlondnbhaaGreatDoor
open Go Go.RowKit Txt Sp

theorem few_of {l : List Sp.Op} (h : l.length ≤ 1000) : Few (Sp.new.steps l) :=
  let ⟨a, b, c⟩ := steps_few l
  ⟨by omega, by omega, by omega⟩
theorem sameAns_yes (w : World) {a : Sp.Ans} {v u : Value} (h1 : AnsV w v a) (h2 : AnsV w u a) : Calls Tryz.prog 11 #[v, u] w fun e w' => e = .returned (.bool true) ∧ Below w.heap.size w w' :=
  (sameAns_any w h1 h2).mono fun _ _ ⟨r, h3, h4, h5⟩ => ⟨by rw [h3, h4.2 rfl], h5⟩
theorem Live.besideL {w0 w w' : World} {B : Nat} {t : Sp.Tree} {k : Nat} {D K : Nat → Prop} (h : Live w0 w B t k D) (hT : Turn K w w') (hK : ∀ j, D j → ¬ K j) (hK0 : ∀ j, K j → w0.heap.size ≤ j) : Live w0 w' B t k D :=
  let ⟨φ, μ, hR, hD⟩ := h.rep
  ⟨h.ok, h.few, h.low.trans (hT.below hK0 h.low.size), ⟨φ, μ, hR.dom_same h.ok (fun j hj _ ho => hT.heap ho (hK j (hD j hj))), hD⟩, fun j hj => ⟨(h.from0 j hj).1, Nat.lt_of_lt_of_le (h.from0 j hj).2 hT.size⟩, h.max0⟩
/-- The tree and the reference's, side by side. -/
def Pair (w0 w : World) (B r : Nat) (t : Sp.Tree) (k : Nat) (D : Nat → Prop) (vT vN : Value) : Prop := Live w0 w B t k D ∧ RefAt w0.heap.size w D r t vT vN
theorem Pair.below {w0 w w' : World} {B r : Nat} {t : Sp.Tree} {k : Nat} {D : Nat → Prop} {vT vN : Value} (h : Pair w0 w B r t k D vT vN) (hb : Below w.heap.size w w') : Pair w0 w' B r t k D vT vN := ⟨h.1.below hb, h.2.below hb⟩
/-- One operation, by the reference, behind that by the tree. -/
theorem Pair.ref {w0 w w' : World} {B r : Nat} {t t' : Sp.Tree} {k : Nat} {D : Nat → Prop} {vT vN : Value} (h1 : Live w0 w B t' k D) (h2 : RefAt w0.heap.size w D r t vT vN) (hto : RefTo w0.heap.size w D r t' w') : ∃ vT' vN', Pair w0 w' B r t' k D vT' vN' := by
  obtain ⟨vT', vN', hR, hT⟩ := hto
  exact ⟨vT', vN', h1.besideL hT (fun j hj e => h2.apart.1 (by rw [← e]; exact hj)) (fun j hj => by rw [hj]; exact h2.low), hR⟩
/-- An operation of the arguments. -/
theorem ops_cells {w : World} {b off k : Nat} {o : Sp.Op} (h : ∀ i x, (opA o)[i]? = some x → w.cell? ⟨b, off + (k * 6 + i), none⟩ = some x) (hbl : b < w.heap.size) {W : World} (hW : Below w.heap.size w W) :
    W.cell? ⟨b, off + k * 6, none⟩ = some (.int .i64 o.kind) ∧ W.cell? ⟨b, off + k * 6 + 1, none⟩ = some (.string o.path) ∧ W.cell? ⟨b, off + k * 6 + 2, none⟩ = some (.string o.to) ∧ W.cell? ⟨b, off + k * 6 + 3, none⟩ = some (.int .i64 o.off) ∧ W.cell? ⟨b, off + k * 6 + 4, none⟩ = some (.int .i64 o.len) ∧ W.cell? ⟨b, off + k * 6 + 5, none⟩ = some (.string o.data) := by
  have g := fun i x (hx : (opA o)[i]? = some x) => ((show W.cell? ⟨b, off + k * 6 + i, none⟩ = w.cell? ⟨b, off + k * 6 + i, none⟩ from hW.cell (p := ⟨b, off + k * 6 + i, none⟩) hbl).trans (by rw [Nat.add_assoc]; exact h i x hx) : W.cell? ⟨b, off + k * 6 + i, none⟩ = some x)
  exact ⟨g 0 _ rfl, g 1 _ rfl, g 2 _ rfl, g 3 _ rfl, g 4 _ rfl, g 5 _ rfl⟩

def AsksRel (w : World) (l : List Sp.Op) (n B r : Nat) (i : Value) (wr : World) : Prop := ∃ (k : Nat) (D : Nat → Prop) (vT vN : Value), k ≤ n ∧ k ≤ 40 ∧ i = .int .i64 (k : Int) ∧ Hid (Pair w wr B r (Sp.new.steps (l.take k)) k D vT vN)
def AskRel2 (w : World) (t : Sp.Tree) (n B r : Nat) (i : Value) (wr : World) : Prop := ∃ (k : Nat) (D : Nat → Prop) (vT vN : Value), k ≤ n ∧ k ≤ 20 ∧ i = .int .i64 (k : Int) ∧ Hid (Pair w wr B r t 40 D vT vN)

/-- Behind the fork's answer, which lies in a block of its own. -/
def AskCut (w : World) (B r : Nat) (t : Sp.Tree) (D : Nat → Prop) (vT vN : Value) (a : Sp.Ans) (s9 : Value) (wx : World) : Prop :=
  ∃ n9 ad cap, s9 = .pointer (some ⟨n9, 0, none⟩) ∧ Pair w wx B r t 40 D vT vN ∧ wx.heap[n9]? = some (.cells #[.int .i64 a.code, .int .i64 a.kind, .int .i64 a.links, .int .i64 a.size, .string a.data, .slice ad a.names.length cap] 32 (0, 0)) ∧ Texts wx (.slice ad a.names.length cap) a.names
theorem not_first {w : World} {z : Obj} {Df : Nat → Prop} (df : ∀ j, Df j → (w.alloc z).drew.heap.size ≤ j) : ¬ Df w.heap.size := fun h => by
  have h9 := df _ h
  have h8 : (w.alloc z).heap.size = w.heap.size + 1 := by simp
  have h7 : (w.alloc z).drew.heap.size = w.heap.size + 1 := h8
  omega
theorem six_at {w : World} {n : Nat} {cs : Array Value} (h : w.heap[n]? = some (.cells cs 32 (0, 0))) (h6 : cs.size = 6) (a b c d e f : Value) :
    ((((((w.setCell ⟨n, 0, none⟩ a).setCell ⟨n, 1, none⟩ b).setCell ⟨n, 2, none⟩ c).setCell ⟨n, 3, none⟩ d).setCell ⟨n, 4, none⟩ e).setCell ⟨n, 5, none⟩ f).heap[n]? = some (.cells #[a, b, c, d, e, f] 32 (0, 0)) := by
  obtain ⟨l⟩ := cs
  match l, h6 with
  | [_, _, _, _, _, _], _ =>
    rw [heap_setCell_at (heap_setCell_at (heap_setCell_at (heap_setCell_at (heap_setCell_at (heap_setCell_at h _) _) _) _) _) _]
    rfl
theorem first_zero {w w5 : World} {z : Obj} (bf : Below (w.alloc z).drew.heap.size (w.alloc z).drew w5) : w5.heap[w.heap.size]? = some z := heap_below bf _ _ (heap_alloc_new w z)
theorem second_zero {w5 w6 : World} {z : Obj} {Df : Nat → Prop} (t6 : Turn Df (w5.alloc z) w6) (h : ¬ Df w5.heap.size) : w6.heap[w5.heap.size]? = some z := t6.heap (heap_alloc_new w5 z) h
theorem second_size {w5 w6 : World} {z : Obj} {Df : Nat → Prop} (_ : Turn Df (w5.alloc z) w6) : w5.heap.size < (w5.alloc z).heap.size := by simp
theorem ask_six {w wr w6 : World} {B r : Nat} {t : Sp.Tree} {D : Nat → Prop} {vT vN : Value} {c c1 c2 c3 : Int} {cd : ByteArray} {cn : List ByteArray} {ad : Option Addr} {cap n9 m : Nat} (hp : Pair w wr B r t 40 D vT vN) (hb : Below wr.heap.size wr w6) (hn : wr.heap.size ≤ n9) (hz : w6.heap[n9]? = some (.cells #[.int .i64 0, .int .i64 0, .int .i64 0, .int .i64 0, .string ⟨#[]⟩, .slice none 0 0] 32 (0, 0))) (hx : OwnTexts m w6 (.slice ad cn.length cap) cn) (hm : n9 < m) :
    AskCut w B r t D vT vN ⟨c, c1, c2, c3, cd, cn⟩ (.pointer (some ⟨n9, 0, none⟩)) ((((((w6.setCell ⟨n9, 0, none⟩ (.int .i64 c)).setCell ⟨n9, 1, none⟩ (.int .i64 c1)).setCell ⟨n9, 2, none⟩ (.int .i64 c2)).setCell ⟨n9, 3, none⟩ (.int .i64 c3)).setCell ⟨n9, 4, none⟩ (.string cd)).setCell ⟨n9, 5, none⟩ (.slice ad cn.length cap)) :=
  ⟨n9, ad, cap, rfl, hp.below (below_six hb hn _ _ _ _ _ _), six_at hz rfl _ _ _ _ _ _, (hx.same (fun k hk o ho => by rw [six_same w6 (by omega)]; exact ho)).texts⟩
theorem ask_new {w wr w6 : World} {B r : Nat} {t : Sp.Tree} {D : Nat → Prop} {vT vN : Value} {c c1 c2 c3 : Int} {cd : ByteArray} {cn : List ByteArray} {ad : Option Addr} {cap m : Nat} (hp : Pair w wr B r t 40 D vT vN) (hb : Below wr.heap.size wr w6) (hx : OwnTexts m w6 (.slice ad cn.length cap) cn) :
    AskCut w B r t D vT vN ⟨c, c1, c2, c3, cd, cn⟩ (.pointer (some ⟨w6.heap.size, 0, none⟩)) (w6.alloc (.cells #[.int .i64 c, .int .i64 c1, .int .i64 c2, .int .i64 c3, .string cd, .slice ad cn.length cap] 32)) :=
  ⟨_, ad, cap, rfl, hp.below (below_al hb _), heap_alloc_new w6 _, hx.texts.below (below_al (Below.refl _ _) _)⟩
theorem do_known2 {w0 w : World} {B : Nat} {t t' : Sp.Tree} {k : Nat} {D : Nat → Prop} {o : Sp.Op} {c c1 c2 c3 : Int} {d : ByteArray} {names : List ByteArray} (hs : t.step o = (t', ⟨c, c1, c2, c3, d, names⟩)) (h : Live w0 w B t k D) (ho : OpOk o) (hk : k ≤ 100000) :
    Calls Tryz.prog 12 #[ptr B, opV o] w fun e w' => ∃ ad cap, e = .returned (.agg #[.int .i64 c, .int .i64 c1, .int .i64 c2, .int .i64 c3, .string d, .slice ad names.length cap]) ∧ OwnTexts w.heap.size w' (.slice ad names.length cap) names ∧ Turn D w w' := by
  refine (do_live h o ho hk).mono ?_
  rintro e w' ⟨v, D', m, rfl, hv, hl, hT, hd, hm, _⟩
  rw [hs] at hv
  obtain ⟨nv, rfl, h2⟩ := hv
  obtain ⟨ad, cap, rfl⟩ := own_shape h2
  exact ⟨ad, cap, rfl, h2.mono hm, hT⟩
theorem rdo_known {base : Nat} {w : World} {D : Nat → Prop} {r : Nat} {t t' : Sp.Tree} {o : Sp.Op} {args : Array Value} {f : FuncId} {c c1 c2 c3 : Int} {d : ByteArray} {names : List ByteArray} (hs : t.step o = (t', ⟨c, c1, c2, c3, d, names⟩)) (h : Calls Tryz.prog f args w (RefDo base w D r (t.step o))) :
    Calls Tryz.prog f args w fun e w' => ∃ ad cap, e = .returned (.agg #[.int .i64 c, .int .i64 c1, .int .i64 c2, .int .i64 c3, .string d, .slice ad names.length cap]) ∧ OwnTexts w.heap.size w' (.slice ad names.length cap) names ∧ RefTo base w D r t' w' := by
  rw [hs] at h
  refine h.mono ?_
  rintro e w' ⟨v, rfl, ⟨nv, rfl, h2⟩, h3⟩
  obtain ⟨ad, cap, rfl⟩ := own_shape h2
  exact ⟨ad, cap, rfl, h2, h3⟩
section
set_option maxHeartbeats 8000000
set_option maxRecDepth 20000 in
theorem treeAsks_walk (w : World) {v u : Value} {l ks : List Sp.Op} (hl : Ops w v l) (hks : Ops w u ks) (hok : ∀ o ∈ l, OpOk o) (hok2 : ∀ o ∈ ks, OpOk o) (hm : MaxOk w) :
    Calls Tryz.prog 4 #[v, u] w fun e w' => e = .returned (.bool true) ∧ Below w.heap.size w w' := by
  have q1 := eql_tree_nil
  have HM := Lib.hid hm
  obtain ⟨ad, cap, rfl, hn1, hn2, hc⟩ := hl
  obtain ⟨ad2, cap2, rfl, hp1, hp2, hc2⟩ := hks
  obtain ⟨n, hn⟩ : ∃ n, l.length = n := ⟨_, rfl⟩
  obtain ⟨np, hnp⟩ : ∃ n, ks.length = n := ⟨_, rfl⟩
  have HN := Lib.hid hn
  have HNp := Lib.hid hnp
  have HC := Lib.hid hc
  have HC2 := Lib.hid hc2
  have HO := Lib.hid hok
  have HO2 := Lib.hid hok2
  rw [hn] at hn1 ⊢
  rw [hnp] at hp1 ⊢
  have hn3 : n ≤ 9223372036854775807 := Nat.le_trans (Nat.le_trans hn1 hn2) (by decide)
  have hp3 : np ≤ 9223372036854775807 := Nat.le_trans (Nat.le_trans hp1 hp2) (by decide)
  clear hm hc hc2 hok hok2 hn hnp hn1 hn2 hp1 hp2
  go_enter Tryz.func4, Tryz.ntmps4
  go_wp2_with fail
  refine (new_live (Below.refl _ w) HM.out).mono ?_
  rintro e w1 ⟨B, D1, rfl, l1, -, -⟩
  have L1 := Lib.hid l1
  clear l1
  unfold ptr
  go_wp2_with fail
  refine (rnew_any (base := w.heap.size) w1 (D := D1) L1.out.low.size (fun j hj => (L1.out.from0 j hj).2)).mono ?_
  rintro e w2 ⟨r, vT, vN, rfl, hr, hb2, -⟩
  have HP2 : Hid (Pair w w2 B r Sp.new 0 D1 vT vN) := ⟨L1.out.below hb2, hr⟩
  clear hr hb2 L1
  unfold ptr
  go_wp2_with fail
  refine (treeWorks_any (w0 := w) _ HP2.out.1.low HM.out).mono ?_
  rintro e w3 ⟨rfl, hb3⟩
  have HP3 := Lib.hid (HP2.out.below hb3)
  clear hb3 HP2
  go_wp2
  go_loopw [7] (fun i wr => AsksRel w l n B r i wr) (fun i _ => 40 - (intOf i).toNat)
  case atStart => exact ⟨0, D1, vT, vN, by omega, by omega, rfl, HP3⟩
  case round =>
    obtain ⟨k, D, vT, vN, hkn, hk40, rfl, HP⟩ := hrel
    clear HP3
    by_cases h1 : k < n
    · by_cases h2 : k < 40
      · obtain ⟨b, off, rfl, hbl, hcell⟩ := HC.out (by have := HN.out; omega)
        obtain ⟨o, ho⟩ : ∃ o, l[k]? = some o := ⟨l[k]'(by have := HN.out; omega), List.getElem?_eq_getElem _⟩
        have HOo := Lib.hid (HO.out _ (List.mem_of_getElem? ho))
        have HTk := Lib.hid (take_snoc l k _ ho)
        have hcl := fun (W : World) (hW : Below w.heap.size w W) => ops_cells (hcell k o ho) hbl hW
        obtain ⟨ok, op, ot, oo, ol, od⟩ := o
        simp only at hcl
        have HCl := Lib.hid hcl
        obtain ⟨g0, g1, g2, g3, g4, g5⟩ := HCl.out wr HP.out.1.low
        have HFew : Hid (Few (Sp.new.steps (l.take k))) := few_of (by rw [List.length_take]; omega)
        clear hcl hcell ho
        go_wp2_with fail
        refine (do_live HP.out.1 ⟨ok, op, ot, oo, ol, od⟩ HOo.out (by omega)).mono ?_
        rintro e w4 ⟨v4, D', m, rfl, -, l4, t4, d4, -, -⟩
        have HL4 := Lib.hid l4
        have HR4 := Lib.hid (HP.out.2.turn t4 d4 (fun j hj => (l4.from0 j hj).2))
        have HOk4 := Lib.hid HP.out.1.ok
        clear l4 t4 d4 g0 g1 g2 g3 g4 g5
        obtain ⟨g0, g1, g2, g3, g4, g5⟩ := HCl.out w4 HL4.out.low
        go_wp2_with fail
        refine (rdo_any HR4.out HOk4.out HFew.out ⟨ok, op, ot, oo, ol, od⟩ HOo.out).mono ?_
        rintro e w5 ⟨v5, rfl, -, hto⟩
        obtain ⟨vT', vN', hpair⟩ := Pair.ref HL4.out HR4.out hto
        have HP5 : Hid (Pair w w5 B r (Sp.new.steps (l.take (k + 1))) (k + 1) D' vT' vN') := by
          show Pair _ _ _ _ _ _ _ _ _
          rw [HTk.out, steps_snoc]
          exact hpair
        clear hto hpair HL4 HR4
        go_wp2
        go_roundw
        case rel => exact ⟨k + 1, D', vT', vN', by omega, by omega, by go_num, HP5⟩
        case measure => simp [intOf]; omega
      · have HFew : Hid (Few (Sp.new.steps (l.take k))) := few_of (by rw [List.length_take]; omega)
        obtain ⟨t, ht⟩ : ∃ t, Sp.new.steps (l.take k) = t := ⟨_, rfl⟩
        have hpt := HP.out
        rw [ht] at hpt HFew
        have HPt : Hid (Pair w wr B r t 40 D vT vN) := ⟨hpt.1.lift (Below.refl _ w) HM.out hk40, hpt.2⟩
        have HOk := Lib.hid hpt.1.ok
        clear ht hpt HP
        go_wp2
        go_loopw [8] (fun i wr2 => AskRel2 w t np B r i wr2) (fun i _ => 20 - (intOf i).toNat)
        case atStart => exact ⟨0, D, vT, vN, by omega, by omega, rfl, HPt⟩
        case round =>
          obtain ⟨k2, D2, vT2, vN2, hk2n, hk20, rfl, HP⟩ := hrel
          clear HPt
          by_cases h3 : k2 < np
          · by_cases h4 : k2 < 20
            · obtain ⟨b, off, rfl, hbl, hcell⟩ := HC2.out (by have := HNp.out; omega)
              obtain ⟨o, ho⟩ : ∃ o, ks[k2]? = some o := ⟨ks[k2]'(by have := HNp.out; omega), List.getElem?_eq_getElem _⟩
              have HOo := Lib.hid (HO2.out _ (List.mem_of_getElem? ho))
              have hcl := fun (W : World) (hW : Below w.heap.size w W) => ops_cells (hcell k2 o ho) hbl hW
              obtain ⟨ok, op, ot, oo, ol, od⟩ := o
              simp only at hcl
              have HCl := Lib.hid hcl
              obtain ⟨t', c, c1, c2, c3, cd, cn, hst⟩ : ∃ t' c c1 c2 ck cd cn, t.step ⟨ok, op, ot, oo, ol, od⟩ = (t', ⟨c, c1, c2, ck, cd, cn⟩) := ⟨_, _, _, _, _, _, _, rfl⟩
              have HSt := Lib.hid hst
              have HLow := Lib.hid HP.out.1.low
              have hdw : Below wr.heap.size wr wr.drew := below_dr (Below.refl _ _)
              have hb2 : (k2 : Int) < (np : Int) := by omega
              have hb3 : (0 : Int) ≤ (k2 : Int) := by omega
              clear hcl hcell ho hst hdw
              go_upto_region 13 with fail
              go_cut [9] (fun s9 wx => AskCut w B r t D2 vT2 vN2 ⟨c, c1, c2, c3, cd, cn⟩ s9 wx)
              case first =>
                go_region_held3 (fun W => W.cell? ⟨b, off + k2 * 6, none⟩ = some (.int .i64 ok) ∧ W.cell? ⟨b, off + k2 * 6 + 1, none⟩ = some (.string op) ∧ W.cell? ⟨b, off + k2 * 6 + 2, none⟩ = some (.string ot) ∧ W.cell? ⟨b, off + k2 * 6 + 3, none⟩ = some (.int .i64 oo) ∧ W.cell? ⟨b, off + k2 * 6 + 4, none⟩ = some (.int .i64 ol) ∧ W.cell? ⟨b, off + k2 * 6 + 5, none⟩ = some (.string od))
                  ((refine HCl.out _ (below_next HLow.out ?_); repeat' first | with_reducible exact Below.refl _ _ | with_reducible exact HB6.out | with_reducible exact HB5.out | with_reducible refine below_al ?_ _ | with_reducible refine below_dr ?_ | with_reducible refine below_six ?_ ?_ _ _ _ _ _ _ | with_reducible exact Nat.le_refl _ | with_reducible exact HB5.out.size))
                  (first
                    | (go_at_call 9
                       refine (fork_live (HP.out.1.below (by repeat' first | with_reducible exact Below.refl _ _ | with_reducible refine below_al ?_ _ | with_reducible refine below_dr ?_)) (by decide)).mono ?_
                       rintro e w5 ⟨Bf, Df, rfl, lf, bf, df⟩
                       have HLf := Lib.hid lf
                       have HB5 : Hid (Below wr.heap.size wr w5) := below_next (by repeat' first | with_reducible exact Below.refl _ _ | with_reducible refine below_al ?_ _ | with_reducible refine below_dr ?_) bf
                       have HDw : Hid (∀ j, Df j → wr.heap.size ≤ j) := fun j hj => Nat.le_trans ((by repeat' first | with_reducible exact Below.refl _ _ | with_reducible refine below_al ?_ _ | with_reducible refine below_dr ?_) : Below wr.heap.size wr _).size (df j hj)
                       try (with_reducible have hz5 := first_zero bf; have HZ5 := Lib.hid hz5; with_reducible have HDn := Lib.hid (not_first df); clear hz5)
                       have HDn5 : Hid (¬ Df w5.heap.size) := fun h => Nat.lt_irrefl _ (lf.from0 _ h).2
                       clear lf bf df
                       simp only [ptr])
                    | (go_at_call 12
                       refine (do_known2 HSt.out (HLf.out.below (by repeat' first | with_reducible exact Below.refl _ _ | with_reducible refine below_al ?_ _ | with_reducible refine below_dr ?_)) HOo.out (by decide)).mono ?_
                       rintro e w6 ⟨ad6, cap6, rfl, x6, t6⟩
                       have HB6 : Hid (Below wr.heap.size wr w6) := Below.trans (below_next HB5.out (by repeat' first | with_reducible exact Below.refl _ _ | with_reducible refine below_al ?_ _ | with_reducible refine below_dr ?_)) (t6.below HDw.out (below_next HB5.out (by repeat' first | with_reducible exact Below.refl _ _ | with_reducible refine below_al ?_ _ | with_reducible refine below_dr ?_)).size)
                       have HX6 := Lib.hid x6
                       try (with_reducible have hzA := t6.heap HZ5.out HDn.out; have HZA := Lib.hid hzA; have HMA := Lib.hid (Array.getElem?_eq_some_iff.1 HZ5.out).1; obtain ⟨z0, z1⟩ := ans_cells hzA; clear hzA)
                       try (with_reducible have hzB := second_zero t6 HDn5.out; have HZB := Lib.hid hzB; with_reducible have HMB := Lib.hid (second_size t6); obtain ⟨z0, z1⟩ := ans_cells hzB; clear hzB)
                       clear x6 t6
                       simp only))
                all_goals
                  go_wp2_with fail
                  go_meet
                  case rel =>
                    first
                      | with_reducible exact ask_new HP.out HB6.out HX6.out
                      | with_reducible exact ask_six HP.out HB6.out (Nat.le_refl _) HZA.out HX6.out HMA.out
                      | with_reducible exact ask_six HP.out HB6.out HB5.out.size HZB.out HX6.out HMB.out
              case rest =>
              obtain ⟨n9, ad9, cap9, rfl, hpc, hn9, htx9⟩ := hcut
              have HPc := Lib.hid hpc
              have HTx9 := Lib.hid htx9
              have hn9l := (Array.getElem?_eq_some_iff.1 hn9).1
              have HSa : Hid (∀ W, Below wc.heap.size wc W → (W.cell? ⟨n9, 0, none⟩ = some (.int .i64 c) ∧ W.cell? ⟨n9, 1, none⟩ = some (.int .i64 c1) ∧ W.cell? ⟨n9, 2, none⟩ = some (.int .i64 c2) ∧ W.cell? ⟨n9, 3, none⟩ = some (.int .i64 c3) ∧ W.cell? ⟨n9, 4, none⟩ = some (.string cd) ∧ W.cell? ⟨n9, 5, none⟩ = some (.slice ad9 cn.length cap9)) ∧ W.cell? ⟨b, off + k2 * 6, none⟩ = some (.int .i64 ok) ∧ W.cell? ⟨b, off + k2 * 6 + 1, none⟩ = some (.string op) ∧ W.cell? ⟨b, off + k2 * 6 + 2, none⟩ = some (.string ot) ∧ W.cell? ⟨b, off + k2 * 6 + 3, none⟩ = some (.int .i64 oo) ∧ W.cell? ⟨b, off + k2 * 6 + 4, none⟩ = some (.int .i64 ol) ∧ W.cell? ⟨b, off + k2 * 6 + 5, none⟩ = some (.string od)) := fun W hW =>
                ⟨⟨cell_of_heap (heap_below hW _ _ hn9) rfl, cell_of_heap (heap_below hW _ _ hn9) rfl, cell_of_heap (heap_below hW _ _ hn9) rfl, cell_of_heap (heap_below hW _ _ hn9) rfl, cell_of_heap (heap_below hW _ _ hn9) rfl, cell_of_heap (heap_below hW _ _ hn9) rfl⟩, HCl.out W (below_next HPc.out.1.low hW)⟩
              clear hpc htx9 hn9 HP
              go_upto_region 14 with fail
              go_region_held3 (fun W => (W.cell? ⟨n9, 0, none⟩ = some (.int .i64 c) ∧ W.cell? ⟨n9, 1, none⟩ = some (.int .i64 c1) ∧ W.cell? ⟨n9, 2, none⟩ = some (.int .i64 c2) ∧ W.cell? ⟨n9, 3, none⟩ = some (.int .i64 c3) ∧ W.cell? ⟨n9, 4, none⟩ = some (.string cd) ∧ W.cell? ⟨n9, 5, none⟩ = some (.slice ad9 cn.length cap9)) ∧ W.cell? ⟨b, off + k2 * 6, none⟩ = some (.int .i64 ok) ∧ W.cell? ⟨b, off + k2 * 6 + 1, none⟩ = some (.string op) ∧ W.cell? ⟨b, off + k2 * 6 + 2, none⟩ = some (.string ot) ∧ W.cell? ⟨b, off + k2 * 6 + 3, none⟩ = some (.int .i64 oo) ∧ W.cell? ⟨b, off + k2 * 6 + 4, none⟩ = some (.int .i64 ol) ∧ W.cell? ⟨b, off + k2 * 6 + 5, none⟩ = some (.string od))
                ((refine HSa.out _ ?_; repeat' first | with_reducible exact Below.refl _ _ | with_reducible exact HB9.out | with_reducible exact HB8.out | with_reducible exact HB7.out | with_reducible refine below_al ?_ _ | with_reducible refine below_dr ?_))
                (first
                  | (go_at_call 10
                     refine (rfork_any (HPc.out.2.below (below_dr (Below.refl _ _)))).mono ?_
                     rintro e w7 ⟨g, vT7, vN7, rfl, hr7, hb7, hg7⟩
                     have HR7 := Lib.hid hr7
                     have HB7 : Hid (Below wc.heap.size wc w7) := below_next (below_dr (Below.refl _ _)) hb7
                     have HG7 : Hid (wc.heap.size ≤ g) := hg7
                     clear hr7 hb7 hg7
                     simp only [ptr])
                  | (go_at_call 13
                     refine (rdo_known HSt.out (rdo_any HR7.out HOk.out HFew.out ⟨ok, op, ot, oo, ol, od⟩ HOo.out)).mono ?_
                     rintro e w8 ⟨ad8, cap8, rfl, x8, vT8, vN8, hr8, ht8⟩
                     have HB8 : Hid (Below wc.heap.size wc w8) := HB7.out.trans (ht8.below (fun k hk => by rw [hk]; exact HG7.out) HB7.out.size)
                     have HX8 := Lib.hid x8
                     clear x8 hr8 ht8
                     simp only)
                  | (go_at_call 11
                     refine (sameAns_yes _ (a := ⟨c, c1, c2, c3, cd, cn⟩) ⟨_, rfl, HTx9.out.below HB8.out⟩ ⟨_, rfl, HX8.out.texts⟩).mono ?_
                     rintro e w9 ⟨rfl, hb9⟩
                     have HB9 : Hid (Below wc.heap.size wc w9) := below_next HB8.out hb9
                     clear hb9
                     simp only))
              all_goals
                have HP9 := Lib.hid (HPc.out.below HB9.out)
                go_wp2
                go_roundw
                case rel => exact ⟨k2 + 1, D2, vT2, vN2, by omega, by omega, by go_num, HP9⟩
                case measure => simp [intOf]; omega
            · have HTk2 := HP.out
              go_wp2_with fail
              refine (paths_live HP.out.1 (by decide)).mono ?_
              rintro e w6 ⟨v6, rfl, ho6, hb6⟩
              have HP6 := Lib.hid (HP.out.below hb6)
              have HO6 := Lib.hid ho6
              clear ho6 hb6 HTk2
              go_wp2_with fail
              refine (rpaths_any HP6.out.2 HOk.out HFew.out).mono ?_
              rintro e w7 ⟨v7, rfl, ho7, hb7⟩
              have HP7 := Lib.hid (HP6.out.below hb7)
              have HO7 := Lib.hid ho7
              have HT6 := Lib.hid (HO6.out.texts.below hb7)
              clear ho7 hb7
              go_wp2_with fail
              refine (sameTexts_yes _ _ _ _ HT6.out HO7.out.texts).mono ?_
              rintro e w8 ⟨rfl, hb8⟩
              have HB8 := Lib.hid (below_next HP7.out.1.low hb8)
              clear hb8
              go_wp2
              go_ret
              exact ⟨rfl, HB8.out⟩
          · have HTk2 := HP.out
            go_wp2_with fail
            refine (paths_live HP.out.1 (by decide)).mono ?_
            rintro e w6 ⟨v6, rfl, ho6, hb6⟩
            have HP6 := Lib.hid (HP.out.below hb6)
            have HO6 := Lib.hid ho6
            clear ho6 hb6 HTk2
            go_wp2_with fail
            refine (rpaths_any HP6.out.2 HOk.out HFew.out).mono ?_
            rintro e w7 ⟨v7, rfl, ho7, hb7⟩
            have HP7 := Lib.hid (HP6.out.below hb7)
            have HO7 := Lib.hid ho7
            have HT6 := Lib.hid (HO6.out.texts.below hb7)
            clear ho7 hb7
            go_wp2_with fail
            refine (sameTexts_yes _ _ _ _ HT6.out HO7.out.texts).mono ?_
            rintro e w8 ⟨rfl, hb8⟩
            have HB8 := Lib.hid (below_next HP7.out.1.low hb8)
            clear hb8
            go_wp2
            go_ret
            exact ⟨rfl, HB8.out⟩
    · have HFew : Hid (Few (Sp.new.steps (l.take k))) := few_of (by rw [List.length_take]; omega)
      obtain ⟨t, ht⟩ : ∃ t, Sp.new.steps (l.take k) = t := ⟨_, rfl⟩
      have hpt := HP.out
      rw [ht] at hpt HFew
      have HPt : Hid (Pair w wr B r t 40 D vT vN) := ⟨hpt.1.lift (Below.refl _ w) HM.out hk40, hpt.2⟩
      have HOk := Lib.hid hpt.1.ok
      clear ht hpt HP
      go_wp2
      go_loopw [8] (fun i wr2 => AskRel2 w t np B r i wr2) (fun i _ => 20 - (intOf i).toNat)
      case atStart => exact ⟨0, D, vT, vN, by omega, by omega, rfl, HPt⟩
      case round =>
        obtain ⟨k2, D2, vT2, vN2, hk2n, hk20, rfl, HP⟩ := hrel
        clear HPt
        by_cases h3 : k2 < np
        · by_cases h4 : k2 < 20
          · obtain ⟨b, off, rfl, hbl, hcell⟩ := HC2.out (by have := HNp.out; omega)
            obtain ⟨o, ho⟩ : ∃ o, ks[k2]? = some o := ⟨ks[k2]'(by have := HNp.out; omega), List.getElem?_eq_getElem _⟩
            have HOo := Lib.hid (HO2.out _ (List.mem_of_getElem? ho))
            have hcl := fun (W : World) (hW : Below w.heap.size w W) => ops_cells (hcell k2 o ho) hbl hW
            obtain ⟨ok, op, ot, oo, ol, od⟩ := o
            simp only at hcl
            have HCl := Lib.hid hcl
            obtain ⟨t', c, c1, c2, c3, cd, cn, hst⟩ : ∃ t' c c1 c2 ck cd cn, t.step ⟨ok, op, ot, oo, ol, od⟩ = (t', ⟨c, c1, c2, ck, cd, cn⟩) := ⟨_, _, _, _, _, _, _, rfl⟩
            have HSt := Lib.hid hst
            have HLow := Lib.hid HP.out.1.low
            have hdw : Below wr.heap.size wr wr.drew := below_dr (Below.refl _ _)
            have hb2 : (k2 : Int) < (np : Int) := by omega
            have hb3 : (0 : Int) ≤ (k2 : Int) := by omega
            clear hcl hcell ho hst hdw
            go_upto_region 13 with fail
            go_cut [9] (fun s9 wx => AskCut w B r t D2 vT2 vN2 ⟨c, c1, c2, c3, cd, cn⟩ s9 wx)
            case first =>
              go_region_held3 (fun W => W.cell? ⟨b, off + k2 * 6, none⟩ = some (.int .i64 ok) ∧ W.cell? ⟨b, off + k2 * 6 + 1, none⟩ = some (.string op) ∧ W.cell? ⟨b, off + k2 * 6 + 2, none⟩ = some (.string ot) ∧ W.cell? ⟨b, off + k2 * 6 + 3, none⟩ = some (.int .i64 oo) ∧ W.cell? ⟨b, off + k2 * 6 + 4, none⟩ = some (.int .i64 ol) ∧ W.cell? ⟨b, off + k2 * 6 + 5, none⟩ = some (.string od))
                ((refine HCl.out _ (below_next HLow.out ?_); repeat' first | with_reducible exact Below.refl _ _ | with_reducible exact HB6.out | with_reducible exact HB5.out | with_reducible refine below_al ?_ _ | with_reducible refine below_dr ?_ | with_reducible refine below_six ?_ ?_ _ _ _ _ _ _ | with_reducible exact Nat.le_refl _ | with_reducible exact HB5.out.size))
                (first
                  | (go_at_call 9
                     refine (fork_live (HP.out.1.below (by repeat' first | with_reducible exact Below.refl _ _ | with_reducible refine below_al ?_ _ | with_reducible refine below_dr ?_)) (by decide)).mono ?_
                     rintro e w5 ⟨Bf, Df, rfl, lf, bf, df⟩
                     have HLf := Lib.hid lf
                     have HB5 : Hid (Below wr.heap.size wr w5) := below_next (by repeat' first | with_reducible exact Below.refl _ _ | with_reducible refine below_al ?_ _ | with_reducible refine below_dr ?_) bf
                     have HDw : Hid (∀ j, Df j → wr.heap.size ≤ j) := fun j hj => Nat.le_trans ((by repeat' first | with_reducible exact Below.refl _ _ | with_reducible refine below_al ?_ _ | with_reducible refine below_dr ?_) : Below wr.heap.size wr _).size (df j hj)
                     try (with_reducible have hz5 := first_zero bf; have HZ5 := Lib.hid hz5; with_reducible have HDn := Lib.hid (not_first df); clear hz5)
                     have HDn5 : Hid (¬ Df w5.heap.size) := fun h => Nat.lt_irrefl _ (lf.from0 _ h).2
                     clear lf bf df
                     simp only [ptr])
                  | (go_at_call 12
                     refine (do_known2 HSt.out (HLf.out.below (by repeat' first | with_reducible exact Below.refl _ _ | with_reducible refine below_al ?_ _ | with_reducible refine below_dr ?_)) HOo.out (by decide)).mono ?_
                     rintro e w6 ⟨ad6, cap6, rfl, x6, t6⟩
                     have HB6 : Hid (Below wr.heap.size wr w6) := Below.trans (below_next HB5.out (by repeat' first | with_reducible exact Below.refl _ _ | with_reducible refine below_al ?_ _ | with_reducible refine below_dr ?_)) (t6.below HDw.out (below_next HB5.out (by repeat' first | with_reducible exact Below.refl _ _ | with_reducible refine below_al ?_ _ | with_reducible refine below_dr ?_)).size)
                     have HX6 := Lib.hid x6
                     try (with_reducible have hzA := t6.heap HZ5.out HDn.out; have HZA := Lib.hid hzA; have HMA := Lib.hid (Array.getElem?_eq_some_iff.1 HZ5.out).1; obtain ⟨z0, z1⟩ := ans_cells hzA; clear hzA)
                     try (with_reducible have hzB := second_zero t6 HDn5.out; have HZB := Lib.hid hzB; with_reducible have HMB := Lib.hid (second_size t6); obtain ⟨z0, z1⟩ := ans_cells hzB; clear hzB)
                     clear x6 t6
                     simp only))
              all_goals
                go_wp2_with fail
                go_meet
                case rel =>
                  first
                    | with_reducible exact ask_new HP.out HB6.out HX6.out
                    | with_reducible exact ask_six HP.out HB6.out (Nat.le_refl _) HZA.out HX6.out HMA.out
                    | with_reducible exact ask_six HP.out HB6.out HB5.out.size HZB.out HX6.out HMB.out
            case rest =>
            obtain ⟨n9, ad9, cap9, rfl, hpc, hn9, htx9⟩ := hcut
            have HPc := Lib.hid hpc
            have HTx9 := Lib.hid htx9
            have hn9l := (Array.getElem?_eq_some_iff.1 hn9).1
            have HSa : Hid (∀ W, Below wc.heap.size wc W → (W.cell? ⟨n9, 0, none⟩ = some (.int .i64 c) ∧ W.cell? ⟨n9, 1, none⟩ = some (.int .i64 c1) ∧ W.cell? ⟨n9, 2, none⟩ = some (.int .i64 c2) ∧ W.cell? ⟨n9, 3, none⟩ = some (.int .i64 c3) ∧ W.cell? ⟨n9, 4, none⟩ = some (.string cd) ∧ W.cell? ⟨n9, 5, none⟩ = some (.slice ad9 cn.length cap9)) ∧ W.cell? ⟨b, off + k2 * 6, none⟩ = some (.int .i64 ok) ∧ W.cell? ⟨b, off + k2 * 6 + 1, none⟩ = some (.string op) ∧ W.cell? ⟨b, off + k2 * 6 + 2, none⟩ = some (.string ot) ∧ W.cell? ⟨b, off + k2 * 6 + 3, none⟩ = some (.int .i64 oo) ∧ W.cell? ⟨b, off + k2 * 6 + 4, none⟩ = some (.int .i64 ol) ∧ W.cell? ⟨b, off + k2 * 6 + 5, none⟩ = some (.string od)) := fun W hW =>
              ⟨⟨cell_of_heap (heap_below hW _ _ hn9) rfl, cell_of_heap (heap_below hW _ _ hn9) rfl, cell_of_heap (heap_below hW _ _ hn9) rfl, cell_of_heap (heap_below hW _ _ hn9) rfl, cell_of_heap (heap_below hW _ _ hn9) rfl, cell_of_heap (heap_below hW _ _ hn9) rfl⟩, HCl.out W (below_next HPc.out.1.low hW)⟩
            clear hpc htx9 hn9 HP
            go_upto_region 14 with fail
            go_region_held3 (fun W => (W.cell? ⟨n9, 0, none⟩ = some (.int .i64 c) ∧ W.cell? ⟨n9, 1, none⟩ = some (.int .i64 c1) ∧ W.cell? ⟨n9, 2, none⟩ = some (.int .i64 c2) ∧ W.cell? ⟨n9, 3, none⟩ = some (.int .i64 c3) ∧ W.cell? ⟨n9, 4, none⟩ = some (.string cd) ∧ W.cell? ⟨n9, 5, none⟩ = some (.slice ad9 cn.length cap9)) ∧ W.cell? ⟨b, off + k2 * 6, none⟩ = some (.int .i64 ok) ∧ W.cell? ⟨b, off + k2 * 6 + 1, none⟩ = some (.string op) ∧ W.cell? ⟨b, off + k2 * 6 + 2, none⟩ = some (.string ot) ∧ W.cell? ⟨b, off + k2 * 6 + 3, none⟩ = some (.int .i64 oo) ∧ W.cell? ⟨b, off + k2 * 6 + 4, none⟩ = some (.int .i64 ol) ∧ W.cell? ⟨b, off + k2 * 6 + 5, none⟩ = some (.string od))
              ((refine HSa.out _ ?_; repeat' first | with_reducible exact Below.refl _ _ | with_reducible exact HB9.out | with_reducible exact HB8.out | with_reducible exact HB7.out | with_reducible refine below_al ?_ _ | with_reducible refine below_dr ?_))
              (first
                | (go_at_call 10
                   refine (rfork_any (HPc.out.2.below (below_dr (Below.refl _ _)))).mono ?_
                   rintro e w7 ⟨g, vT7, vN7, rfl, hr7, hb7, hg7⟩
                   have HR7 := Lib.hid hr7
                   have HB7 : Hid (Below wc.heap.size wc w7) := below_next (below_dr (Below.refl _ _)) hb7
                   have HG7 : Hid (wc.heap.size ≤ g) := hg7
                   clear hr7 hb7 hg7
                   simp only [ptr])
                | (go_at_call 13
                   refine (rdo_known HSt.out (rdo_any HR7.out HOk.out HFew.out ⟨ok, op, ot, oo, ol, od⟩ HOo.out)).mono ?_
                   rintro e w8 ⟨ad8, cap8, rfl, x8, vT8, vN8, hr8, ht8⟩
                   have HB8 : Hid (Below wc.heap.size wc w8) := HB7.out.trans (ht8.below (fun k hk => by rw [hk]; exact HG7.out) HB7.out.size)
                   have HX8 := Lib.hid x8
                   clear x8 hr8 ht8
                   simp only)
                | (go_at_call 11
                   refine (sameAns_yes _ (a := ⟨c, c1, c2, c3, cd, cn⟩) ⟨_, rfl, HTx9.out.below HB8.out⟩ ⟨_, rfl, HX8.out.texts⟩).mono ?_
                   rintro e w9 ⟨rfl, hb9⟩
                   have HB9 : Hid (Below wc.heap.size wc w9) := below_next HB8.out hb9
                   clear hb9
                   simp only))
            all_goals
              have HP9 := Lib.hid (HPc.out.below HB9.out)
              go_wp2
              go_roundw
              case rel => exact ⟨k2 + 1, D2, vT2, vN2, by omega, by omega, by go_num, HP9⟩
              case measure => simp [intOf]; omega
          · have HTk2 := HP.out
            go_wp2_with fail
            refine (paths_live HP.out.1 (by decide)).mono ?_
            rintro e w6 ⟨v6, rfl, ho6, hb6⟩
            have HP6 := Lib.hid (HP.out.below hb6)
            have HO6 := Lib.hid ho6
            clear ho6 hb6 HTk2
            go_wp2_with fail
            refine (rpaths_any HP6.out.2 HOk.out HFew.out).mono ?_
            rintro e w7 ⟨v7, rfl, ho7, hb7⟩
            have HP7 := Lib.hid (HP6.out.below hb7)
            have HO7 := Lib.hid ho7
            have HT6 := Lib.hid (HO6.out.texts.below hb7)
            clear ho7 hb7
            go_wp2_with fail
            refine (sameTexts_yes _ _ _ _ HT6.out HO7.out.texts).mono ?_
            rintro e w8 ⟨rfl, hb8⟩
            have HB8 := Lib.hid (below_next HP7.out.1.low hb8)
            clear hb8
            go_wp2
            go_ret
            exact ⟨rfl, HB8.out⟩
        · have HTk2 := HP.out
          go_wp2_with fail
          refine (paths_live HP.out.1 (by decide)).mono ?_
          rintro e w6 ⟨v6, rfl, ho6, hb6⟩
          have HP6 := Lib.hid (HP.out.below hb6)
          have HO6 := Lib.hid ho6
          clear ho6 hb6 HTk2
          go_wp2_with fail
          refine (rpaths_any HP6.out.2 HOk.out HFew.out).mono ?_
          rintro e w7 ⟨v7, rfl, ho7, hb7⟩
          have HP7 := Lib.hid (HP6.out.below hb7)
          have HO7 := Lib.hid ho7
          have HT6 := Lib.hid (HO6.out.texts.below hb7)
          clear ho7 hb7
          go_wp2_with fail
          refine (sameTexts_yes _ _ _ _ HT6.out HO7.out.texts).mono ?_
          rintro e w8 ⟨rfl, hb8⟩
          have HB8 := Lib.hid (below_next HP7.out.1.low hb8)
          clear hb8
          go_wp2
          go_ret
          exact ⟨rfl, HB8.out⟩
end
end Go.Proofs.YtcgpmnlondnbhaaGreatDoor
