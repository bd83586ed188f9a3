/-
  TreePlays: what the rounds of its walk need.
-/
import Derived.Test.YtcgpmnlondnbhaaGreatDoorTreeAsks
import Derived.Test.YtcgpmnlondnbhaaGreatDoorSpoil
namespace Go.Proofs.YtcgpmnlondnbhaaGreatDoor
open Go Go.RowKit Txt Sp

theorem do_known3 {w0 w : World} {B : Nat} {t t' : Sp.Tree} {k : Nat} {D : Nat → Prop} {o : Sp.Op} {c c1 c2 c3 : Int} {d : ByteArray} {names : List ByteArray} (hs : t.step o = (t', ⟨c, c1, c2, c3, d, names⟩)) (h : Live w0 w B t k D) (ho : OpOk o) (hk : k ≤ 100000) :
    Calls Tryz.prog 12 #[ptr B, opV o] w fun e w' => ∃ ad cap m D', e = .returned (.agg #[.int .i64 c, .int .i64 c1, .int .i64 c2, .int .i64 c3, .string d, .slice ad names.length cap]) ∧ OwnTexts m w' (.slice ad names.length cap) names ∧ w.heap.size ≤ m ∧ (∀ j, D' j → j < m) ∧ Live w0 w' B t' (k + 1) D' ∧ Turn D w w' ∧ ∀ j, D' j → D j ∨ w.heap.size ≤ j := by
  refine (do_live h o ho hk).mono ?_
  rintro e w' ⟨v, D', m, rfl, hv, hl, hT, hd, hm, hlt⟩
  rw [hs] at hv hl
  obtain ⟨nv, rfl, h2⟩ := hv
  obtain ⟨ad, cap, rfl⟩ := own_shape h2
  exact ⟨ad, cap, m, D', rfl, h2, hm, hlt, hl, hT, hd⟩
/-- The fork f of the tree and g of the reference, side by side; both above the round's world. -/
def Forks (w wr wx : World) (Bf g : Nat) (t : Sp.Tree) (k : Nat) (Df : Nat → Prop) (vT vN : Value) : Prop :=
  Pair w wx Bf g t k Df vT vN ∧ (∀ j, Df j → wr.heap.size ≤ j) ∧ wr.heap.size ≤ g ∧ Below wr.heap.size wr wx
theorem Forks.below {w wr wx wy : World} {Bf g : Nat} {t : Sp.Tree} {k : Nat} {Df : Nat → Prop} {vT vN : Value} (h : Forks w wr wx Bf g t k Df vT vN) (hb : Below wx.heap.size wx wy) : Forks w wr wy Bf g t k Df vT vN :=
  ⟨h.1.below hb, h.2.1, h.2.2.1, below_next h.2.2.2 hb⟩
def PlayCut (w wr : World) (Bf : Nat) (t : Sp.Tree) (k : Nat) (c : Value) (wx : World) : Prop :=
  c = .bool false ∧ ∃ Df, Live w wx Bf t (k + 1) Df ∧ (∀ j, Df j → wr.heap.size ≤ j) ∧ Below wr.heap.size wr wx
/-- The reference apart from the fork's blocks. -/
theorem RefAt.away {base : Nat} {w w' : World} {D D' : Nat → Prop} {r : Nat} {t : Sp.Tree} {vT vN : Value} (h : RefAt base w D r t vT vN) (hb : Below w.heap.size w w') (hd : ∀ j, D' j → w.heap.size ≤ j ∧ j < w'.heap.size) : RefAt base w' D' r t vT vN :=
  h.keep (fun _ _ _ ho => heap_below hb _ _ ho) (fun j hj => Or.inr (hd j hj).1) (fun j hj => (hd j hj).2)
/-- The answer's names keep behind a turn below them. -/
theorem own_turn {m : Nat} {w w' : World} {K : Nat → Prop} {v : Value} {l : List ByteArray} (h : OwnTexts m w v l) (hT : Turn K w w') (hK : ∀ j, K j → j < m) : OwnTexts m w' v l :=
  h.same (fun k hk o ho => hT.heap ho (fun e => by have := hK k e; omega))
/-- The tree's operation on the fork. -/
theorem Forks.tree {w wr wx wy : World} {Bf g : Nat} {t t' : Sp.Tree} {k : Nat} {Df Df' : Nat → Prop} {vT vN : Value} (h : Forks w wr wx Bf g t k Df vT vN) (hl : Live w wy Bf t' (k + 1) Df') (hT : Turn Df wx wy) (hd : ∀ j, Df' j → Df j ∨ wx.heap.size ≤ j) :
    Live w wy Bf t' (k + 1) Df' ∧ RefAt w.heap.size wy Df' g t vT vN ∧ (∀ j, Df' j → wr.heap.size ≤ j) ∧ wr.heap.size ≤ g ∧ Below wr.heap.size wr wy :=
  ⟨hl, h.1.2.turn hT hd (fun j hj => (hl.from0 j hj).2), fun j hj => (hd j hj).elim (h.2.1 j) (fun e => Nat.le_trans h.2.2.2.size e), h.2.2.1, h.2.2.2.trans (hT.below h.2.1 h.2.2.2.size)⟩
theorem forks_new {w wr w1 w2 : World} {B r Bf g : Nat} {t : Sp.Tree} {k : Nat} {D Df : Nat → Prop} {vT vN vT2 vN2 : Value} (_ : Pair w wr B r t k D vT vN) (hf : Live w w1 Bf t k Df) (b1 : Below wr.heap.size wr w1) (df : ∀ j, Df j → wr.heap.size ≤ j) (hg : RefAt w.heap.size w2 Df g t vT2 vN2) (b2 : Below w1.heap.size w1 w2) (hgl : w1.heap.size ≤ g) : Forks w wr w2 Bf g t k Df vT2 vN2 :=
  ⟨⟨hf.below b2, hg⟩, df, Nat.le_trans b1.size hgl, below_next b1 b2⟩
/-- Behind both operations on the forks. -/
theorem play_cut {w wr wx wy wz : World} {Bf g : Nat} {t t' : Sp.Tree} {k : Nat} {Df : Nat → Prop} {vT vN : Value} (h : Live w wx Bf t' (k + 1) Df ∧ RefAt w.heap.size wx Df g t vT vN ∧ (∀ j, Df j → wr.heap.size ≤ j) ∧ wr.heap.size ≤ g ∧ Below wr.heap.size wr wx) (hto : RefTo w.heap.size wx Df g t' wy) (hz : Below wy.heap.size wy wz) : PlayCut w wr Bf t' k (.bool false) wz := by
  obtain ⟨hl, hr, hd, hg, hb⟩ := h
  obtain ⟨vT', vN', hR, hT⟩ := hto
  have hl2 := hl.besideL hT (fun j hj e => hr.apart.1 (by rw [← e]; exact hj)) (fun j hj => by rw [hj]; exact hr.low)
  exact ⟨rfl, Df, hl2.below hz, hd, below_next (hb.trans (hT.below (fun j hj => by rw [hj]; exact hg) hb.size)) hz⟩
/-- Behind the fork's last operation. -/
theorem play_fork {w wr wx wy : World} {B r Bf : Nat} {t tf tf' : Sp.Tree} {k kf kf' : Nat} {D Df Df' : Nat → Prop} {vT vN : Value} (hp : Pair w wr B r t k D vT vN) (_ : Live w wx Bf tf kf Df) (hd : ∀ j, Df j → wr.heap.size ≤ j) (hb : Below wr.heap.size wr wx) (_ : Live w wy Bf tf' kf' Df') (hT : Turn Df wx wy) : Pair w wy B r t k D vT vN :=
  hp.below (hb.trans (hT.below hd hb.size))
/-- The tree answered into the block n of its own; the names, too, in a block of their own. -/
def PlayAns (w wx : World) (B r : Nat) (t t' : Sp.Tree) (k : Nat) (vT vN : Value) (a : Sp.Ans) (s8 : Value) : Prop :=
  ∃ n ad cap m D K, s8 = .pointer (some ⟨n, 0, none⟩) ∧ Live w wx B t' (k + 1) D ∧ RefAt w.heap.size wx K r t vT vN ∧ (∀ j, D j → K j) ∧ K n ∧ (∀ j, (Value.slice ad a.names.length cap).ownBlock = some j → K j ∧ ¬ D j ∧ w.heap.size ≤ j ∧ j ≠ r ∧ j ≠ n) ∧ wx.heap[n]? = some (.cells #[.int .i64 a.code, .int .i64 a.kind, .int .i64 a.links, .int .i64 a.size, .string a.data, .slice ad a.names.length cap] 32 (0, 0)) ∧ OwnTexts m wx (.slice ad a.names.length cap) a.names ∧ r < m ∧ n ≠ r
theorem own_block {n : Nat} {w : World} {v : Value} {l : List ByteArray} (h : OwnTexts n w v l) {j : Nat} (hj : v.ownBlock = some j) : n ≤ j ∧ j < w.heap.size := by
  obtain ⟨e, h⟩ := h
  exact h.lt j hj
theorem play_ans {w wr w6 : World} {B r : Nat} {t t' : Sp.Tree} {k n m : Nat} {D D' : Nat → Prop} {vT vN : Value} {c c1 c2 c3 : Int} {cd : ByteArray} {cn : List ByteArray} {ad : Option Addr} {cap : Nat}
    (hp : Pair w wr B r t k D vT vN) (hz : wr.heap[n]? = some (.cells #[.int .i64 0, .int .i64 0, .int .i64 0, .int .i64 0, .string ⟨#[]⟩, .slice none 0 0] 32 (0, 0))) (hn : ¬ D n) (hnr : n ≠ r) (hnT : vT.ownBlock ≠ some n) (hnN : vN.ownBlock ≠ some n) (hn0 : w.heap.size ≤ n)
    (hx : OwnTexts m w6 (.slice ad cn.length cap) cn) (hm : wr.heap.size ≤ m) (hlt : ∀ j, D' j → j < m) (hl : Live w w6 B t' (k + 1) D') (hT : Turn D wr w6) (hd : ∀ j, D' j → D j ∨ wr.heap.size ≤ j) :
    PlayAns w ((((((w6.setCell ⟨n, 0, none⟩ (.int .i64 c)).setCell ⟨n, 1, none⟩ (.int .i64 c1)).setCell ⟨n, 2, none⟩ (.int .i64 c2)).setCell ⟨n, 3, none⟩ (.int .i64 c3)).setCell ⟨n, 4, none⟩ (.string cd)).setCell ⟨n, 5, none⟩ (.slice ad cn.length cap)) B r t t' k vT vN ⟨c, c1, c2, c3, cd, cn⟩ (.pointer (some ⟨n, 0, none⟩)) := by
  have hnl := (Array.getElem?_eq_some_iff.1 hz).1
  have hrl := (Array.getElem?_eq_some_iff.1 hp.2.obj).1
  have hz6 := hT.heap hz hn
  have hn6 := (Array.getElem?_eq_some_iff.1 hz6).1
  have hD'n : ¬ D' n := fun h => (hd n h).elim hn (fun e => by omega)
  obtain ⟨W, hW⟩ : ∃ W, ((((((w6.setCell ⟨n, 0, none⟩ (.int .i64 c)).setCell ⟨n, 1, none⟩ (.int .i64 c1)).setCell ⟨n, 2, none⟩ (.int .i64 c2)).setCell ⟨n, 3, none⟩ (.int .i64 c3)).setCell ⟨n, 4, none⟩ (.string cd)).setCell ⟨n, 5, none⟩ (.slice ad cn.length cap)) = W := ⟨_, rfl⟩
  have hTW : Turn (fun j => j = n) w6 W := by rw [← hW]; exact ((((((Turn.refl (fun j => j = n) w6).setCell rfl _ _).setCell rfl _ _).setCell rfl _ _).setCell rfl _ _).setCell rfl _ _).setCell rfl _ _
  have hat : W.heap[n]? = some (.cells #[.int .i64 c, .int .i64 c1, .int .i64 c2, .int .i64 c3, .string cd, .slice ad cn.length cap] 32 (0, 0)) := by rw [← hW]; exact six_at hz6 rfl _ _ _ _ _ _
  rw [hW]
  have hxW : OwnTexts m W (.slice ad cn.length cap) cn := own_turn hx hTW (fun j hj => by rw [hj]; omega)
  have hown := fun j (hj : (Value.slice ad cn.length cap).ownBlock = some j) => own_block hxW hj
  have hlW := hl.besideL hTW (fun j hj e => hD'n (by rw [← e]; exact hj)) (fun j hj => by rw [hj]; exact hn0)
  refine ⟨n, ad, cap, m, D', fun j => D' j ∨ j = n ∨ (Value.slice ad cn.length cap).ownBlock = some j, rfl, hlW, ?_, fun j hj => Or.inl hj, Or.inr (Or.inl rfl), fun j hj => ?_, hat, hxW, by omega, hnr⟩
  · have h2 : RefAt w.heap.size wr (fun j => D j ∨ j = n) r t vT vN :=
      ⟨hp.2.obj, hp.2.things, hp.2.names, hp.2.low, ⟨fun e => e.elim hp.2.apart.1 (fun e => hnr e.symm), fun g hg e => e.elim (hp.2.apart.2.1 g hg) (fun e => hnT (by rw [← e]; exact hg)), fun g hg e => e.elim (hp.2.apart.2.2 g hg) (fun e => hnN (by rw [← e]; exact hg))⟩, fun j e => e.elim (hp.2.lim j) (fun e => by rw [e]; exact hnl)⟩
    refine h2.turn (D' := fun j => D' j ∨ j = n ∨ (Value.slice ad cn.length cap).ownBlock = some j) (hT.trans hTW (fun _ _ e => Or.inl e) (fun _ _ e => Or.inr e)) (fun j hj => ?_) (fun j hj => ?_)
    · rcases hj with e | e | e
      · exact (hd j e).elim (fun e => Or.inl (Or.inl e)) Or.inr
      · exact Or.inl (Or.inr e)
      · exact Or.inr (Nat.le_trans hm (hown j e).1)
    · rcases hj with e | e | e
      · exact (hlW.from0 j e).2
      · rw [e]; exact (Array.getElem?_eq_some_iff.1 hat).1
      · exact (hown j e).2
  · have h1 := hown j hj
    exact ⟨Or.inr (Or.inr hj), fun e => by have := hlt j e; omega, by have := hl.low.size; have := hp.1.low.size; omega, by omega, by omega⟩
/-- Behind the reference's operation, and the spoiling of the names. -/
theorem play_spoil {w wx wy wz : World} {B r : Nat} {t' : Sp.Tree} {k : Nat} {D K : Nat → Prop} {v vT vN : Value} (hl : Live w wx B t' (k + 1) D) (hr : RefAt w.heap.size wx K r t' vT vN) (hDK : ∀ j, D j → K j) (hv : ∀ j, v.ownBlock = some j → K j ∧ ¬ D j ∧ w.heap.size ≤ j) (hb : Below wx.heap.size wx wy) (hT : Turn (fun j => v.ownBlock = some j) wy wz) : Pair w wz B r t' (k + 1) D vT vN :=
  have h1 := hl.below hb
  have h2 := hr.below hb
  have h3 := h1.besideL hT (fun j hj e => (hv j e).2.1 hj) (fun j hj => (hv j hj).2.2)
  ⟨h3, h2.turn (hT.mono (fun j _ e => (hv j e).1)) (fun j hj => Or.inl (hDK j hj)) (fun j hj => (h3.from0 j hj).2)⟩
theorem play_alloc {w w4 w6 : World} {B r : Nat} {t t' : Sp.Tree} {k m : Nat} {D D' : Nat → Prop} {vT vN : Value} {c c1 c2 c3 : Int} {cd : ByteArray} {cn : List ByteArray} {ad : Option Addr} {cap : Nat}
    (hp : Pair w w4 B r t k D vT vN) (hx : OwnTexts m w6 (.slice ad cn.length cap) cn) (hm : (w4.alloc (.cells #[.int .i64 0, .int .i64 0, .int .i64 0, .int .i64 0, .string ⟨#[]⟩, .slice none 0 0] 32)).heap.size ≤ m) (hlt : ∀ j, D' j → j < m) (hl : Live w w6 B t' (k + 1) D') (hT : Turn D (w4.alloc (.cells #[.int .i64 0, .int .i64 0, .int .i64 0, .int .i64 0, .string ⟨#[]⟩, .slice none 0 0] 32)) w6) (hd : ∀ j, D' j → D j ∨ (w4.alloc (.cells #[.int .i64 0, .int .i64 0, .int .i64 0, .int .i64 0, .string ⟨#[]⟩, .slice none 0 0] 32)).heap.size ≤ j) :
    PlayAns w ((((((w6.setCell ⟨w4.heap.size, 0, none⟩ (.int .i64 c)).setCell ⟨w4.heap.size, 1, none⟩ (.int .i64 c1)).setCell ⟨w4.heap.size, 2, none⟩ (.int .i64 c2)).setCell ⟨w4.heap.size, 3, none⟩ (.int .i64 c3)).setCell ⟨w4.heap.size, 4, none⟩ (.string cd)).setCell ⟨w4.heap.size, 5, none⟩ (.slice ad cn.length cap)) B r t t' k vT vN ⟨c, c1, c2, c3, cd, cn⟩ (.pointer (some ⟨w4.heap.size, 0, none⟩)) := by
  have hrl := (Array.getElem?_eq_some_iff.1 hp.2.obj).1
  refine play_ans (hp.below (below_al (Below.refl _ _) _)) (heap_alloc_new w4 _) (fun e => Nat.lt_irrefl _ (hp.1.from0 _ e).2) (by omega) (fun e => Nat.lt_irrefl _ (hp.2.things.lt _ e).2) (fun e => Nat.lt_irrefl _ (hp.2.names.lt _ e).2) hp.1.low.size hx hm hlt hl hT hd
theorem play_alloc_new {w w4 w6 : World} {B r : Nat} {t t' : Sp.Tree} {k m : Nat} {D D' : Nat → Prop} {vT vN : Value} {c c1 c2 c3 : Int} {cd : ByteArray} {cn : List ByteArray} {ad : Option Addr} {cap : Nat}
    (hp : Pair w w4 B r t k D vT vN) (hx : OwnTexts m w6 (.slice ad cn.length cap) cn) (hm : w4.heap.size ≤ m) (hlt : ∀ j, D' j → j < m) (hl : Live w w6 B t' (k + 1) D') (hT : Turn D w4 w6) (hd : ∀ j, D' j → D j ∨ w4.heap.size ≤ j) :
    PlayAns w (w6.alloc (.cells #[.int .i64 c, .int .i64 c1, .int .i64 c2, .int .i64 c3, .string cd, .slice ad cn.length cap] 32)) B r t t' k vT vN ⟨c, c1, c2, c3, cd, cn⟩ (.pointer (some ⟨w6.heap.size, 0, none⟩)) := by
  have hrl := (Array.getElem?_eq_some_iff.1 hp.2.obj).1
  have hrl2 := hT.size
  have hba : Below w6.heap.size w6 (w6.alloc (.cells #[.int .i64 c, .int .i64 c1, .int .i64 c2, .int .i64 c3, .string cd, .slice ad cn.length cap] 32)) := below_al (Below.refl _ _) _
  have hown := fun j (hj : (Value.slice ad cn.length cap).ownBlock = some j) => own_block hx hj
  have hsz : (w6.alloc (.cells #[.int .i64 c, .int .i64 c1, .int .i64 c2, .int .i64 c3, .string cd, .slice ad cn.length cap] 32)).heap.size = w6.heap.size + 1 := by simp
  refine ⟨_, ad, cap, m, D', fun j => D' j ∨ j = w6.heap.size ∨ (Value.slice ad cn.length cap).ownBlock = some j, rfl, hl.below hba, ?_, fun j hj => Or.inl hj, Or.inr (Or.inl rfl), fun j hj => ?_, heap_alloc_new w6 _, hx.below hba, by omega, by omega⟩
  · have h1 : RefAt w.heap.size w6 (fun j => D' j ∨ (Value.slice ad cn.length cap).ownBlock = some j) r t vT vN := hp.2.turn hT (fun j e => e.elim (hd j) (fun e => Or.inr (Nat.le_trans hm (hown j e).1))) (fun j e => e.elim (fun e => (hl.from0 j e).2) (fun e => (hown j e).2))
    refine h1.keep (fun _ _ _ ho => heap_below hba _ _ ho) (fun j e => ?_) (fun j e => ?_)
    · rcases e with e | e | e
      · exact Or.inl (Or.inl e)
      · exact Or.inr (by omega)
      · exact Or.inl (Or.inr e)
    · rcases e with e | e | e
      · have := (hl.from0 j e).2; omega
      · omega
      · have := (hown j e).2; omega
  · have h1 := hown j hj
    exact ⟨Or.inr (Or.inr hj), fun e => by have := hlt j e; omega, by have := hp.1.low.size; omega, by omega, by omega⟩
theorem turn_dr {K : Nat → Prop} {a b : World} (h : Turn K a b) : Turn K a b.drew := ⟨h.os, h.tape, h.output, h.size, h.block⟩
theorem turn_of_dr {K : Nat → Prop} {a b : World} (h : Turn K a.drew b) : Turn K a b := ⟨h.os, h.tape, h.output, h.size, h.block⟩
theorem turn_below {K : Nat → Prop} {a b c : World} (h : Turn K a b) (hb : Below b.heap.size b c) : Turn K a c :=
  ⟨hb.os.trans h.os, hb.tape.trans h.tape, hb.output.trans h.output, Nat.le_trans h.size hb.size, fun k hk hn => (hb.block k (Nat.lt_of_lt_of_le hk h.size)).trans (h.block k hk hn)⟩
theorem step_fst {t t' : Sp.Tree} {o : Sp.Op} {a : Sp.Ans} (h : t.step o = (t', a)) : (t.step o).1 = t' := by rw [h]
theorem few_next {l : List Sp.Op} {k : Nat} {o : Sp.Op} {t t' : Sp.Tree} {a : Sp.Ans} (hk : k ≤ 60) (ht : Sp.new.steps (l.take k) = t) (hs : t.step o = (t', a)) : Few t' := by
  have h := few_of (l := l.take k ++ [o]) (by rw [List.length_append, List.length_take]; simp; omega)
  rw [steps_snoc, ht, hs] at h
  exact h
end Go.Proofs.YtcgpmnlondnbhaaGreatDoor
