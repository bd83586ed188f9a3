/-
  Walks of layer 11: a disk's Size, Read, Lay, New.
-/
import Derived.Test.YtghafpdmcbockaaGreatDoorSideRep
import Derived.Test.YtghafpdmcbockaaGreatDoorMapsB
import Derived.Test.YtghafpdmcbockaaGreatDoorSuperA
namespace Go.Proofs.YtghafpdmcbockaaGreatDoor
open Go Go.RowKit Txt Sp

theorem textC_map (l : List ByteArray) : l.flatMap textC = l.map Value.string := by
  induction l with
  | nil => rfl
  | cons x r ih => rw [List.flatMap_cons, ih]; rfl
theorem own_texts {base : Nat} {w : World} {v : Value} {l : List ByteArray} (h : OwnR 9 1 textC base w v l) : OwnTexts base w v l := by
  unfold OwnR at h
  rw [textC_map] at h
  exact ⟨_, h⟩
/-- A disk, opened: its row's length and cells. -/
theorem DiskAt.open {w : World} {base B : Nat} {d : Sp.Disk} {D : Nat → Prop} (h : DiskAt w base B d D) : ∃ (ad : Option Addr) (n cap : Nat), w.cell? ⟨B, 0, none⟩ = some (.slice ad n cap) ∧ Hid (n = d.l.length) ∧ n ≤ 9223372036854775807 ∧
    Hid (∀ j, j < n → ∃ b off x, ad = some ⟨b, off, none⟩ ∧ b < w.heap.size ∧ d.l[j]? = some x ∧ w.cell? ⟨b, off + j, none⟩ = some (.string x)) := by
  obtain ⟨⟨v, wm, h1, h2, _⟩, _, _⟩ := h
  obtain ⟨ad, n, cap, rfl, a1, a2, a3⟩ := texts_facts (own_texts h2).texts
  exact ⟨ad, n, cap, cellOf (k := 0) h1 rfl, a1, a2, a3⟩
theorem diskSize_any {w : World} {base B : Nat} {d : Sp.Disk} {D : Nat → Prop} (h : DiskAt w base B d D) :
    Calls Tryz.prog 68 #[pt B] w fun e w' => e = .returned (.int .i64 (d.l.length : Int)) ∧ w' = w := by
  obtain ⟨ad, n, cap, c0, HN, hn, -⟩ := h.open
  have hn2 := HN.out
  rw [← hn2]
  clear hn2
  unfold pt
  go_enter Tryz.func68, Tryz.ntmps68
  go_wp2
  go_ret
  exact ⟨rfl, rfl⟩
section
set_option maxRecDepth 20000 in
theorem diskRead_any {w : World} {base B : Nat} {d : Sp.Disk} {D : Nat → Prop} (h : DiskAt w base B d D) (i : Int) :
    Calls Tryz.prog 122 #[pt B, .int .i64 i] w fun e w' => e = .returned (.tuple #[.string (d.read i), .int .i64 (d.readC i)]) ∧ w' = w := by
  obtain ⟨ad, n, cap, c0, HN, hn, HF⟩ := h.open
  have hnl := HN.out
  have hh : d.has i ↔ 0 ≤ i ∧ i < (n : Int) := by rw [hnl]; exact Iff.rfl
  unfold Sp.Disk.read Sp.Disk.readC
  unfold pt
  by_cases h0 : i < 0
  · have q0 : decide (i < 0) = true := decide_eq_true h0
    rw [if_neg (fun h => by have := hh.1 h; omega), if_neg (fun h => by have := hh.1 h; omega)]
    clear hnl h hh
    go_enter Tryz.func122, Tryz.ntmps122
    go_wp2
    go_ret2
    exact ⟨rfl, rfl⟩
  have q0 : decide (i < 0) = false := decide_eq_false h0
  by_cases h1 : (n : Int) ≤ i
  · have q1 : decide (i ≥ (n : Int)) = true := decide_eq_true h1
    rw [if_neg (fun h => by have := hh.1 h; omega), if_neg (fun h => by have := hh.1 h; omega)]
    clear hnl h hh
    go_enter Tryz.func122, Tryz.ntmps122
    go_wp2
    go_ret2
    exact ⟨rfl, rfl⟩
  have q1 : decide (i ≥ (n : Int)) = false := decide_eq_false h1
  rw [if_pos (hh.2 (by omega)), if_pos (hh.2 (by omega))]
  obtain ⟨k, rfl⟩ : ∃ k : Nat, i = (k : Int) := ⟨i.toNat, by omega⟩
  have hk : k < n := by omega
  obtain ⟨b, o, x, rfl, hb, hx, hc⟩ := HF.out k hk
  have hg : d.get (k : Int) = x := by
    unfold Sp.Disk.get
    rw [Int.toNat_natCast, List.getD_eq_getElem?_getD, hx]
    rfl
  rw [hg]
  clear hg hx hb hnl h h0 hh
  go_enter Tryz.func122, Tryz.ntmps122
  go_wp2
  go_ret2
  exact ⟨rfl, rfl⟩
/-- Places that rows of a type take up. -/
def OfType (e : TypeId) (w : World) (K : Nat → Prop) : Prop := ∀ k, K k → ∃ cs fr, w.heap[k]? = some (.cells cs e fr)
theorem OfType.not {e e' : TypeId} {w : World} {K : Nat → Prop} (h : OfType e w K) {k : Nat} {cs : Array Value} {fr : Nat × Nat} (hk : w.heap[k]? = some (.cells cs e' fr)) (hne : e' ≠ e) : ¬ K k := fun hK => by
  obtain ⟨cs', fr', h'⟩ := h k hK
  rw [hk] at h'
  cases h'
  exact hne rfl
theorem OfType.notMap {e : TypeId} {w : World} {K : Nat → Prop} (h : OfType e w K) {α : Type} {enc : α → Value} {k : Nat} {l : List (Int × α)} (hm : IM.MapAt enc w k l) : ¬ K k := fun hK => by
  obtain ⟨cs', fr', h'⟩ := h k hK
  obtain ⟨o, ho, es, cl, rfl, _⟩ := hm
  rw [ho] at h'
  cases h'
theorem diskWrong_any {w : World} {base B : Nat} {d : Sp.Disk} {D : Nat → Prop} (h : DiskAt w base B d D) (i : Int) (s : ByteArray) :
    Calls Tryz.prog 120 #[pt B, .int .i64 i, .string s] w fun e w' => e = .returned (.int .i64 (d.layC i s)) ∧ w' = w := by
  obtain ⟨ad, n, cap, c0, HN, hn, HF⟩ := h.open
  have hnl := HN.out
  have hh : d.has i ↔ 0 ≤ i ∧ i < (n : Int) := by rw [hnl]; exact Iff.rfl
  unfold Sp.Disk.layC
  unfold pt
  by_cases h0 : i < 0
  · have q0 : decide (i < 0) = true := decide_eq_true h0
    rw [if_neg (fun h => by have := hh.1 h; omega)]
    clear hnl h hh
    go_enter Tryz.func120, Tryz.ntmps120
    go_wp2
    go_ret
    exact ⟨rfl, rfl⟩
  have q0 : decide (i < 0) = false := decide_eq_false h0
  by_cases h1 : (n : Int) ≤ i
  · have q1 : decide (i ≥ (n : Int)) = true := decide_eq_true h1
    rw [if_neg (fun h => by have := hh.1 h; omega)]
    clear hnl h hh
    go_enter Tryz.func120, Tryz.ntmps120
    go_wp2
    go_ret
    exact ⟨rfl, rfl⟩
  have q1 : decide (i ≥ (n : Int)) = false := decide_eq_false h1
  rw [if_pos (hh.2 (by omega))]
  by_cases h2 : s.size = 64
  · have q2 : ((s.size : Int) != 64) = false := bne_eq_false_iff_eq.2 (by omega)
    rw [if_pos h2]
    clear hnl h hh h2
    go_enter Tryz.func120, Tryz.ntmps120
    go_wp2
    go_ret
    exact ⟨rfl, rfl⟩
  · have q2 : ((s.size : Int) != 64) = true := bne_iff_ne.2 (by omega)
    rw [if_neg h2]
    clear hnl h hh h2
    go_enter Tryz.func120, Tryz.ntmps120
    go_wp2
    go_ret
    exact ⟨rfl, rfl⟩
theorem lay_stored {w : World} {base B : Nat} {d : Sp.Disk} {D : Nat → Prop} (h : DiskAt w base B d D) {k : Nat} (hk : k < d.l.length) (s : ByteArray) :
    ∃ g cap, w.cell? ⟨B, 0, none⟩ = some (.slice (some ⟨g, 0, none⟩) d.l.length cap) ∧ (w.cell? ⟨g, k, none⟩).isSome ∧ w.frozen? ⟨g, k, none⟩ = false ∧ D g ∧ base ≤ g ∧ OfType 9 w (fun j => j = g) ∧
      DiskAt (w.setCell ⟨g, k, none⟩ (.string s)) base B { d with l := d.l.set k s } D ∧ Turn (fun j => j = g) w (w.setCell ⟨g, k, none⟩ (.string s)) := by
  obtain ⟨⟨v, wm, h1, h2, ⟨o, h3, h3'⟩, h4, h5, h6⟩, ho, hl⟩ := h
  have h2' := h2
  obtain ⟨hx, ⟨rfl, h0⟩ | ⟨g, cap, cur, rfl, hg, hh, hnc, hm, hcs, ht⟩⟩ := h2'
  · omega
  have hkc : k < cur.size := by omega
  have hty : OfType 9 w (fun j => j = g) := by rintro j rfl; exact ⟨_, _, hh⟩
  have hBg : B ≠ g := fun e => by rw [e, hh] at h1; cases h1
  have hwg : wm ≠ g := fun e => by rw [e, hh] at h3; cases h3; obtain ⟨es, cl, e2, _⟩ := h3'; cases e2
  have hT : Turn (fun j => j = g) w (w.setCell ⟨g, k, none⟩ (.string s)) := by
    refine ⟨rfl, rfl, rfl, by rw [World.size_setCell]; exact Nat.le_refl _, fun j hj hne => ?_⟩
    simp [World.setCell, Array.getElem?_modify, Ne.symm hne]
  have hst := (World.ownsRow.stored h2 k (.string s)).1
  refine ⟨g, cap, cellOf (k := 0) h1 rfl, ?_, freeOf hh, h6 g rfl, hg, hty, ⟨⟨_, wm, hT.heap h1 hBg, ?_, ⟨o, hT.heap h3 hwg, h3'⟩, h4, h5, h6⟩, ho, hl⟩, hT⟩
  · rw [World.cell?]
    simp [hh, hkc]
  · unfold OwnR
    rw [textC_map, List.map_set, ← textC_map]
    simpa using hst
theorem diskLay_any {w : World} {base B : Nat} {d : Sp.Disk} {D : Nat → Prop} (h : DiskAt w base B d D) (i : Int) (s : ByteArray) :
    Calls Tryz.prog 69 #[pt B, .int .i64 i, .string s] w fun e w' => e = .returned (.int .i64 (d.layC i s)) ∧ DiskAt w' base B (d.lay i s) D ∧ ∃ K, (∀ j, K j → D j) ∧ OfType 9 w K ∧ Turn K w w' := by
  have hwr := fun W : World => fun (hW : DiskAt W base B d D) => diskWrong_any hW i s
  by_cases hc : d.layC i s = 0
  · have hh : d.has i := by
      unfold Sp.Disk.layC at hc
      by_cases h : d.has i
      · exact h
      · rw [if_neg h] at hc; exact absurd hc (by decide)
    obtain ⟨k, rfl⟩ : ∃ k : Nat, i = (k : Int) := ⟨i.toNat, by unfold Sp.Disk.has at hh; omega⟩
    have hk : k < d.l.length := by unfold Sp.Disk.has at hh; omega
    obtain ⟨g, cap, c0, hs, hf, hD, hb, hty, hd, hT⟩ := lay_stored h hk s
    have hl : d.lay (k : Int) s = { d with l := d.l.set k s } := by unfold Sp.Disk.lay; rw [if_pos hc, Int.toNat_natCast]
    rw [hl, hc]
    have hw := hwr w h
    rw [hc] at hw
    obtain ⟨n, hn⟩ : ∃ n, d.l.length = n := ⟨_, rfl⟩
    rw [hn] at c0 hk
    obtain ⟨x, hx⟩ := Option.isSome_iff_exists.1 hs
    have HF := Lib.hid (show DiskAt (w.setCell ⟨g, k, none⟩ (.string s)) base B { d with l := d.l.set k s } D ∧ ∃ K, (∀ j, K j → D j) ∧ OfType 9 w K ∧ Turn K w (w.setCell ⟨g, k, none⟩ (.string s)) from ⟨hd, fun j => j = g, fun j e => e ▸ hD, hty, hT⟩)
    have HW := Lib.hid hw
    unfold pt at HW ⊢
    clear hwr hw hd hT hty hb hD hs hl hh hc hn h
    go_enter Tryz.func69, Tryz.ntmps69
    go_wp2_with fail
    refine HW.out.mono ?_
    rintro e w1 ⟨rfl, hw1⟩
    subst hw1
    go_wp2
    go_ret
    exact ⟨rfl, HF.out⟩
  · have hl : d.lay i s = d := by unfold Sp.Disk.lay; rw [if_neg hc]
    rw [hl]
    have hw := hwr w h
    obtain ⟨c, hcc⟩ : ∃ c, d.layC i s = c := ⟨_, rfl⟩
    rw [hcc] at hw hc ⊢
    have HF := Lib.hid (show DiskAt w base B d D ∧ ∃ K, (∀ j, K j → D j) ∧ OfType 9 w K ∧ Turn K w w from ⟨h, fun _ => False, fun _ h => h.elim, fun _ h => h.elim, Turn.refl _ _⟩)
    have q1 : (c == 0) = false := beq_eq_false_iff_ne.2 hc
    have HW := Lib.hid hw
    unfold pt at HW ⊢
    clear hwr hw hcc h hl
    go_enter Tryz.func69, Tryz.ntmps69
    go_wp2_with fail
    refine HW.out.mono ?_
    rintro e w1 ⟨rfl, hw1⟩
    subst hw1
    go_wp2
    go_ret
    exact ⟨rfl, HF.out⟩
end
end Go.Proofs.YtghafpdmcbockaaGreatDoor
