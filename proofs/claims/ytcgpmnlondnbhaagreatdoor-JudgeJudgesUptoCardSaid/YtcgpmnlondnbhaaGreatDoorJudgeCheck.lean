/-
  The judge's walks: Check.
-/
import Derived.Test.YtcgpmnlondnbhaaGreatDoorJudgeMay
import Derived.Test.YtcgpmnlondnbhaaGreatDoorTreeC
namespace Go.Proofs.YtcgpmnlondnbhaaGreatDoor
open Go Go.RowKit Txt Sp

/-- An answer of a log lies at a place. -/
def DidAt (w : World) (b off : Nat) (x : Sp.Did) : Prop := ∃ ad cap, Texts w (.slice ad x.a.names.length cap) x.a.names ∧ ∀ (i : Nat) (y : Value), (didA x (.slice ad x.a.names.length cap))[i]? = some y → w.cell? ⟨b, off + i, none⟩ = some y
/-- The slice v holds the log l. -/
def Dids (w : World) (v : Value) (l : List Sp.Did) : Prop :=
  ∃ ad cap, v = .slice ad l.length cap ∧ l.length ≤ cap ∧ cap ≤ maxLen ∧ (0 < l.length → ∃ b off, ad = some ⟨b, off, none⟩ ∧ b < w.heap.size ∧ ∀ (k : Nat) (x : Sp.Did), l[k]? = some x → DidAt w b (off + k * 16) x)
theorem DidAt.below {w w' : World} {b off : Nat} {x : Sp.Did} (h : DidAt w b off x) (hb : b < w.heap.size) (hw : Below w.heap.size w w') : DidAt w' b off x := by
  obtain ⟨ad, cap, ht, hc⟩ := h
  exact ⟨ad, cap, ht.below hw, fun i y hy => (hw.cell (p := ⟨b, off + i, none⟩) hb).trans (hc i y hy)⟩
theorem Dids.below {w w' : World} {v : Value} {l : List Sp.Did} (h : Dids w v l) (hw : Below w.heap.size w w') : Dids w' v l := by
  obtain ⟨ad, cap, hv, h1, h2, h3⟩ := h
  refine ⟨ad, cap, hv, h1, h2, fun h0 => ?_⟩
  obtain ⟨b, off, ha, hb, hx⟩ := h3 h0
  exact ⟨b, off, ha, Nat.lt_of_lt_of_le hb hw.size, fun k x hk => (hx k x hk).below hb hw⟩

def CheckPost (l : List Sp.Did) (w : World) (e : Ending) (w' : World) : Prop := e = .returned (.tuple #[.int .i64 (checkN l).1, .int .i64 (checkN l).2]) ∧ Below w.heap.size w w'

theorem below_two {w wr : World} {m : Nat} (h : Below m w wr) (hm : m ≤ wr.heap.size) (a b : Obj) : Below m w ((wr.alloc a).alloc b) := (h.alloc hm a).alloc (by simp; omega) b
theorem KMapAt.two {wr : World} {m : Nat} {ks : List (Int × Int)} (h : KMapAt wr m ks) (a b : Obj) : KMapAt ((wr.alloc a).alloc b) m ks :=
  h.same (heap_below (below_two (Below.refl wr.heap.size wr) (Nat.le_refl _) a b) _)

section
set_option maxHeartbeats 8000000
set_option maxRecDepth 20000 in
theorem judgeCheck_any (w : World) {v : Value} {l : List Sp.Did} (hl : Dids w v l) : Calls Tryz.prog 20 #[v] w (CheckPost l w) := by
  obtain ⟨ad, cap, rfl, hn1, hn2, hc⟩ := hl
  obtain ⟨n, hn⟩ : ∃ n, l.length = n := ⟨_, rfl⟩
  have HN := Lib.hid hn
  have HC := Lib.hid hc
  rw [hn] at hn1 ⊢
  have hn3 : n ≤ 9223372036854775807 := Nat.le_trans (Nat.le_trans hn1 hn2) (by decide)
  clear hc hn hn1 hn2
  have hmm := @run_makeMap Tryz.prog
  go_enter Tryz.func20, Tryz.ntmps20
  by_cases hlong : 256 < n
  · have HR : Hid (checkN l = (-1, 2)) := by
      show checkN l = _
      unfold checkN
      rw [if_pos (by rw [HN.out]; exact hlong)]
    have hlong' : (256 : Int) < n := by omega
    clear hlong
    go_wp2
    go_ret2
    unfold CheckPost
    rw [HR.out]
    exact ⟨rfl, Below.refl _ _⟩
  have HR : Hid (checkN l = checkFrom 0 [] l) := by
    show checkN l = _
    unfold checkN
    rw [if_neg (by rw [HN.out]; exact hlong)]
  have hb0 := (Below.refl w.heap.size w).alloc (Nat.le_refl _) (.map #[] 0)
  have hm0 : KMapAt (w.alloc (.map #[] 0)) w.heap.size [] := ⟨_, heap_alloc_new w _, #[], 0, rfl, rfl⟩
  have HB0 := Lib.hid hb0
  have HM0 := Lib.hid hm0
  clear hb0 hm0
  go_wp2
  go_loopw [14] (fun i wr => ∃ (k : Nat), k ≤ n ∧ i = .int .i64 k ∧ Hid (KMapAt wr w.heap.size ((l.take k).map Did.key)) ∧ Hid (Below w.heap.size w wr) ∧ Hid (checkN l = checkFrom k ((l.take k).map Did.key) (l.drop k))) (fun i _ => n - (intOf i).toNat)
  case atStart => exact ⟨0, Nat.zero_le _, rfl, HM0, HB0, HR⟩
  case round =>
    obtain ⟨k, hkn, rfl, HK, HB, HE⟩ := hrel
    clear HB0 HM0
    by_cases h1 : k < n
    · obtain ⟨b, off, rfl, hbl, hcell⟩ := HC.out (by have := HN.out; omega)
      obtain ⟨x, hx⟩ : ∃ x, l[k]? = some x := ⟨l[k]'(by have := HN.out; omega), List.getElem?_eq_getElem _⟩
      obtain ⟨na, nc, _, hcs⟩ := (hcell k x hx).below hbl HB.out
      have HD : Hid (l.drop k = x :: l.drop (k + 1)) := by
        obtain ⟨h1, h2⟩ := List.getElem?_eq_some_iff.1 hx
        show l.drop k = x :: l.drop (k + 1)
        rw [List.drop_eq_getElem_cons h1, h2]
      have HT : Hid (l.take (k + 1) = l.take k ++ [x]) := take_snoc l k x hx
      have HKs : Hid (∀ a b, KMapAt ((wr.alloc a).alloc b) w.heap.size ((l.take k).map Did.key)) := fun a b => HK.out.two a b
      have HBs : Hid (∀ a b, Below w.heap.size w ((wr.alloc a).alloc b)) := fun a b => below_two HB.out HB.out.size a b
      have HX := Lib.hid hx
      obtain ⟨ks, hks⟩ : ∃ ks, (l.take k).map Did.key = ks := ⟨_, rfl⟩
      rw [hks] at HKs HE
      obtain ⟨node, task, frm, till, ⟨ok, op, ot, oo, ol, od⟩, ⟨ac, ak, al, as_, ad, an⟩⟩ := x
      have hlk := fun a b => run_lookup_key (HKs.out a b) (node, task)
      have hmay := fun a b => judgeMay_any ((wr.alloc a).alloc b) ⟨node, task, frm, till, ⟨ok, op, ot, oo, ol, od⟩, ⟨ac, ak, al, as_, ad, an⟩⟩ (.slice na an.length nc)
      have HMay := Lib.hid hmay
      have g0 : wr.cell? ⟨b, off + k * 16, none⟩ = some (.int .i64 node) := hcs 0 _ rfl
      have g1 : wr.cell? ⟨b, off + k * 16 + 1, none⟩ = some (.int .i64 task) := hcs 1 _ rfl
      have g2 : wr.cell? ⟨b, off + k * 16 + 2, none⟩ = some (.int .i64 frm) := hcs 2 _ rfl
      have g3 : wr.cell? ⟨b, off + k * 16 + 3, none⟩ = some (.int .i64 till) := hcs 3 _ rfl
      have g4 : wr.cell? ⟨b, off + k * 16 + 4, none⟩ = some (.int .i64 ok) := hcs 4 _ rfl
      have g5 : wr.cell? ⟨b, off + k * 16 + 5, none⟩ = some (.string op) := hcs 5 _ rfl
      have g6 : wr.cell? ⟨b, off + k * 16 + 6, none⟩ = some (.string ot) := hcs 6 _ rfl
      have g7 : wr.cell? ⟨b, off + k * 16 + 7, none⟩ = some (.int .i64 oo) := hcs 7 _ rfl
      have g8 : wr.cell? ⟨b, off + k * 16 + 8, none⟩ = some (.int .i64 ol) := hcs 8 _ rfl
      have g9 : wr.cell? ⟨b, off + k * 16 + 9, none⟩ = some (.string od) := hcs 9 _ rfl
      have g10 : wr.cell? ⟨b, off + k * 16 + 10, none⟩ = some (.int .i64 ac) := hcs 10 _ rfl
      have g11 : wr.cell? ⟨b, off + k * 16 + 11, none⟩ = some (.int .i64 ak) := hcs 11 _ rfl
      have g12 : wr.cell? ⟨b, off + k * 16 + 12, none⟩ = some (.int .i64 al) := hcs 12 _ rfl
      have g13 : wr.cell? ⟨b, off + k * 16 + 13, none⟩ = some (.int .i64 as_) := hcs 13 _ rfl
      have g14 : wr.cell? ⟨b, off + k * 16 + 14, none⟩ = some (.string ad) := hcs 14 _ rfl
      have g15 : wr.cell? ⟨b, off + k * 16 + 15, none⟩ = some (.slice na an.length nc) := hcs 15 _ rfl
      have hr0 := HB.out.size
      have HKS := Lib.hid hks
      clear hx hcs hcell hmay hks HK HC
      by_cases hseen : (node, task) ∈ ks
      · rw [decide_eq_true hseen] at hlk
        have HF : Hid (checkN l = ((k : Int), 270)) := by
          show checkN l = _
          rw [HE.out, HD.out]
          unfold checkFrom
          exact if_pos (Or.inl hseen)
        unfold keyV at hlk
        simp only at hlk
        clear hseen
        go_wp2
        go_ret2
        unfold CheckPost
        rw [HF.out]
        exact ⟨rfl, HBs.out _ _⟩
      · rw [decide_eq_false hseen] at hlk
        unfold keyV at hlk
        simp only at hlk
        have HS := Lib.hid hseen
        clear hseen
        go_wp2_with fail
        refine (HMay.out _ _).mono ?_
        rintro e w1 ⟨rfl, hb1⟩
        have hk1 : KMapAt w1 w.heap.size ks := (HKs.out _ _).same (heap_below hb1 _)
        have HB1 : Hid (Below w.heap.size w w1) := below_next (HBs.out _ _) hb1
        have hkb : w1.heap[wr.heap.size + 1]? = some (.cells #[.int .i64 node, .int .i64 task] 84 (0, 0)) := heap_below hb1 _ _ (alloc_at (by simp) _)
        have k0 : w1.cell? ⟨wr.heap.size + 1, 0, none⟩ = some (.int .i64 node) := cell_of_heap hkb rfl
        have k1 : w1.cell? ⟨wr.heap.size + 1, 1, none⟩ = some (.int .i64 task) := cell_of_heap hkb rfl
        clear hb1 hkb HMay HKs HBs hlk
        by_cases hmay : (⟨node, task, frm, till, ⟨ok, op, ot, oo, ol, od⟩, ⟨ac, ak, al, as_, ad, an⟩⟩ : Sp.Did).may
        · rw [decide_eq_true hmay]
          obtain ⟨o', hup, ho'⟩ := run_update_key hk1 (node, task) HS.out
          have HE2 : Hid (checkN l = checkFrom (k + 1) (ks ++ [(node, task)]) (l.drop (k + 1))) := by
            show checkN l = _
            rw [HE.out, HD.out]
            conv => lhs; unfold checkFrom
            exact if_neg (fun h => h.elim HS.out (fun h => h hmay))
          have HK2 : Hid (KMapAt (ChangeMaps.setBlock w1 w.heap.size o') w.heap.size ((l.take (k + 1)).map Did.key)) := by
            show KMapAt _ _ _
            rw [HT.out, List.map_append, HKS.out]
            exact ⟨o', heap_setBlock_at o' hk1.lt, ho'⟩
          have HE3 : Hid (checkN l = checkFrom (k + 1) ((l.take (k + 1)).map Did.key) (l.drop (k + 1))) := by
            show checkN l = _
            rw [HE2.out, HT.out, List.map_append, HKS.out]
            rfl
          have HB2 : Hid (Below w.heap.size w (ChangeMaps.setBlock w1 w.heap.size o')) :=
            ⟨HB1.out.os, HB1.out.tape, HB1.out.output, by rw [size_setBlock]; exact HB1.out.size, fun j hj => by rw [heap_setBlock_ne _ (by omega)]; exact HB1.out.block j hj⟩
          unfold keyV at hup
          simp only at hup
          clear hmay hk1 HE2 ho'
          go_wp2
          go_roundw
          case rel => exact ⟨k + 1, by omega, by go_num, HK2, HB2, HE3⟩
          case measure => simp [intOf]; omega
        · rw [decide_eq_false hmay]
          have HF : Hid (checkN l = ((k : Int), 270)) := by
            show checkN l = _
            rw [HE.out, HD.out]
            unfold checkFrom
            exact if_pos (Or.inr hmay)
          clear hmay hk1
          go_wp2
          go_ret2
          unfold CheckPost
          rw [HF.out]
          exact ⟨rfl, HB1.out⟩
    · have HF : Hid (checkN l = (0, 0)) := by
        show checkN l = _
        rw [HE.out, List.drop_of_length_le (by have := HN.out; omega)]
        rfl
      go_wp2
      go_ret2
      unfold CheckPost
      rw [HF.out]
      exact ⟨rfl, HB.out⟩
end
end Go.Proofs.YtcgpmnlondnbhaaGreatDoor
