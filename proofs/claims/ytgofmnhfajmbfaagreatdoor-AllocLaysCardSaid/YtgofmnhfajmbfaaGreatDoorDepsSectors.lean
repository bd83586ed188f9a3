/-
  Walks of layer 12: Sectors.
-/
import Derived.Test.YtgofmnhfajmbfaaGreatDoorIntDel
import Derived.Test.YtgofmnhfajmbfaaGreatDoorDepsSend
import Derived.Test.YtgofmnhfajmbfaaGreatDoorIntKeys
import Derived.Test.YtgofmnhfajmbfaaGreatDoorSpJ
namespace Go.Proofs.YtgofmnhfajmbfaaGreatDoor
open Go Go.RowKit Txt Sp

theorem atsOf_snoc {l : List Chg} {k : Nat} {c : Chg} (hc : l[k]? = some c) : atsOf (l.take (k + 1)) = if c.at_ ∈ atsOf (l.take k) then atsOf (l.take k) else atsOf (l.take k) ++ [c.at_] := by
  rw [take_step hc]
  exact ats_snoc _ _
theorem atsOf_len (l : List Chg) : ∀ k, (atsOf (l.take k)).length ≤ k
  | 0 => by rw [List.take_zero]; exact Nat.le_refl 0
  | k + 1 => by
    have ih := atsOf_len l k
    cases hc : l[k]? with
    | none =>
      rw [List.take_of_length_le (by have := List.getElem?_eq_none_iff.1 hc; omega)] at ih ⊢
      omega
    | some c =>
      rw [atsOf_snoc hc]
      split
      · omega
      · rw [List.length_append, List.length_singleton]; omega
section
set_option maxHeartbeats 4000000
set_option maxRecDepth 20000 in
theorem sectClose_any {w : World} {base B bx : Nat} {d : Sp.Deps} {D : Nat → Prop} (h : DepsAt w base B d D) (ht : d.Tied) (c1 : w.heap[bx]? = some (.cells #[.pointer (some ⟨B, 0, none⟩)] 114 (0, 0))) (x : Int) :
    Calls Tryz.prog 136 #[.int .i64 x, .pointer (some ⟨bx, 0, none⟩)] w fun e w' => e = .returned (.bool (!d.going x)) ∧ Below w.heap.size w w' := by
  have hok := ht.ok
  have hof := depsOf_any h x 2 hok.few
  have hre := fun (W : World) (hW : Below w.heap.size w W) => depsReady_any (h.below hW) ht x
  have hcc := fun (W : World) (hW : Below w.heap.size w W) => cellOf (k := 0) (heapOld hW c1) rfl
  obtain ⟨L, hL⟩ : ∃ L, d.places x 2 d.l.length = L := ⟨_, rfl⟩
  obtain ⟨R, hR⟩ : ∃ L, readyPl d x d.l.length = L := ⟨_, rfl⟩
  have hun : L = [] ↔ ¬ d.under x := by rw [← hL]; exact places_under
  have hrn : R = [] ↔ d.ready x = [] := by rw [← hR]; exact readyPl_nil hok x
  have hg : (!d.going x) = decide (¬ L = [] ∨ R = []) := by
    unfold Sp.Deps.going
    by_cases h1 : L = []
    · by_cases h2 : R = []
      · rw [decide_eq_false (fun hh => hh.2 (hrn.1 h2)), decide_eq_true (Or.inr h2)]; rfl
      · rw [decide_eq_true ⟨hun.1 h1, fun e => h2 (hrn.2 e)⟩, decide_eq_false (fun hh => hh.elim (fun hh => hh h1) h2)]; rfl
    · rw [decide_eq_false (fun hh => h1 (hun.2 hh.1)), decide_eq_true (Or.inl h1)]; rfl
  rw [hL] at hof
  rw [hR] at hre
  rw [hg]
  obtain ⟨gv, hgv⟩ : ∃ z, decide (¬ L = [] ∨ R = []) = z := ⟨_, rfl⟩
  have HGT : Hid (¬ L = [] ∨ R = [] → true = gv) := fun hh => (decide_eq_true hh).symm.trans hgv
  have HGF : Hid (¬ (¬ L = [] ∨ R = []) → false = gv) := fun hh => (decide_eq_false hh).symm.trans hgv
  rw [hgv]
  unfold pt at hof hre
  have c0 : w.cell? ⟨bx, 0, none⟩ = some (.pointer (some ⟨B, 0, none⟩)) := hcc w (Below.refl _ _)
  have HOF := Lib.hid hof
  have HRE := Lib.hid hre
  have HCC := Lib.hid hcc
  clear hof hre hcc
  clear h ht hok hun hrn hg hL hR c1 hgv
  go_enter Tryz.func136, Tryz.ntmps136
  go_wp2_with fail
  clear c0
  refine HOF.out.mono ?_
  rintro e w1 ⟨v, rfl, hv1, hb1⟩
  obtain ⟨ad, n, cap, rfl, hn, -, -⟩ := RowAt.facts (OwnR.row (f := intC) (fun _ _ => rfl) hv1)
  have HB1 := Lib.hid hb1
  by_cases h0 : L = []
  · have hn0 : n = 0 := by rw [hn.out, h0]; rfl
    subst hn0
    have HR1 := Lib.hid (HRE.out w1 hb1)
    have c0 : w1.cell? ⟨bx, 0, none⟩ = some (.pointer (some ⟨B, 0, none⟩)) := HCC.out w1 hb1
    clear hv1 hb1 hn HRE HCC HOF
    go_wp2_with fail
    clear c0
    refine HR1.out.mono ?_
    rintro e w2 ⟨v, rfl, hv2, hb2⟩
    obtain ⟨ad2, n2, cap2, rfl, hn2, -, -⟩ := RowAt.facts (OwnR.row (f := intC) (fun _ _ => rfl) hv2)
    have HB2 := Lib.hid (blN HB1.out hb2)
    by_cases h2 : R = []
    · have hn0 : n2 = 0 := by rw [hn2.out, h2]; rfl
      subst hn0
      have HG := Lib.hid (HGT.out (Or.inr h2))
      clear hv2 hb2 hn2 h0 h2
      go_wp2
      go_ret
      exact ⟨ret_bool HG.out, HB2.out⟩
    · have hn0 : n2 ≠ 0 := fun e => h2 (List.eq_nil_of_length_eq_zero (by rw [← hn2.out]; exact e))
      have q1 : ((n2 : Int) == 0) = false := beq_eq_false_iff_ne.2 (by omega)
      have HG := Lib.hid (HGF.out (fun hh => hh.elim (fun hh => hh h0) h2))
      clear hv2 hb2 hn2 h0 h2
      go_wp2
      go_ret
      exact ⟨ret_bool HG.out, HB2.out⟩
  · have hn0 : n ≠ 0 := fun e => h0 (List.eq_nil_of_length_eq_zero (by rw [← hn.out]; exact e))
    have q1 : (0 : Int) < (n : Int) := by omega
    have HG := Lib.hid (HGT.out (Or.inl h0))
    clear hv1 hb1 hn HRE HCC HOF h0
    go_wp2
    go_ret
    exact ⟨ret_bool HG.out, HB1.out⟩
/-- What the loop of Sectors finds in memory. -/
structure SecM (w : World) (B : Nat) (d : Sp.Deps) (k : Nat) (wr : World) : Prop where
  bel : Below w.heap.size w wr
  box : wr.heap[w.heap.size]? = some (.cells #[.pointer (some ⟨B, 0, none⟩)] 114 (0, 0))
  map : IM.MapAt truV wr (w.heap.size + 1) (truE (atsOf (d.l.take k)))
theorem SecM.below {w wr wr' : World} {B : Nat} {d : Sp.Deps} {k : Nat} (h : SecM w B d k wr) (hb : Below wr.heap.size wr wr') : SecM w B d k wr' :=
  ⟨blN h.bel hb, heapOld hb h.box, h.map.old (hb.block _ h.map.lt)⟩
set_option maxRecDepth 20000 in
theorem depsSectors_any {w : World} {base B : Nat} {d : Sp.Deps} {D : Nat → Prop} (h : DepsAt w base B d D) (ht : d.Tied) (hat : ∀ c ∈ d.l, 0 ≤ c.at_ ∧ c.at_ ≤ 1000000) :
    Calls Tryz.prog 69 #[pt B] w fun e w' => ∃ v, e = .returned v ∧ OwnR 3 1 intC w.heap.size w' v d.sectors ∧ Below w.heap.size w w' := by
  obtain ⟨ad, n, cap, c0, hBl, HN, hn2, HF⟩ := h.open2
  have hmm := @run_makeMap Tryz.prog
  have HCl : Hid (∀ W, Below w.heap.size w W → W.heap[w.heap.size]? = some (.cells #[.pointer (some ⟨B, 0, none⟩)] 114 (0, 0)) → ∀ x, Calls Tryz.prog 136 #[.int .i64 x, .pointer (some ⟨w.heap.size, 0, none⟩)] W fun e w' => e = .returned (.bool (!d.going x)) ∧ Below W.heap.size W w') :=
    fun W hW hx x => sectClose_any (h.below hW) ht hx x
  have HAts : Hid ((truE (atsOf d.l)).length ≤ 1000000 ∧ ∀ x ∈ truE (atsOf d.l), (Lit.int .i64 x.1).wf = true) := by
    refine ⟨?_, fun x hx => ?_⟩
    · have h1 := atsOf_len d.l d.l.length
      rw [List.take_length] at h1
      have h2 := ht.ok.few
      rw [truE_length]
      omega
    · obtain ⟨i, hi, rfl⟩ := List.mem_map.1 hx
      obtain ⟨c, hc, rfl⟩ := (ats_mem d.l i).1 hi
      have := hat c hc
      show (decide (IntKind.i64.min ≤ c.at_) && decide (c.at_ ≤ IntKind.i64.max)) = true
      rw [Bool.and_eq_true, decide_eq_true_iff, decide_eq_true_iff]
      have e1 : IntKind.i64.min = -9223372036854775808 := by decide
      have e2 : IntKind.i64.max = 9223372036854775807 := by decide
      omega
  have HSec : Hid (leftI (fun x => !d.going x) (((truE (atsOf d.l)).map (·.1)).mergeSort (fun x y => decide (x ≤ y))) = d.sectors) := by
    have e : (truE (atsOf d.l)).map (·.1) = atsOf d.l := truE_keys _
    rw [e]
    unfold Sp.Deps.sectors leftI
    congr 1
    funext x
    exact Bool.not_not _
  clear h ht hat
  unfold pt
  go_enter Tryz.func69, Tryz.ntmps69
  obtain ⟨W1, hW1⟩ : ∃ W, (w.alloc (.cells #[.pointer (some ⟨B, 0, none⟩)] 114)).alloc (.map #[] 0) = W := ⟨_, rfl⟩
  have hb1 : Below w.heap.size w W1 := by rw [← hW1]; exact bl1 (bl2 _) _
  have hx1 : W1.heap[w.heap.size]? = some (.cells #[.pointer (some ⟨B, 0, none⟩)] 114 (0, 0)) := by
    rw [← hW1]
    exact heapOld (bl2 _) (heapNew w _)
  have hm1 : IM.MapAt truV W1 (w.heap.size + 1) (truE []) := by
    have := heapNew (w.alloc (.cells #[.pointer (some ⟨B, 0, none⟩)] 114)) (.map #[] 0)
    rw [← hW1]
    refine ⟨_, ?_, IM.IsMap.new⟩
    simpa using this
  have HM1 : Hid (SecM w B d 0 W1) := ⟨hb1, hx1, by rw [List.take_zero]; exact hm1⟩
  have x0 : W1.cell? ⟨w.heap.size, 0, none⟩ = some (.pointer (some ⟨B, 0, none⟩)) := cellOf (k := 0) hx1 rfl
  have y0 := (hb1.cell (p := ⟨B, 0, none⟩) hBl).trans c0
  clear hb1 hx1 hm1
  go_wp2
  clear x0 y0 hW1
  go_loopw [13] (fun q wr => ∃ k : Nat, k ≤ n ∧ q = .int .i64 (k : Int) ∧ Hid (SecM w B d k wr)) (fun q _ => n - (intOf q).toNat)
  case atStart => exact ⟨0, Nat.zero_le _, rfl, HM1⟩
  case round =>
    clear HM1
    obtain ⟨k, hk, rfl, HM⟩ := hrel
    by_cases hlt : k < n
    · obtain ⟨b, o, c, ua, un, uc, rfl, hb, hx, -, hc⟩ := HF.out k hlt
      have hst := atsOf_snoc hx
      obtain ⟨cn, ca, co, cb, ch, cs⟩ := c
      dsimp only at hst
      have c0 := (HM.out.bel.cell (p := ⟨b, o + k * 6 + 0, none⟩) hb).trans (hc 0 _ rfl)
      have c1 := (HM.out.bel.cell (p := ⟨b, o + k * 6 + 1, none⟩) hb).trans (hc 1 _ rfl)
      have c2 := (HM.out.bel.cell (p := ⟨b, o + k * 6 + 2, none⟩) hb).trans (hc 2 _ rfl)
      have c3 := (HM.out.bel.cell (p := ⟨b, o + k * 6 + 3, none⟩) hb).trans (hc 3 _ rfl)
      have c4 := (HM.out.bel.cell (p := ⟨b, o + k * 6 + 4, none⟩) hb).trans (hc 4 _ rfl)
      have c5 := (HM.out.bel.cell (p := ⟨b, o + k * 6 + 5, none⟩) hb).trans (hc 5 _ rfl)
      simp only [Nat.add_zero] at c0
      obtain ⟨W5, hW5⟩ : ∃ W, wr.alloc (.cells #[.int .i64 (cn : Int), .int .i64 ca, .int .i64 co, .string cb, .slice ua un uc, .int .i64 cs] 209) = W := ⟨_, rfl⟩
      have hb5 : Below wr.heap.size wr W5 := by rw [← hW5]; exact bl2 _
      have hz5 : W5.heap[wr.heap.size]? = some (.cells #[.int .i64 (cn : Int), .int .i64 ca, .int .i64 co, .string cb, .slice ua un uc, .int .i64 cs] 209 (0, 0)) := by rw [← hW5]; exact heapNew wr _
      have hM5 := HM.out.below hb5
      have z1 : W5.cell? ⟨wr.heap.size, 1, none⟩ = some (.int .i64 ca) := cellOf (k := 1) hz5 rfl
      obtain ⟨o', hup, ho'⟩ := tru_update hM5.map ca
      rw [← hst] at ho'
      obtain ⟨W7, hW7⟩ : ∃ W, ChangeMaps.setBlock W5 (w.heap.size + 1) o' = W := ⟨_, rfl⟩
      rw [hW7] at hup
      have hT7 : Turn (fun j => j = w.heap.size + 1) W5 W7 := by rw [← hW7]; exact block_turn
      have HM7 : Hid (SecM w B d (k + 1) W7) := ⟨hM5.bel.trans (hT7.below (fun j e => by omega) (by have := hM5.bel.size; omega)), hT7.heap hM5.box (by omega), ⟨o', by rw [← hW7]; exact IM.heap_setBlock_at hM5.map.lt, ho'⟩⟩
      have k1 : (k : Int) < (n : Int) := by omega
      clear hb5 hz5 hM5 ho' hW7 hT7 hst hb hx hc
      go_wp2
      go_roundw
      case rel => exact ⟨k + 1, by omega, by go_num, HM7⟩
      case measure => simp [intOf]; omega
    · have hkn : k = d.l.length := by have := HN.out; omega
      have k1 : ¬ ((k : Int) < (n : Int)) := by omega
      have hmap := HM.out.map
      rw [hkn, List.take_length] at hmap
      have hso := isorted_any hmap HAts.out.2 HAts.out.1
      have HK := Lib.hid (fun W : World => ikeys_any (some (w.heap.size + 1)) W)
      have HSo := Lib.hid hso
      have HB0 := Lib.hid HM.out.bel
      have HX0 := Lib.hid HM.out.box
      clear hso hmap hkn HF HAts HM
      go_wp2_with fail
      refine (HK.out _).mono ?_
      rintro e w8 ⟨rfl, rfl⟩
      go_wp2_with fail
      refine HSo.out.mono ?_
      rintro e w9 ⟨v, rfl, hv9, hb9⟩
      have hb9' : Below wr.heap.size wr w9 := blN (bl2 _) hb9
      have hbw : Below w.heap.size w w9 := blN HB0.out hb9'
      have hx9 := heapOld hb9' HX0.out
      have hv9 : OwnR 3 1 intC (wr.heap.size + 1) w9 v (((truE (atsOf d.l)).map (·.1)).mergeSort (fun x y => decide (x ≤ y))) := hv9
      have hlo : ∀ k, v.ownBlock = some k → wr.heap.size + 1 ≤ k := fun k hk => (hv9.lt k hk).1
      have hwr : w.heap.size < wr.heap.size := (Array.getElem?_eq_some_iff.1 HX0.out).1
      have hdl := sectDelete_any (bx := w.heap.size) (fun x => !d.going x) hv9 (fun W hT x =>
        HCl.out W (hbw.trans (hT.below (fun k hk => by have := hlo k hk; omega) hbw.size)) (hT.heap hx9 (fun hk => by have := hlo _ hk; omega)) x)
      have HFin : Hid (∀ e w2, DelPostI (fun x => !d.going x) (wr.heap.size + 1) v (((truE (atsOf d.l)).map (·.1)).mergeSort (fun x y => decide (x ≤ y))) w9 e w2 → ∃ v', e = .returned v' ∧ OwnR 3 1 intC w.heap.size w2 v' d.sectors ∧ Below w.heap.size w w2) := by
        rintro e w2 ⟨v', rfl, r1, r2, K, k1, k2, hT⟩
        rw [HSec.out] at r1
        exact ⟨v', rfl, r1.mono (by omega), hbw.trans (hT.below (fun k hk => by have := hlo k (k1 k hk); omega) hbw.size)⟩
      have HDl := Lib.hid hdl
      clear hdl hx9 hbw hb9' hb9 hv9 hlo hwr HCl HSo HK
      go_wp2_with fail
      refine HDl.out.mono ?_
      intro e w10 hp
      obtain ⟨v', rfl, hv', hb'⟩ := HFin.out e w10 hp
      have HE : Hid (OwnR 3 1 intC w.heap.size w10 v' d.sectors ∧ Below w.heap.size w w10) := ⟨hv', hb'⟩
      clear hp hv' hb' HDl HFin
      go_wp2
      go_ret
      exact ⟨_, rfl, HE.out.1, HE.out.2⟩
end
end Go.Proofs.YtgofmnhfajmbfaaGreatDoor
