/-
  The judge's walks: law27.copied.
-/
import Derived.Test.YtcgpmnlondnbhaaDoorLogSrc
import Derived.Test.YtcgpmnlondnbhaaDoorJudgeMade
import Derived.OwnWalk
import Derived.Laws.AppendOwnNone
namespace Go.Proofs.YtcgpmnlondnbhaaDoor
open Go Go.RowKit Txt Sp

theorem texts_cells {w : World} {b off : Nat} {l : List ByteArray} (hc : ∀ j x, l[j]? = some x → w.cell? ⟨b, off + j, none⟩ = some (.string x)) :
    ∀ j u, (l.map Value.string)[j]? = some u → w.cell? ((⟨b, off, none⟩ : Addr).add j) = some u := by
  intro j u hu
  rw [List.getElem?_map] at hu
  obtain ⟨x, hx, rfl⟩ := Option.map_eq_some_iff.1 hu
  have := hc j x hx
  unfold Addr.add
  split
  · rename_i h; subst h; exact this
  · exact this
theorem texts_one (l : List ByteArray) : ∀ u ∈ l.map Value.string, u.oneCell' = true := by
  intro u hu
  obtain ⟨x, _, rfl⟩ := List.mem_map.1 hu
  rfl
def CopiedPost (L : List Sp.Did) (w : World) (e : Ending) (w' : World) : Prop := ∃ g cap xs, e = .returned (.slice (some ⟨g, 0, none⟩) L.length cap) ∧ LogAt w.heap.size w' (fun _ => False) (.slice (some ⟨g, 0, none⟩) L.length cap) L xs ∧ Below w.heap.size w w'

/-- Behind the first append. -/
theorem copy_log_start {w w1 : World} {g cap b off : Nat} {L : List Sp.Did} (hb : Below w.heap.size w w1) (h : ∀ (k : Nat) (x : Sp.Did), L[k]? = some x → SrcAt w b (off + k * 16) x)
    (hown : w1.ownsRow w.heap.size 56 16 (.slice (some ⟨g, 0, none⟩) L.length cap) L.length (readCells w b off (L.length * 16))) : CopyLog w w1 g cap L 0 (readCells w b off (L.length * 16)) := by
  refine ⟨hb, hown, fun j x hj => absurd hj (Nat.not_lt_zero _), fun j x _ hx => ?_⟩
  obtain ⟨ad, c, h1, h2, h3⟩ := h j x hx
  refine ⟨ad, c, h1, h2, fun i y hy => ?_⟩
  have hi : i < 16 := (Array.getElem?_eq_some_iff.1 hy).1
  have hj := (List.getElem?_eq_some_iff.1 hx).1
  exact readCells_at (by omega) (by rw [← Nat.add_assoc]; exact h3 i y hy)

section
set_option maxHeartbeats 8000000
set_option maxRecDepth 20000 in
theorem judgeCopied_any (w : World) {v : Value} {L : List Sp.Did} (hs : Src w v L) (hL : L.length ≤ 1000) (hN : ∀ x ∈ L, x.a.names.length ≤ 2000000) : Calls Tryd.prog 23 #[v] w (CopiedPost L w) := by
  obtain ⟨i0, hi, hz0, hz1, hz2⟩ := info_parts infoDid
  obtain ⟨j0, hj, hj0, hj1, hj2⟩ := info_parts Tryd.infoText
  obtain ⟨ad, cap, rfl, h0, h1, h2, h3⟩ := hs
  have hown := World.ownsRow_lit (base := w.heap.size) (e := 56) (size := 16) w #[] 0 (Nat.le_refl _) (by decide) rfl
  have start : Below w.heap.size w (w.alloc (.cells #[] 56)) := (Below.refl _ _).alloc (Nat.le_refl _) _
  have HStart := Lib.hid start
  have HOwn := Lib.hid hown
  cases ad with
  | none =>
    obtain ⟨hl0, rfl⟩ := h0 rfl
    obtain rfl : L = [] := List.length_eq_zero_iff.1 hl0
    have HL0 : Hid (LogAt w.heap.size (w.alloc (.cells #[] 56)) (fun _ => False) (.slice (some ⟨w.heap.size, 0, none⟩) 0 0) [] []) := ⟨hown, fun _ _ hf => hf, fun k x hx => by simp at hx⟩
    clear hl0 h0 h1 h2 h3 hL hN start
    rw [List.length_nil]
    go_enter Tryd.func23, Tryd.ntmps23
    go_wp2_with (at_builtin; refine wpList_append_own_none rfl _ _ 50 rfl w.heap.size 56 i0 16 Tryd.underlying50 hi _ _ _ rfl HOwn.out rfl ?_)
    clear HOwn hown
    go_wp2
    go_loopw [4] (fun i wr => i = .int .i64 0 ∧ wr = w.alloc (.cells #[] 56)) (fun _ _ => 0)
    case atStart => exact ⟨rfl, rfl⟩
    case round =>
      obtain ⟨rfl, rfl⟩ := hrel
      go_wp2
      go_ret
      exact ⟨_, _, _, rfl, HL0.out, HStart.out⟩
  | some a0 =>
    obtain ⟨n, hn⟩ : ∃ n, L.length = n := ⟨_, rfl⟩
    have HN := Lib.hid hn
    have HNm := Lib.hid hN
    obtain ⟨b, off, hcells, hsrc⟩ : ∃ b off, (∀ j u, (readCells w b off (L.length * 16))[j]? = some u → (w.alloc (.cells #[] 56)).cell? (a0.add j) = some u) ∧ ∀ (k : Nat) (x : Sp.Did), L[k]? = some x → SrcAt w b (off + k * 16) x := by
      by_cases hl0 : L = []
      · subst hl0
        exact ⟨0, 0, fun j u hu => by simp [readCells] at hu, fun k x hx => by simp at hx⟩
      · obtain ⟨b, off, e, hbl, hsrc⟩ := h3 (List.length_pos_iff.2 hl0)
        cases e
        refine ⟨b, off, fun j u hu => ?_, hsrc⟩
        have h5 := (src_reads hsrc hu).1
        have h6 : ((⟨b, off, none⟩ : Addr).add j) = ⟨b, off + j, none⟩ := by
          unfold Addr.add
          split
          · rename_i hj
            simp_all
          · rfl
        rw [h6, ← h5]
        exact start.cell (p := ⟨b, off + j, none⟩) hbl
    have HSrc := Lib.hid hsrc
    have HOne : Hid (∀ u ∈ readCells w b off (n * 16), u.oneCell' = true) := fun u hu => by
      obtain ⟨j, hj⟩ := List.getElem?_of_mem hu
      rw [← hn] at hj
      exact (src_reads hsrc hj).2
    rw [hn] at hcells
    have HCells := Lib.hid hcells
    clear hcells
    rw [hn] at h1 hL ⊢
    clear h0 h3 hsrc hN hn start hown
    go_enter Tryd.func23, Tryd.ntmps23
    go_wp2_with (at_builtin; refine wpList_append_own_at _ rfl _ _ 50 rfl w.heap.size 56 i0 _ 16 176 Tryd.underlying50 hi hz0 hz1 hz2 rfl (by decide) _ _ _ rfl HOwn.out a0 n cap (readCells w b off (n * 16)) rfl (readCells_length _ _ _ _) HCells.out HOne.out ?c1 ?c2 ?c3 ?_)
    case c1 => unfold maxLen; omega
    case c2 => omega
    intro v1 w1 hown1 hgrow1 hnil hloc
    obtain ⟨g, c1, rfl⟩ : ∃ g c1, v1 = .slice (some ⟨g, 0, none⟩) n c1 := by
      rcases hown1.2 with ⟨h5, _⟩ | ⟨g, c1, _, hv, _⟩
      · exact (hnil h5).elim
      · exact ⟨g, c1, hv⟩
    have hB1 : Below w.heap.size w w1 := HStart.out.grown hgrow1 (by simp) (fun k hk => (HOwn.out.lt k hk).1)
    have HCp : Hid (CopyLog w w1 g c1 L 0 (readCells w b off (L.length * 16))) := copy_log_start hB1 HSrc.out (by
      have h5 := hown1
      rw [HN.out]
      simpa using h5)
    clear hown1 hgrow1 hnil hloc hB1 HCells HOne HOwn HStart HSrc
    go_wp2
    go_loopw [4] (fun i wr => ∃ (k : Nat) (xs : List Value), k ≤ n ∧ i = .int .i64 k ∧ Hid (CopyLog w wr g c1 L k xs)) (fun i _ => n - (intOf i).toNat)
    case atStart => exact ⟨0, _, Nat.zero_le _, rfl, HCp⟩
    case round =>
      obtain ⟨k, xs, hkn, rfl, HC⟩ := hrel
      clear HCp
      by_cases hlt : k < n
      · obtain ⟨x, hx⟩ : ∃ x, L[k]? = some x := ⟨L[k]'(by have := HN.out; omega), List.getElem?_eq_getElem _⟩
        have HX := Lib.hid hx
        have hnm := HNm.out x (List.mem_of_getElem? hx)
        obtain ⟨na, nc, htx, hnone, hxs⟩ := HC.out.rest k x (Nat.le_refl _) hx
        have hxc := hxs 15 (.slice na x.a.names.length nc) rfl
        have hk1 : k * 16 + 15 < n * 16 := by omega
        have k1 : wr.cell? ⟨g, k * 16 + 15, none⟩ = some (.slice na x.a.names.length nc) := by
          have h5 := HC.out.own.cellAt (k * 16 + 15) (by rw [HN.out]; exact hk1)
          rw [h5]
          exact hxc
        have k2 : wr.frozen? ⟨g, k * 16 + 15, none⟩ = false := HC.out.own.frozenAt _
        have hgs : g < wr.heap.size := (HC.out.own.lt g rfl).2
        clear hx hxs hxc
        obtain ⟨m, hm⟩ : ∃ m, x.a.names.length = m := ⟨_, rfl⟩
        have HM := Lib.hid hm
        have HTx := Lib.hid htx
        rw [hm] at k1 hnm hnone
        clear hm htx
        have hown0 := World.ownsRow_lit (base := wr.heap.size) (e := 9) (size := 1) wr #[] 0 (Nat.le_refl _) (by decide) rfl
        have start0 : Below wr.heap.size wr (wr.alloc (.cells #[] 9)) := (Below.refl _ _).alloc (Nat.le_refl _) _
        obtain ⟨W0, hW0⟩ : ∃ W, wr.alloc (.cells #[] 9) = W := ⟨_, rfl⟩
        rw [hW0] at hown0 start0
        have HOwn0 := Lib.hid hown0
        have HStart0 := Lib.hid start0
        have k1' : W0.cell? ⟨g, k * 16 + 15, none⟩ = some (.slice na m nc) := (start0.cell (p := ⟨g, k * 16 + 15, none⟩) hgs).trans k1
        have k2' : W0.frozen? ⟨g, k * 16 + 15, none⟩ = false := (start0.frozen (p := ⟨g, k * 16 + 15, none⟩) hgs).trans k2
        cases na with
        | none =>
          obtain ⟨rfl, rfl⟩ := hnone rfl
          have HNew : Hid (OwnTexts wr.heap.size W0 (.slice (some ⟨wr.heap.size, 0, none⟩) x.a.names.length 0) x.a.names) := by
            have h5 := HM.out
            have h6 : x.a.names = [] := List.length_eq_zero_iff.1 h5
            show OwnTexts _ _ _ _
            rw [h6]
            exact ⟨_, hown0⟩
          clear hnone hown0 start0
          go_wp2_with (at_builtin; refine wpList_append_own_none rfl _ _ 27 rfl wr.heap.size 9 j0 1 Tryd.underlying27 hj _ _ _ rfl HOwn0.out rfl ?_)
          have HStep := Lib.hid (HC.out.step HX.out HStart0.out HNew.out)
          rw [HM.out] at HStep
          clear HNew HOwn0
          go_wp2
          go_roundw
          case rel => exact ⟨k + 1, _, by omega, by go_num, HStep⟩
          case measure => simp [intOf]; omega
        | some a =>
          have HC2 : Hid (∀ j u, (x.a.names.map Value.string)[j]? = some u → W0.cell? (a.add j) = some u) := by
            obtain ⟨ad, cap, e, h1, h2, h3⟩ := HTx.out
            cases e
            cases hxn : x.a.names with
            | nil => intro j u hu; simp at hu
            | cons y r =>
              rw [hxn] at h3
              obtain ⟨b2, off2, e2, hb2, hc2⟩ := h3 (by simp)
              cases e2
              exact texts_cells (fun j x hx => ((below_next HC.out.low start0).cell (p := ⟨b2, off2 + j, none⟩) hb2).trans (hc2 j x hx))
          have HLen : Hid ((x.a.names.map Value.string).length = m * 1) := by show (x.a.names.map Value.string).length = m * 1; rw [List.length_map, HM.out, Nat.mul_one]
          clear hnone hown0 start0
          go_wp2_with (at_builtin; refine wpList_append_own_at _ rfl _ _ 27 rfl wr.heap.size 9 j0 (.string ByteArray.empty) 1 16 Tryd.underlying27 hj hj0 hj1 hj2 rfl (by decide) _ _ _ rfl HOwn0.out a m nc (x.a.names.map Value.string) rfl HLen.out HC2.out (texts_one _) ?d1 ?d2 ?d3 ?_)
          case d1 => unfold maxLen; omega
          case d2 => omega
          case d3 => exact HStart0.out.size
          intro v2 w2 hown2 hgrow2 hnil2 _
          obtain ⟨g2, c2, rfl⟩ : ∃ g2 c2, v2 = .slice (some ⟨g2, 0, none⟩) m c2 := by
            rcases hown2.2 with ⟨h5, _⟩ | ⟨g2, c2, _, hv, _⟩
            · exact (hnil2 h5).elim
            · exact ⟨g2, c2, hv⟩
          have hB2 : Below wr.heap.size wr w2 := HStart0.out.grown hgrow2 HStart0.out.size (fun k hk => (HOwn0.out.lt k hk).1)
          have HNew : Hid (OwnTexts wr.heap.size w2 (.slice (some ⟨g2, 0, none⟩) x.a.names.length c2) x.a.names) := by
            have h5 := hown2
            show OwnTexts _ _ _ _
            rw [HM.out]
            refine ⟨9, ?_⟩
            rw [HM.out]
            exact h5
          have HStep := Lib.hid (HC.out.step HX.out hB2 HNew.out)
          rw [HM.out] at HStep
          have k3 : w2.cell? ⟨g, k * 16 + 15, none⟩ = some (.slice (some a) m nc) := (hB2.cell (p := ⟨g, k * 16 + 15, none⟩) hgs).trans k1
          have k4 : w2.frozen? ⟨g, k * 16 + 15, none⟩ = false := (hB2.frozen (p := ⟨g, k * 16 + 15, none⟩) hgs).trans k2
          clear HNew HOwn0 hown2 hgrow2 hnil2 hB2 HC2 HLen k1 k2 k1' k2'
          go_wp2
          go_roundw
          case rel => exact ⟨k + 1, _, by omega, by go_num, HStep⟩
          case measure => simp [intOf]; omega
      · go_wp2
        go_ret
        have hl := HC.out.log (by have := HN.out; omega)
        rw [HN.out] at hl
        unfold CopiedPost
        rw [HN.out]
        exact ⟨_, _, xs, rfl, hl, HC.out.low⟩
end
end Go.Proofs.YtcgpmnlondnbhaaDoor
