/-
  The reference's walks: put.
-/
import Derived.Test.YtcgpmnlondnbhaaGreatDoorRefAt
import Derived.Test.YtcgpmnlondnbhaaGreatDoorAppendSrc
import Derived.Test.YtcgpmnlondnbhaaGreatDoorNamesA
import Derived.Laws.AppendOwnNone
import Derived.Sort.Walk0
namespace Go.Proofs.YtcgpmnlondnbhaaGreatDoor
open Go Go.RowKit Txt Sp

theorem take_while_at {α : Type} {p : α → Bool} : ∀ {l : List α} {k : Nat}, (∀ x ∈ l.take k, p x = true) → (l.length ≤ k ∨ ∃ y, l[k]? = some y ∧ p y = false) → l.takeWhile p = l.take k ∧ l.dropWhile p = l.drop k
  | [], k, _, _ => by simp
  | x :: r, 0, _, h => by
    rcases h with h | ⟨y, hy, hp⟩
    · simp at h
    · simp at hy
      subst hy
      rw [List.takeWhile_cons_of_neg (by simp [hp]), List.dropWhile_cons_of_neg (by simp [hp])]
      simp
  | x :: r, k + 1, h1, h => by
    have hx : p x = true := h1 x (by simp)
    have ih := take_while_at (l := r) (k := k) (fun y hy => h1 y (by simp [hy])) (h.imp (fun h => by simpa using h) (fun ⟨y, hy, hp⟩ => ⟨y, by simpa using hy, hp⟩))
    rw [List.takeWhile_cons_of_pos hx, List.dropWhile_cons_of_pos hx, ih.1, ih.2]
    simp
theorem insL_at {l : List ByteArray} {s : ByteArray} {k : Nat} (h1 : ∀ x ∈ l.take k, ltT x s = true) (h : l.length ≤ k ∨ ∃ y, l[k]? = some y ∧ ltT y s = false) : insL l s = l.take k ++ [s] ++ l.drop k := by
  unfold insL
  obtain ⟨a, b⟩ := take_while_at (p := fun x => ltT x s) h1 h
  rw [a, b]
  simp

def PutPost (l : List ByteArray) (w : World) (e : Ending) (w' : World) : Prop := ∃ v, e = .returned v ∧ OwnTexts w.heap.size w' v l ∧ Below w.heap.size w w'

theorem less_eq (a b : ByteArray) : Op.bytesLess a.toList b.toList = ltT a b := by
  unfold ltT
  rw [bytesLess_eq, Lib.toList_data, Lib.toList_data]
theorem texts_at {w : World} {b off : Nat} {l : List ByteArray} (hc : ∀ j x, l[j]? = some x → w.cell? ⟨b, off + j, none⟩ = some (.string x)) :
    ∀ j u, (l.map Value.string)[j]? = some u → w.cell? ((⟨b, off, none⟩ : Addr).add j) = some u := by
  intro j u hu
  rw [List.getElem?_map] at hu
  obtain ⟨x, hx, rfl⟩ := Option.map_eq_some_iff.1 hu
  have := hc j x hx
  unfold Addr.add
  split
  · rename_i h; subst h; exact this
  · exact this
theorem add_block (a : Addr) (j : Nat) : (a.add j).block = a.block := by unfold Addr.add; split <;> rfl
theorem texts_plain (l : List ByteArray) : ∀ u ∈ l.map Value.string, u.oneCell' = true := by
  intro u hu
  obtain ⟨x, _, rfl⟩ := List.mem_map.1 hu
  rfl

section
set_option maxHeartbeats 2000000
theorem put_end {w w3 : World} {l : List ByteArray} {s : ByteArray} {k n m : Nat} (hn : l.length = n) (hk : k ≤ n) (hm : m = k + 1 + (n - k)) (hI : insL l s = l.take k ++ [s] ++ l.drop k) {L1 L2 : List Value} (h1 : (l.take k).map Value.string = L1) (h2 : (l.drop k).map Value.string = L2) {v : Value} {e : TypeId}
    (hown : w3.ownsRow w.heap.size e 1 v m (L1 ++ [.string s] ++ L2)) : OwnTexts w.heap.size w3 v (insL l s) := by
  refine ⟨e, ?_⟩
  rw [insL_length, hI, List.map_append, List.map_append, h1, h2, hn, show n + 1 = m by omega]
  exact hown
set_option maxRecDepth 100000 in
theorem rput_any {w : World} {base : Nat} {v : Value} {l : List ByteArray} (hl : OwnTexts base w v l) (s : ByteArray) (hfew : l.length ≤ 2000000) :
    Calls Tryz.prog 44 #[v, .string s] w (PutPost (insL l s) w) := by
  obtain ⟨i0, hi, hz0, hz1, hz2⟩ := info_parts Tryz.infoText
  obtain ⟨e0, hown⟩ := hl
  rcases hown.2 with ⟨rfl, h0⟩ | ⟨g, cap, cur, rfl, hb, hg, h1, h2, h3, h4⟩
  · have hl : l = [] := List.length_eq_zero_iff.1 h0
    subst hl
    have HCn := Lib.hid (cell_one_new w (.string s) 9)
    have HLt1 : Hid (w.heap.size ≤ (w.alloc (.cells #[.string s] 9)).heap.size) := by show w.heap.size ≤ _; simp
    clear hown h0
    go_enter Tryz.func44, Tryz.ntmps44
    go_wp2
    go_loop [5] (fun v => v = .int .i64 0) (fun _ => 0)
    case atStart => rfl
    case round =>
      subst hrel
      go_wp2_with (at_builtin; refine wpList_append_lies _ rfl (.tmp 26) (.tmp 28) 30 rfl w.heap.size 9 i0 (.string ByteArray.empty) 1 16 Tryz.underlying30 hi hz0 hz1 hz2 rfl (by decide) (.slice none 0 0) 0 [] rfl (World.ownsRow_nil _ _ _ _) ⟨w.heap.size, 0, none⟩ 1 1 [.string s] rfl rfl HCn.out (by simp [Value.oneCell']) (by decide) (by decide) (by decide) HLt1.out _ rfl ?_)
      intro g2 cap2 w2 hown2 hgrow2 _ _
      have HB2 : Hid (Below w.heap.size w w2) := ((Below.refl _ _).alloc (Nat.le_refl _) _).grown hgrow2 HLt1.out (fun k hk => (by cases hk))
      have HOwn2 := Lib.hid hown2
      have HE : Hid (OwnTexts w.heap.size w2 (.slice (some ⟨g2, 0, none⟩) 1 cap2) (insL [] s)) := ⟨_, by simpa [insL] using hown2⟩
      clear hown2 hgrow2 HCn HLt1
      go_wp2_with (at_builtin; refine wpList_append_own_none rfl (.tmp 30) (.tmp 33) 30 rfl w.heap.size 9 i0 1 Tryz.underlying30 hi _ _ _ rfl HOwn2.out rfl ?_)
      go_wp2
      go_ret
      exact ⟨_, rfl, HE.out, HB2.out⟩
  · obtain ⟨n, hn⟩ : ∃ n, l.length = n := ⟨_, rfl⟩
    have hcell : ∀ (j : Nat) (x : ByteArray), l[j]? = some x → w.cell? ⟨g, j, none⟩ = some (.string x) := fun j x hx => by
      have hj := (List.getElem?_eq_some_iff.1 hx).1
      have := hown.cellAt j (by omega)
      rw [this, List.getElem?_map, hx]
      rfl
    have hgl := (Array.getElem?_eq_some_iff.1 hg).1
    have HN := Lib.hid hn
    have HC := Lib.hid hcell
    rw [hn] at h1 hfew ⊢
    unfold maxLen at h2
    clear hb hg h3 h4 hown hcell hn
    go_enter Tryz.func44, Tryz.ntmps44
    go_wp2
    go_loop [5] (fun v => ∃ k : Nat, k ≤ n ∧ v = .int .i64 k ∧ Hid (∀ x ∈ l.take k, ltT x s = true)) (fun v => n - (intOf v).toNat)
    case atStart => exact ⟨0, Nat.zero_le _, rfl, fun x hx => by simp at hx⟩
    case round =>
      obtain ⟨k, hk, rfl, HT⟩ := hrel
      by_cases hlt : k < n
      · obtain ⟨x, hx⟩ : ∃ x, l[k]? = some x := ⟨l[k]'(by have := HN.out; omega), List.getElem?_eq_getElem _⟩
        have c0 := HC.out k x hx
        have q0 := less_eq x s
        cases hlx : ltT x s with
        | true =>
          rw [hlx] at q0
          have HT2 : Hid (∀ y ∈ l.take (k + 1), ltT y s = true) := by
            intro y hy
            rw [take_more l k x hx] at hy
            rcases List.mem_append.1 hy with hy | hy
            · exact HT.out y hy
            · rw [List.mem_singleton.1 hy]; exact hlx
          clear hx hlx
          go_wp2
          go_round
          case rel => exact ⟨k + 1, by omega, by go_num, HT2⟩
          case measure => simp [intOf]; omega
        | false =>
          rw [hlx] at q0
          have HI := Lib.hid (insL_at HT.out (Or.inr ⟨x, hx, hlx⟩))
          have hck : cap ≠ k := by omega
          clear hx hlx
          obtain ⟨L1, hL1⟩ : ∃ L1, (l.take k).map Value.string = L1 := ⟨_, rfl⟩
          obtain ⟨L2, hL2⟩ : ∃ L2, (l.drop k).map Value.string = L2 := ⟨_, rfl⟩
          have HL1 := Lib.hid hL1
          have HL2 := Lib.hid hL2
          have HLen1 : Hid (L1.length = k * 1) := (by show L1.length = k * 1; rw [← hL1, List.length_map, List.length_take, Nat.mul_one]; have := HN.out; omega)
          have HLen2 : Hid (L2.length = (n - k) * 1) := (by show L2.length = (n - k) * 1; rw [← hL2, List.length_map, List.length_drop, Nat.mul_one, HN.out])
          have HC1 : Hid (∀ j u, L1[j]? = some u → w.cell? ((⟨g, 0, none⟩ : Addr).add j) = some u) := (by rw [← hL1]; exact texts_at (off := 0) (fun j x hx => (by
            rw [Nat.zero_add]
            rw [List.getElem?_take] at hx
            split at hx
            · exact HC.out j x hx
            · cases hx)))
          have HC2 : Hid (∀ j u, L2[j]? = some u → w.cell? ((⟨g, k, none⟩ : Addr).add j) = some u) := (by rw [← hL2]; exact texts_at (off := k) (fun j x hx => HC.out _ x (by rw [List.getElem?_drop] at hx; exact hx)))
          have HO1 : Hid (∀ u ∈ L1, u.oneCell' = true) := (by rw [← hL1]; exact texts_plain _)
          have HO2 : Hid (∀ u ∈ L2, u.oneCell' = true) := (by rw [← hL2]; exact texts_plain _)
          clear hL1 hL2
          go_wp2_with (at_builtin; refine wpList_append_own_at _ rfl (.tmp 21) (.tmp 24) 30 rfl w.heap.size 9 i0 (.string ByteArray.empty) 1 16 Tryz.underlying30 hi hz0 hz1 hz2 rfl (by decide) (.slice none 0 0) 0 [] rfl (World.ownsRow_nil w _ _ _) ⟨g, 0, none⟩ k cap L1 rfl HLen1.out HC1.out HO1.out (by unfold maxLen; omega) (by omega) (Nat.le_refl _) ?_)
          intro v1 w1 hown1 hgrow1 _ _
          obtain ⟨ad1, cap1, rfl, _, _⟩ := row_shape hown1
          have HB1 : Hid (Below w.heap.size w w1) := (Below.refl _ _).grown hgrow1 (Nat.le_refl _) (fun k hk => (by cases hk))
          have HOwn1 := Lib.hid (hown1.alloc (.cells #[.string s] 9))
          have HLt1 : Hid (w.heap.size ≤ (w1.alloc (.cells #[.string s] 9)).heap.size) := (by show w.heap.size ≤ _; have := HB1.out.size; simp; omega)
          have HCn := Lib.hid (cell_one_new w1 (.string s) 9)
          have HRow1 := Lib.hid hown1.lt
          clear hown1 hgrow1 HLen1 HC1
          go_wp2_with (at_builtin; refine wpList_append_lies _ rfl (.tmp 26) (.tmp 28) 30 rfl w.heap.size 9 i0 (.string ByteArray.empty) 1 16 Tryz.underlying30 hi hz0 hz1 hz2 rfl (by decide) _ k L1 rfl HOwn1.out ⟨w1.heap.size, 0, none⟩ 1 1 [.string s] rfl rfl HCn.out (by simp [Value.oneCell']) (by decide) (by unfold maxLen; omega) (by omega) HLt1.out _ rfl ?_)
          intro g2 cap2 w2 hown2 hgrow2 _ _
          have HB2 : Hid (Below w.heap.size w w2) := (HB1.out.alloc HB1.out.size _).grown hgrow2 HLt1.out (fun k hk => (HRow1.out k hk).1)
          have HOwn2 := Lib.hid hown2
          clear hown2 hgrow2 HOwn1 HCn HRow1 HLt1
          go_wp2_with (at_builtin; refine wpList_append_src _ rfl (.tmp 30) (.tmp 33) 30 rfl w.heap.size 9 i0 (.string ByteArray.empty) 1 16 Tryz.underlying30 hi hz0 hz1 hz2 rfl (by decide) g2 _ cap2 _ rfl HOwn2.out (some ⟨g, k, none⟩) (n - k) (cap - k) rfl (fun h => (by cases h)) L2 HLen2.out (fun a ha j u hu => (by cases ha; rw [HB2.out.cell (p := (⟨g, k, none⟩ : Addr).add j) (by rw [add_block]; exact hgl)]; exact HC2.out j u hu)) HO2.out (by unfold maxLen; omega) (by omega) HB2.out.size ?_)
          intro g3 cap3 w3 hown3 hgrow3 _
          have HE := Lib.hid (put_end HN.out hk rfl HI.out HL1.out HL2.out (by simpa using hown3))
          have HB3 : Hid (Below w.heap.size w w3) := HB2.out.grown hgrow3 HB2.out.size (fun j hj => (by cases hj; exact (HOwn2.out.lt _ rfl).1))
          clear hown3 hgrow3 HOwn2 HC2 HO2 HLen2
          go_wp2
          go_ret
          exact ⟨_, rfl, HE.out, HB3.out⟩
      · have HI := Lib.hid (insL_at HT.out (Or.inl (by have := HN.out; omega)))
        by_cases hck : cap = k
        · obtain rfl : k = n := by omega
          obtain rfl : k = cap := by omega
          obtain ⟨L1, hL1⟩ : ∃ L1, (l.take k).map Value.string = L1 := ⟨_, rfl⟩
          obtain ⟨L2, hL2⟩ : ∃ L2, (l.drop k).map Value.string = L2 := ⟨_, rfl⟩
          have HL1 := Lib.hid hL1
          have HL2 := Lib.hid hL2
          have HLen1 : Hid (L1.length = k * 1) := (by show L1.length = k * 1; rw [← hL1, List.length_map, List.length_take, Nat.mul_one]; have := HN.out; omega)
          have HLen2 : Hid (L2.length = (k - k) * 1) := (by show L2.length = (k - k) * 1; rw [← hL2, List.length_map, List.length_drop, Nat.mul_one, HN.out])
          have HC1 : Hid (∀ j u, L1[j]? = some u → w.cell? ((⟨g, 0, none⟩ : Addr).add j) = some u) := (by rw [← hL1]; exact texts_at (off := 0) (fun j x hx => (by
            rw [Nat.zero_add]
            rw [List.getElem?_take] at hx
            split at hx
            · exact HC.out j x hx
            · cases hx)))
          have HC2 : Hid (∀ j u, L2[j]? = some u → w.cell? ((⟨g, k, none⟩ : Addr).add j) = some u) := (by rw [← hL2]; exact texts_at (off := k) (fun j x hx => HC.out _ x (by rw [List.getElem?_drop] at hx; exact hx)))
          have HO1 : Hid (∀ u ∈ L1, u.oneCell' = true) := (by rw [← hL1]; exact texts_plain _)
          have HO2 : Hid (∀ u ∈ L2, u.oneCell' = true) := (by rw [← hL2]; exact texts_plain _)
          clear hL1 hL2
          go_wp2_with (at_builtin; refine wpList_append_own_at _ rfl (.tmp 21) (.tmp 24) 30 rfl w.heap.size 9 i0 (.string ByteArray.empty) 1 16 Tryz.underlying30 hi hz0 hz1 hz2 rfl (by decide) (.slice none 0 0) 0 [] rfl (World.ownsRow_nil w _ _ _) ⟨g, 0, none⟩ k k L1 rfl HLen1.out HC1.out HO1.out (by unfold maxLen; omega) (by omega) (Nat.le_refl _) ?_)
          intro v1 w1 hown1 hgrow1 _ _
          obtain ⟨ad1, cap1, rfl, _, _⟩ := row_shape hown1
          have HB1 : Hid (Below w.heap.size w w1) := (Below.refl _ _).grown hgrow1 (Nat.le_refl _) (fun k hk => (by cases hk))
          have HOwn1 := Lib.hid (hown1.alloc (.cells #[.string s] 9))
          have HLt1 : Hid (w.heap.size ≤ (w1.alloc (.cells #[.string s] 9)).heap.size) := (by show w.heap.size ≤ _; have := HB1.out.size; simp; omega)
          have HCn := Lib.hid (cell_one_new w1 (.string s) 9)
          have HRow1 := Lib.hid hown1.lt
          clear hown1 hgrow1 HLen1 HC1
          go_wp2_with (at_builtin; refine wpList_append_lies _ rfl (.tmp 26) (.tmp 28) 30 rfl w.heap.size 9 i0 (.string ByteArray.empty) 1 16 Tryz.underlying30 hi hz0 hz1 hz2 rfl (by decide) _ k L1 rfl HOwn1.out ⟨w1.heap.size, 0, none⟩ 1 1 [.string s] rfl rfl HCn.out (by simp [Value.oneCell']) (by decide) (by unfold maxLen; omega) (by omega) HLt1.out _ rfl ?_)
          intro g2 cap2 w2 hown2 hgrow2 _ _
          have HB2 : Hid (Below w.heap.size w w2) := (HB1.out.alloc HB1.out.size _).grown hgrow2 HLt1.out (fun k hk => (HRow1.out k hk).1)
          have HOwn2 := Lib.hid hown2
          clear hown2 hgrow2 HOwn1 HCn HRow1 HLt1
          go_wp2_with (at_builtin; refine wpList_append_src _ rfl (.tmp 30) (.tmp 33) 30 rfl w.heap.size 9 i0 (.string ByteArray.empty) 1 16 Tryz.underlying30 hi hz0 hz1 hz2 rfl (by decide) g2 _ cap2 _ rfl HOwn2.out (some ⟨g, 0, none⟩) 0 0 rfl (fun h => (by cases h)) [] rfl (fun _ _ j u hu => (by simp at hu)) (fun u hu => (by cases hu)) (by unfold maxLen; omega) (by omega) HB2.out.size ?_)
          intro g3 cap3 w3 hown3 hgrow3 _
          have h2 : L2 = [] := List.length_eq_zero_iff.1 (by have := HLen2.out; omega)
          have HE := Lib.hid (put_end (m := k + 1) HN.out (Nat.le_refl _) (by omega) HI.out HL1.out (HL2.out.trans h2) (by simpa using hown3))
          have HB3 : Hid (Below w.heap.size w w3) := HB2.out.grown hgrow3 HB2.out.size (fun j hj => (by cases hj; exact (HOwn2.out.lt _ rfl).1))
          clear hown3 hgrow3 HOwn2 HC2 HO2 HLen2 h2
          go_wp2
          go_ret
          exact ⟨_, rfl, HE.out, HB3.out⟩
        · obtain ⟨L1, hL1⟩ : ∃ L1, (l.take k).map Value.string = L1 := ⟨_, rfl⟩
          obtain ⟨L2, hL2⟩ : ∃ L2, (l.drop k).map Value.string = L2 := ⟨_, rfl⟩
          have HL1 := Lib.hid hL1
          have HL2 := Lib.hid hL2
          have HLen1 : Hid (L1.length = k * 1) := (by show L1.length = k * 1; rw [← hL1, List.length_map, List.length_take, Nat.mul_one]; have := HN.out; omega)
          have HLen2 : Hid (L2.length = (n - k) * 1) := (by show L2.length = (n - k) * 1; rw [← hL2, List.length_map, List.length_drop, Nat.mul_one, HN.out])
          have HC1 : Hid (∀ j u, L1[j]? = some u → w.cell? ((⟨g, 0, none⟩ : Addr).add j) = some u) := (by rw [← hL1]; exact texts_at (off := 0) (fun j x hx => (by
            rw [Nat.zero_add]
            rw [List.getElem?_take] at hx
            split at hx
            · exact HC.out j x hx
            · cases hx)))
          have HC2 : Hid (∀ j u, L2[j]? = some u → w.cell? ((⟨g, k, none⟩ : Addr).add j) = some u) := (by rw [← hL2]; exact texts_at (off := k) (fun j x hx => HC.out _ x (by rw [List.getElem?_drop] at hx; exact hx)))
          have HO1 : Hid (∀ u ∈ L1, u.oneCell' = true) := (by rw [← hL1]; exact texts_plain _)
          have HO2 : Hid (∀ u ∈ L2, u.oneCell' = true) := (by rw [← hL2]; exact texts_plain _)
          clear hL1 hL2
          go_wp2_with (at_builtin; refine wpList_append_own_at _ rfl (.tmp 21) (.tmp 24) 30 rfl w.heap.size 9 i0 (.string ByteArray.empty) 1 16 Tryz.underlying30 hi hz0 hz1 hz2 rfl (by decide) (.slice none 0 0) 0 [] rfl (World.ownsRow_nil w _ _ _) ⟨g, 0, none⟩ k cap L1 rfl HLen1.out HC1.out HO1.out (by unfold maxLen; omega) (by omega) (Nat.le_refl _) ?_)
          intro v1 w1 hown1 hgrow1 _ _
          obtain ⟨ad1, cap1, rfl, _, _⟩ := row_shape hown1
          have HB1 : Hid (Below w.heap.size w w1) := (Below.refl _ _).grown hgrow1 (Nat.le_refl _) (fun k hk => (by cases hk))
          have HOwn1 := Lib.hid (hown1.alloc (.cells #[.string s] 9))
          have HLt1 : Hid (w.heap.size ≤ (w1.alloc (.cells #[.string s] 9)).heap.size) := (by show w.heap.size ≤ _; have := HB1.out.size; simp; omega)
          have HCn := Lib.hid (cell_one_new w1 (.string s) 9)
          have HRow1 := Lib.hid hown1.lt
          clear hown1 hgrow1 HLen1 HC1
          go_wp2_with (at_builtin; refine wpList_append_lies _ rfl (.tmp 26) (.tmp 28) 30 rfl w.heap.size 9 i0 (.string ByteArray.empty) 1 16 Tryz.underlying30 hi hz0 hz1 hz2 rfl (by decide) _ k L1 rfl HOwn1.out ⟨w1.heap.size, 0, none⟩ 1 1 [.string s] rfl rfl HCn.out (by simp [Value.oneCell']) (by decide) (by unfold maxLen; omega) (by omega) HLt1.out _ rfl ?_)
          intro g2 cap2 w2 hown2 hgrow2 _ _
          have HB2 : Hid (Below w.heap.size w w2) := (HB1.out.alloc HB1.out.size _).grown hgrow2 HLt1.out (fun k hk => (HRow1.out k hk).1)
          have HOwn2 := Lib.hid hown2
          clear hown2 hgrow2 HOwn1 HCn HRow1 HLt1
          go_wp2_with (at_builtin; refine wpList_append_src _ rfl (.tmp 30) (.tmp 33) 30 rfl w.heap.size 9 i0 (.string ByteArray.empty) 1 16 Tryz.underlying30 hi hz0 hz1 hz2 rfl (by decide) g2 _ cap2 _ rfl HOwn2.out (some ⟨g, k, none⟩) (n - k) (cap - k) rfl (fun h => (by cases h)) L2 HLen2.out (fun a ha j u hu => (by cases ha; rw [HB2.out.cell (p := (⟨g, k, none⟩ : Addr).add j) (by rw [add_block]; exact hgl)]; exact HC2.out j u hu)) HO2.out (by unfold maxLen; omega) (by omega) HB2.out.size ?_)
          intro g3 cap3 w3 hown3 hgrow3 _
          have HE := Lib.hid (put_end HN.out hk rfl HI.out HL1.out HL2.out (by simpa using hown3))
          have HB3 : Hid (Below w.heap.size w w3) := HB2.out.grown hgrow3 HB2.out.size (fun j hj => (by cases hj; exact (HOwn2.out.lt _ rfl).1))
          clear hown3 hgrow3 HOwn2 HC2 HO2 HLen2
          go_wp2
          go_ret
          exact ⟨_, rfl, HE.out, HB3.out⟩
end
end Go.Proofs.YtcgpmnlondnbhaaGreatDoor
